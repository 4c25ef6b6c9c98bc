/-
  The walk of Append.
-/
import Derived.Test.YtpohefpiidlnjaaDiskWalks3
import Derived.Test.YtpohefpiidlnjaaWordsRange
import Derived.Deep.DeepCutAuto
import Derived.Shelf.Abstract
namespace Go.Proofs.Ytpohefpiidlnjaa.Dk
set_option linter.unusedVariables false
open Go Go.RowKit Go.Shelf Go.Proofs Go.Proofs.Ytpohefpiidlnjaa Go.Proofs.Ytpohefpiidlnjaa.Wd

section
variable {base : Nat} {F : Nat → Prop} {g : Nat} {s : DS}
/-- What Append answers, and makes of a disk. -/
def appD (s : DS) (i : Int) (b : List UInt8) : Nat × DS :=
  if s.dead then (3, s) else if (decide (i = 0) || decide (i = 1)) = false then (2, s) else if free s < b.length then (5, s) else after s (putD i.toNat b b.length) (putD i.toNat b)
end
end Go.Proofs.Ytpohefpiidlnjaa.Dk
