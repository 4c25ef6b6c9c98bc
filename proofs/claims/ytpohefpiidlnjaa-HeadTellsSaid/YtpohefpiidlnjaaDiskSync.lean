/-
  The walk of Sync.
-/
import Derived.Test.YtpohefpiidlnjaaDiskWalks5
import Derived.Test.YtpohefpiidlnjaaDiskWalks4
import Derived.Test.YtpohefpiidlnjaaWordsRange
import Derived.Deep.DeepCutAuto
import Derived.Shelf.Abstract
namespace Go.Proofs.Ytpohefpiidlnjaa.Dk
set_option linter.unusedVariables false
open Go Go.RowKit Go.Shelf Go.Proofs Go.Proofs.Ytpohefpiidlnjaa Go.Proofs.Ytpohefpiidlnjaa.Wd

section
variable {base : Nat} {F : Nat → Prop} {g : Nat} {s : DS}
/-- What Sync makes of a disk. -/
def syncD (k : Nat) (s : DS) : DS := { s with safe := upd s.safe k (s.all k).length }
/-- What Sync answers, and makes of a disk. -/
def syD (s : DS) (i : Int) : Nat × DS :=
  if s.dead then (3, s) else if (decide (i = 0) || decide (i = 1)) = false then (2, s) else after s (syncD i.toNat) (fun _ s => s)
end
end Go.Proofs.Ytpohefpiidlnjaa.Dk
