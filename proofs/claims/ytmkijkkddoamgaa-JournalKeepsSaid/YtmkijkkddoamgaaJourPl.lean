/-
  The journal, plainly: what its functions answer, and make of a disk and of a head.
-/
import Derived.Test.YtmkijkkddoamgaaJB0
import Derived.Test.YtmkijkkddoamgaaJH
namespace Go.Proofs.Ytmkijkkddoamgaa.Jo
set_option linter.unusedVariables false
open Go Go.RowKit Go.Shelf Go.Proofs Go.Proofs.Ytmkijkkddoamgaa Go.Proofs.Ytmkijkkddoamgaa.Wd Go.Proofs.Ytmkijkkddoamgaa.Dk Go.Proofs.Ytmkijkkddoamgaa.Hd Go.Proofs.Ytmkijkkddoamgaa.HdW
open Go.Proofs.Ytmkijkkddoamgaa.Bat (B)

/-- A segment is truncated, if it is longer. -/
def shortD (s : DS) (i n : Int) : Nat × DS := if ((rd s i).length : Int) ≤ n then (0, s) else trD s i n
/-- The next head is saved: a code, the disk, the head behind it. -/
def saveD (s : DS) (h : H) : Nat × DS × H := ((saveR s (up1 h)).1.2, (saveR s (up1 h)).2, if (saveR s (up1 h)).1.2 = 0 then (saveR s (up1 h)).1.1 else h)
/-- Two steps, one behind the other. -/
def then_ {α : Type} (r : Nat × α) (f : α → Nat × α) : Nat × α := if r.1 = 0 then f r.2 else r
def lift (f : DS → Nat × DS) (x : DS × H) : Nat × DS × H := ((f x.1).1, (f x.1).2, x.2)
/-- Both are shortened, and the head is saved. -/
def clearD (s : DS) (h : H) (i n j m : Int) : Nat × DS × H := then_ (then_ (lift (fun s => shortD s i n) (s, h)) (lift fun s => shortD s j m)) (fun x => saveD x.1 x.2)
def formatD (s : DS) : Nat × DS :=
  if (loadR s).2 ≠ 0 ∧ (loadR s).2 ≠ 50 then ((loadR s).2, s) else
    ((clearD s ⟨(loadR s).1.serial, 0, 0⟩ 0 0 1 0).1, (clearD s ⟨(loadR s).1.serial, 0, 0⟩ 0 0 1 0).2.1)
/-- The head of a journal that is opened, ahead of its save. -/
def openH (s : DS) : H := ⟨(loadR s).1.serial, ((loadR s).1.epoch + 1) % 18446744073709551616, (loadR s).1.live⟩
def openB (s : DS) : List B × Nat × Nat := Bat.scan (rd s ((loadR s).1.live : Nat))
def openD (s : DS) : Nat × DS × H :=
  if (loadR s).2 ≠ 0 then ((loadR s).2, s, none_) else clearD s (openH s) ((loadR s).1.live : Nat) ((openB s).2.1 : Nat) (1 - ((loadR s).1.live : Nat)) 0
def putJ (s : DS) (i : Int) (b : List UInt8) : Nat × DS := then_ (appD s i b) (fun s => syD s i)
def appendJ (s : DS) (h : H) (rows : B) : Nat × DS := if Bat.wrong rows ≠ 0 then (Bat.wrong rows, s) else putJ s (h.live : Nat) (Bat.put rows)
def turnJ (x : DS × H) : Nat × DS × H := ((saveD x.1 ⟨x.2.serial, x.2.epoch, 1 - x.2.live⟩).1, (saveD x.1 ⟨x.2.serial, x.2.epoch, 1 - x.2.live⟩).2.1, if (saveD x.1 ⟨x.2.serial, x.2.epoch, 1 - x.2.live⟩).1 = 0 then (saveD x.1 ⟨x.2.serial, x.2.epoch, 1 - x.2.live⟩).2.2 else x.2)
def switchJ (s : DS) (h : H) (rows : B) : Nat × DS × H := if Bat.wrong rows ≠ 0 then (Bat.wrong rows, s, h) else
  then_ (then_ (lift (fun s => putJ s (1 - (h.live : Nat)) (Bat.put rows)) (s, h)) turnJ) (lift fun s => shortD s (h.live : Nat) 0)
end Go.Proofs.Ytmkijkkddoamgaa.Jo
