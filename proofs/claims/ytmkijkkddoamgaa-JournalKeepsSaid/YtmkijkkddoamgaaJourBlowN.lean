/-
  An argument of blows, by its length.
-/
import Derived.Test.YtmkijkkddoamgaaJourBlow
namespace Go.Proofs.Ytmkijkkddoamgaa.Jo
set_option linter.unusedVariables false
open Go Go.RowKit Go.Shelf Go.Proofs Go.Proofs.Ytmkijkkddoamgaa Go.Proofs.Ytmkijkkddoamgaa.Wd Go.Proofs.Ytmkijkkddoamgaa.BatW Go.ChangeShapes Go.WideShapes
def BlsN (w : World) (B : Nat) (A : Option Addr) (n : Nat) : Prop := ∃ ls : List Bl, n = ls.length ∧ BlsAt w B A ls
theorem open_blsn {H : Type} {enc : TypeId × Value → H} {W : World} {base : Nat} {spare : Nat → Bool} {held : Bool} {fuel : Nat} {v : Value} {x : DataW H × List MemPlace} (hs : ∀ b, spare b = true) (h : DataW.trod enc Try.prog W base spare held fuel 66 [v] = some x) :
    ∃ (n : Nat) (A : Option Addr) (c : Nat), v = .slice A n c ∧ n ≤ c ∧ c ≤ maxLen ∧ BlsN W W.heap.size A n := by
  obtain ⟨ls, A, c, h1, h2, h3, h4⟩ := open_bls hs h
  exact ⟨ls.length, A, c, h1, h2, h3, ls, rfl, h4⟩
end Go.Proofs.Ytmkijkkddoamgaa.Jo
