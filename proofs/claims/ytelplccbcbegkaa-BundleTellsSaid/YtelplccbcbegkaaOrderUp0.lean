/-
  The walk of up: each edge of an order that is well formed goes up.
-/
import Derived.Test.YtelplccbcbegkaaOrderBoth
namespace Go.Proofs.Ytelplccbcbegkaa.OrW
set_option linter.unusedVariables false
open Go Go.RowKit Go.Proofs Go.Proofs.Ytelplccbcbegkaa Go.Proofs.Ytelplccbcbegkaa.Wd Go.Proofs.Ytelplccbcbegkaa.GrW Go.Proofs.Ytelplccbcbegkaa.Ord
open Go.Proofs.Ytelplccbcbegkaa.Gr (OK putL outs intos Path edgesTo)

section
variable {w : World} {base o n : Nat} {F : Nat → Prop} {L : List (List Int)} {P A : List Nat}
theorem place_v (h : OAt w base F o n L P A) (hP : Perm n P A) (v : Nat) (hv : v < n) : Calls Try.prog 22 #[.pointer (some ⟨o, 0, none⟩), .int .i64 (v : Nat)] w fun e w' => e = .returned (.tuple #[.int .i64 (P.getD v 0 : Nat), .bool true]) ∧ w = w' := by
  have e : isV n (v : Int) = true := by unfold isV; simp; omega
  refine (place_o h hP (v : Nat)).mono ?_
  rintro e' w' ⟨rfl, rfl⟩
  rw [e, if_pos rfl, Int.toNat_natCast]
  exact ⟨rfl, rfl⟩
end
theorem edge_of {n : Nat} {L : List (List Int)} (ok : OK n L) {i : Nat} (hi : i < (edgesTo L n).length) : ∃ x y : Nat, (edgesTo L n)[i] = ((x : Int), (y : Int)) ∧ x < n ∧ y < n ∧ Gr.E L x y := by
  obtain ⟨u, hu, e1, h2⟩ := Gr.mem_edgesTo.1 (List.getElem_mem hi)
  have h3 := ok.ins _ _ h2
  obtain ⟨y, hy⟩ : ∃ y : Nat, ((edgesTo L n)[i]).2 = (y : Int) := ⟨_, (Int.toNat_of_nonneg h3.1).symm⟩
  refine ⟨u, y, Prod.ext e1 hy, hu, by omega, ?_⟩
  unfold Gr.E
  rw [← hy]; exact h2
end Go.Proofs.Ytelplccbcbegkaa.OrW
