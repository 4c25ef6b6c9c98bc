/-
  The walk of GraphTells.
-/
import Derived.Test.YtclbpohhmaojcaaGraphCalls
import Derived.Test.YtclbpohhmaojcaaGraphSortsWalk
namespace Go.Proofs.Ytclbpohhmaojcaa.GrW
set_option linter.unusedVariables false
open Go Go.RowKit Go.Proofs Go.Proofs.Ytclbpohhmaojcaa Go.Proofs.Ytclbpohhmaojcaa.Wd
open Go.Proofs.Ytclbpohhmaojcaa.Gr (OK ofL IsR outs intos ev edgesTo putL cutL)

theorem edgesTo_empty (n k : Nat) : edgesTo (List.replicate (2 * n) []) k = [] := by
  apply List.eq_nil_iff_forall_not_mem.2
  intro x hx
  obtain ⟨u, hu, -, h2⟩ := Gr.mem_edgesTo.1 hx
  have := (OK.empty n).ins (2 * u) x.2 h2
  unfold outs at h2
  have e : (List.replicate (2 * n) ([] : List Int)).getD (2 * u) [] = [] := by
    simp only [List.getD]
    by_cases h : 2 * u < 2 * n
    · simp [h]
    · rw [List.getElem?_eq_none (by simp; omega)]; rfl
  rw [e] at h2
  simp at h2
/-- What a sort tells, of whoever sorts. -/
def SortT (w : World) (n : Nat) (out : List Int) (e : Ending) (w' : World) : Prop := ∃ A c, e = .returned (.tuple #[.slice A (if out.length = n then out else []).length c, .bool (decide (out.length = n))]) ∧ Below w.heap.size w w' ∧ w'.ownsRow w.heap.size 3 1 (.slice A (if out.length = n then out else []).length c) (if out.length = n then out else []).length (iv (if out.length = n then out else []))
theorem SortOut.t {w w' : World} {n : Nat} {L : List (List Int)} {out : List Int} {e : Ending} (h : SortOut w n L e w') (h1 : Gr.Topo n L out) (h2 : ∀ v, ¬ Gr.Free n L out v) : SortT w n out e w' := by
  obtain ⟨out2, k1, k2, k3, k4⟩ := h
  have e1 := k1.unique h1 k2 h2
  subst e1
  rcases k4 with ⟨k4, v', rfl, k5⟩ | ⟨k4, rfl⟩
  · unfold SortT
    rw [if_pos k4, decide_eq_true k4]
    obtain ⟨A, c, rfl⟩ := own_form k5
    exact ⟨A, c, rfl, k3, k5⟩
  · unfold SortT
    rw [if_neg (by omega), decide_eq_false (by omega)]
    exact ⟨none, 0, rfl, k3, own_nil _ _ _⟩
/-- The call's box stays while a graph is another. -/
theorem box_upd {wr w' : World} {base g n : Nat} {F : Nat → Prop} {L : List (List Int)} {b : Nat} {t : TypeId} {cs : Array Value} (hb : Blk wr b t cs) (hF : ¬ F b) (hU : Upd base F g n L wr w') : Blk w' b t cs := by
  obtain ⟨F', h1, h2, h3⟩ := hU
  exact (h2.block b hb.lt hF).trans hb
theorem refreach_b {w : World} {n : Nat} (hn : n ≤ 30000) {L : List (List Int)} (ok : OK n L) {R : Int → Int → Bool} (hR : IsR n L R) {A : Option Addr} {q c : Nat} (hq : q = (edgesTo L n).length) (hqc : q ≤ c) (hcm : c ≤ maxLen) (hbig : q ≤ 1000000) (hE : EdgesAt w w.heap.size A (edgesTo L n)) (x y : Int) : Calls Try.prog 34 #[rv n A q c, .int .i64 x, .int .i64 y] w fun e w' => e = .returned (.bool (R x y)) ∧ Below w.heap.size w w' := by
  refine (refreach_any w n hn L ok A q c hq hqc hcm hbig hE x y).mono ?_
  rintro e w' ⟨b, rfl, h1, h2⟩
  have : b = R x y := by rw [Bool.eq_iff_iff, h1, hR]
  rw [this]
  exact ⟨rfl, h2⟩
/-- The loops of a function's code, in order. -/
def loopsOf : Code → List Code
  | .loop c => [c]
  | .seq a b => loopsOf a ++ loopsOf b
  | .block _ c => loopsOf c
  | .scope c => loopsOf c
  | .cond _ a b => loopsOf a ++ loopsOf b
  | _ => []
noncomputable def tellsBody1 : Code := (((Try.f7.body).map loopsOf).getD []).getD 0 .skip
noncomputable def tellsBody2 : Code := (((Try.f7.body).map loopsOf).getD []).getD 1 .skip
end Go.Proofs.Ytclbpohhmaojcaa.GrW
