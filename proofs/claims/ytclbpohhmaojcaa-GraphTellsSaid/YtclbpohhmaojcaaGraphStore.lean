/-
  A row of a graph that is put in its place.
-/
import Derived.Test.YtclbpohhmaojcaaGraphHas
namespace Go.Proofs.Ytclbpohhmaojcaa.GrW
set_option linter.unusedVariables false
open Go Go.RowKit Go.Proofs Go.Proofs.Ytclbpohhmaojcaa Go.Proofs.Ytclbpohhmaojcaa.Wd

theorem GAt.store {w : World} {base g n : Nat} {F : Nat → Prop} {L : List (List Int)} (h : GAt w base F g n L) : ∃ r c, Head w g (.slice (some ⟨r, 0, none⟩) n c) ∧ ∀ i, i < 2 * n → ∃ A d, w.cell? ⟨r, i, none⟩ = some (.slice A (L.getD i []).length d) ∧ IRow w base (.slice A (L.getD i []).length d) (L.getD i []) ∧
    ∀ w' v' l, IRow w' base v' l → w.grownBy w' (Value.slice A (L.getD i []).length d).ownBlock → (v'.ownBlock = (Value.slice A (L.getD i []).length d).ownBlock ∨ ∃ b, v'.ownBlock = some b ∧ w.heap.size ≤ b) →
      (Head w' g (.slice (some ⟨r, 0, none⟩) n c) ∧ Head (w'.setCell ⟨r, i, none⟩ v') g (.slice (some ⟨r, 0, none⟩) n c)) ∧ w'.cell? ⟨r, i, none⟩ = some (.slice A (L.getD i []).length d) ∧ w'.frozen? ⟨r, i, none⟩ = false ∧ GAt (w'.setCell ⟨r, i, none⟩ v') base (fun k => F k ∨ w.heap.size ≤ k) g n (L.set i l) ∧ Fr F w (w'.setCell ⟨r, i, none⟩ v') := by
  obtain ⟨r, c, cur, h1, h2, h3, h4, h5, h6, h7, f1, f2, f3⟩ := h
  refine ⟨r, c, ⟨h1.cell 0, h1.cell 1⟩, fun i hi => ?_⟩
  obtain ⟨v, hv, hr⟩ := h3.row i (by omega)
  have e : L.getD i [] = L[i]'(by omega) := by simp [List.getD, h4, hi]
  obtain ⟨A, d, rfl⟩ := hr.lies
  rw [e]
  refine ⟨A, d, (h3.blk.cell i).trans hv, hr, fun w' v' l hr' hg ho => ?_⟩
  have hne : some r ≠ (Value.slice A (L[i]'(by omega)).length d).ownBlock := fun e2 => h3.ne_row hr e2.symm rfl
  have hb' : Blk w' r 71 cur := h3.blk.grown hg hne
  have hgr : g ≠ r := fun e2 => by rw [e2] at h1; exact h1.ne_ h3.blk (by decide) rfl
  have hgi : some g ≠ (Value.slice A (L[i]'(by omega)).length d).ownBlock := fun e2 => by
    obtain ⟨_, cs, hb2⟩ := hr.blk e2.symm
    exact h1.ne_ hb2 (by decide) rfl
  have hic : i < cur.size := by have := h3.fits; omega
  refine ⟨⟨⟨(h1.grown hg hgi).cell 0, (h1.grown hg hgi).cell 1⟩, ⟨((h1.grown hg hgi).far (p := ⟨r, i, none⟩) hgr v').cell 0, ((h1.grown hg hgi).far (p := ⟨r, i, none⟩) hgr v').cell 1⟩⟩, (hb'.cell i).trans hv, hb'.frozen i, ⟨r, c, _, (h1.grown hg hgi).far (p := ⟨r, i, none⟩) hgr v', h2, h3.put (by omega) hv hr' hg ho, by rw [List.length_set]; exact h4, h5, h6, by rw [Array.size_setIfInBounds]; exact h7, .inl f1, .inl f2, fun j u b hj hu hb => ?_⟩, ?_⟩
  · rw [List.length_set] at hj
    by_cases e2 : i = j
    · subst e2
      rw [Array.getElem?_setIfInBounds_self_of_lt hic] at hu
      cases hu
      rcases ho with ho | ⟨b2, ho, hlt⟩
      · exact .inl (f3 i _ b hj hv (by rw [← ho]; exact hb))
      · rw [hb] at ho
        cases ho
        exact .inr hlt
    · rw [Array.getElem?_setIfInBounds_ne e2] at hu
      exact .inl (f3 j u b hj hu hb)
  · exact (Fr.of_grown hg (fun b hb => f3 i _ b (by omega) hv hb)).set_ f2 i v'
end Go.Proofs.Ytclbpohhmaojcaa.GrW
