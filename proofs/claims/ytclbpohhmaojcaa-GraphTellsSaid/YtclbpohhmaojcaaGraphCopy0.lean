/-
  The walk of a clone of vertices: a block of its own, the same rows in its cells.
-/
import Derived.Test.YtclbpohhmaojcaaGraphEdges
import Derived.Test.YtclbpohhmaojcaaWordsMap
import Derived.Lib.BufferMore
namespace Go.Proofs.Ytclbpohhmaojcaa.GrW
set_option linter.unusedVariables false
open Go Go.RowKit Go.Proofs Go.Proofs.Ytclbpohhmaojcaa Go.Proofs.Ytclbpohhmaojcaa.Wd

/-- The rows of a graph, each where it is told, in the cells of one block. -/
structure Lies (w0 w : World) (base r n c : Nat) (cur : Array Value) (L : List (List Int)) (k : Nat) : Prop where
  blk : Blk w r 71 cur
  size : cur.size = c * 2
  cap : n ≤ c
  max : c ≤ maxLen
  len : L.length = 2 * n
  rest : ∀ i, 2 * k ≤ i → i < 2 * n → ∃ A d, cur[i]? = some (.slice A (L.getD i []).length d) ∧ IRow w0 base (.slice A (L.getD i []).length d) (L.getD i [])
theorem GAt.vlies {w : World} {base g n : Nat} {F : Nat → Prop} {L : List (List Int)} (h : GAt w base F g n L) : ∃ r c cur, Head w g (.slice (some ⟨r, 0, none⟩) n c) ∧ Lies w w base r n c cur L 0 := by
  obtain ⟨r, c, cur, h1, h2, h3, h4, h5, h6, h7, -⟩ := h
  refine ⟨r, c, cur, ⟨h1.cell 0, h1.cell 1⟩, h3.blk, h7, h5, h6, h4, fun i _ hi => ?_⟩
  obtain ⟨v, hv, hr⟩ := h3.row i (by omega)
  have e : L.getD i [] = L[i]'(by omega) := by simp [List.getD, h4, hi]
  obtain ⟨A, d, rfl⟩ := hr.lies
  rw [e]
  exact ⟨A, d, hv, hr⟩
theorem Lies.own {w0 w : World} {base r n c : Nat} {cur : Array Value} {L : List (List Int)} (h : Lies w0 w base r n c cur L 0) : w.ownsRow 0 71 2 (.slice (some ⟨r, 0, none⟩) n c) n (cur.toList.take (n * 2)) ∧ ∀ u ∈ cur.toList.take (n * 2), u.oneCell' = true := by
  have hle : n * 2 ≤ cur.size := by have := h.size; have := h.cap; omega
  refine ⟨⟨by simp; omega, .inr ⟨r, c, cur, rfl, Nat.zero_le _, h.blk, h.cap, h.max, h.size, rfl⟩⟩, fun u hu => ?_⟩
  obtain ⟨i, hi, rfl⟩ := List.getElem_of_mem hu
  rw [List.length_take] at hi
  obtain ⟨A, d, hc, -⟩ := h.rest i (Nat.zero_le _) (by omega)
  rw [List.getElem_take]
  have hi2 : i < cur.size := by simp at hi; omega
  rw [Array.getElem?_eq_getElem hi2] at hc
  have : cur.toList[i] = .slice A (L.getD i []).length d := by simpa using hc
  rw [this]; rfl
def CloneOut (w0 w : World) (base n : Nat) (L : List (List Int)) (e : Ending) (w' : World) : Prop :=
  ∃ r c cur, e = .returned (.slice (some ⟨r, 0, none⟩) n c) ∧ w.heap.size ≤ r ∧ Below w.heap.size w w' ∧ Lies w0 w' base r n c cur L 0
theorem clone_vertices (w0 w : World) (base r n c : Nat) (cur : Array Value) (L : List (List Int)) (h : Lies w0 w base r n c cur L 0) (hn : n ≤ 30000) :
    Calls Try.prog 43 #[.slice (some ⟨r, 0, none⟩) n c] w (CloneOut w0 w base n L) := by
  obtain ⟨i0, hi0, hz0, hz1, hz2⟩ := info_parts infoVertex
  obtain ⟨hsrc, h1c⟩ := h.own
  have r1 : World.ownsRow (w.alloc (.cells #[] 71)) w.heap.size 71 2 (.slice (some ⟨w.heap.size, 0, none⟩) 0 0) 0 [] := (Blk.new_ w 71 #[] rfl).ownS (Nat.le_refl _) 2 0 rfl (by decide)
  obtain ⟨v', w', hrun, hown, hgrow, hob⟩ := run_append_own2 (P := Try.prog) (w.alloc (.cells #[] 71)) w.heap.size 0 63 63 71 i0 _ 2 48 Try.underlying63 hi0 hz0 hz1 hz2 rfl (by omega) _ 0 [] r1 (some ⟨r, 0, none⟩) n c _ (hsrc.alloc _) h1c (by unfold maxLen; omega) (by omega) (by simp)
  have hB : Below w.heap.size w w' := ((Below.refl _ w).alloc (Nat.le_refl _) (.cells #[] 71)).grown hgrow (by simp) (fun j hj => by simp [Value.ownBlock] at hj; omega)
  obtain ⟨r2, c2, cur2, rfl, hr2, hb2, hn2, hm2, hs2, ht2⟩ : ∃ r2 c2 cur2, v' = .slice (some ⟨r2, 0, none⟩) n c2 ∧ w.heap.size ≤ r2 ∧ Blk w' r2 71 cur2 ∧ n ≤ c2 ∧ c2 ≤ maxLen ∧ cur2.size = c2 * 2 ∧ cur2.toList.take (n * 2) = cur.toList.take (n * 2) := by
    rcases hown.2 with ⟨hv, hn0⟩ | ⟨g2, cap2, cur2, hv, h1, h2, h3, h4, h5, h6⟩
    · rw [hv] at hob
      simp [Value.ownBlock] at hob
    · rw [Nat.zero_add] at hv h3 h6
      exact ⟨g2, cap2, cur2, hv, h1, h2, h3, h4, h5, h6⟩
  have HF : Hid (CloneOut w0 w base n L (.returned (.slice (some ⟨r2, 0, none⟩) n c2)) w') := Lib.hid (by
    refine ⟨r2, c2, cur2, rfl, hr2, hB, hb2, hs2, hn2, hm2, h.len, fun i h0 hi => ?_⟩
    obtain ⟨A, d, hc, hrw⟩ := h.rest i h0 hi
    refine ⟨A, d, ?_, hrw⟩
    rw [← hc]
    have e := congrArg (fun l => l[i]?) ht2
    rw [List.getElem?_take_of_lt (by omega), List.getElem?_take_of_lt (by omega)] at e
    simpa using e)
  clear hB hown hgrow hob hsrc h1c r1 h hr2 hb2 hn2 hm2 hs2 ht2
  go_enter Try.func43, Try.ntmps43
  have HRUN := Lib.hid hrun
  clear hrun
  have hnil : ∀ W, (binOp .eql 63 (.slice (some ⟨r, 0, none⟩) n c) (.slice none 0 0)).run Try.prog W = .ok (.bool false) W := fun W => Lib.run_eql_slice_some_nil W _ _ _ Try.underlying63
  go_wp2_with (at_builtin; refine Lib.wpList_append_run _ rfl (.tmp 5) (.tmp 6) 63 63 rfl _ _ rfl rfl _ _ HRUN.out ?_)
  go_wp2_with fail
  go_ret
  exact HF.out
end Go.Proofs.Ytclbpohhmaojcaa.GrW
