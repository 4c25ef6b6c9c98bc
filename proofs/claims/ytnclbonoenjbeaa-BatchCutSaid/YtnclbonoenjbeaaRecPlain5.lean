/-
  Records put one behind the other, cut anywhere.
-/
import Derived.Test.YtnclbonoenjbeaaRecPlain4
namespace Go.Proofs.Ytnclbonoenjbeaa.Rec
set_option linter.unusedVariables false

theorem le_weight {rs : List R} {r : R} (h : r ∈ rs) : r.2.length + 9 ≤ weight rs := by
  induction rs with
  | nil => cases h
  | cons x t ih =>
    have e : weight (x :: t) = x.2.length + 9 + weight t := by simp [weight]
    rw [e]
    rcases List.mem_cons.1 h with rfl | h
    · omega
    · have := ih h; omega
/-- How many ends are at most k, and the last of these. -/
def cutAt (k : Nat) (l : List Nat) : Nat × Nat := l.foldl (fun p e => if e ≤ k then (p.1 + 1, e) else p) (0, 0)
theorem cutAt_snoc (k : Nat) (l : List Nat) (e : Nat) : cutAt k (l ++ [e]) = if e ≤ k then ((cutAt k l).1 + 1, e) else cutAt k l := by
  simp [cutAt, List.foldl_append]
theorem take_torn {r : R} (h : putErr r = 0) (more : List UInt8) {j : Nat} (h0 : 0 < j) (hj : j < (bytes r).length) : takeErr ((bytes r ++ more).take j) = 32 := by
  obtain ⟨hf, hl⟩ := putErr_zero h
  have hlen := bytes_length r
  have hd5 : (bytes r ++ more).drop 5 = four r.2.length ++ (r.2 ++ more) := by rw [bytes_app]; simp [four]
  have hjl : ((bytes r ++ more).take j).length = j := by rw [List.length_take, List.length_append]; omega
  unfold takeErr
  by_cases h9 : j < 9
  · rw [if_pos (by rw [hjl]; exact h9)]
  · have hn : number (((bytes r ++ more).take j).drop 5) = r.2.length := by
      rw [List.drop_take, hd5]
      have : (four r.2.length ++ (r.2 ++ more)).take (j - 5) = four r.2.length ++ (r.2 ++ more).take (j - 9) := by
        rw [List.take_append, List.take_of_length_le (by rw [four_length]; omega), four_length]
        congr 2
      rw [this]
      exact number_four (by omega) _
    rw [if_neg (by rw [hjl]; exact h9), hn, if_neg (by omega), if_pos (by rw [hjl]; omega)]
/-- Of records that are put, cut at k, the first W lie whole ahead of k, and no more. -/
theorem cutAt_spec {rs : List R} (k : Nat) (hk : k ≤ (flat rs).length) : ∃ W, W ≤ rs.length ∧ cutAt k (ends 0 rs) = (W, (flat (rs.take W)).length) ∧ (flat (rs.take W)).length ≤ k ∧ ∀ h : W < rs.length, k < (flat (rs.take (W + 1))).length := by
  have key : ∀ n, n ≤ rs.length → ∃ W, W ≤ n ∧ cutAt k (ends 0 (rs.take n)) = (W, (flat (rs.take W)).length) ∧ (flat (rs.take W)).length ≤ k ∧ (W < n → k < (flat (rs.take (W + 1))).length) := by
    intro n
    induction n with
    | zero => intro _; exact ⟨0, Nat.le_refl _, by simp [ends, cutAt, flat], by simp [flat], fun h => absurd h (Nat.lt_irrefl _)⟩
    | succ n ih =>
      intro hn
      obtain ⟨W, h1, h2, h3, h4⟩ := ih (by omega)
      have hts := List.take_succ_eq_append_getElem (l := rs) (i := n) (by omega)
      have he : ends 0 (rs.take (n + 1)) = ends 0 (rs.take n) ++ [(flat (rs.take (n + 1))).length] := by rw [hts, ends_snoc, Nat.zero_add]
      rw [he, cutAt_snoc, h2]
      by_cases hle : (flat (rs.take (n + 1))).length ≤ k
      · rw [if_pos hle]
        have hW : W = n := by
          rcases Nat.lt_or_ge W n with hlt | hge
          · have h5 := h4 hlt
            have h6 : (flat (rs.take (W + 1))).length ≤ (flat (rs.take (n + 1))).length := by
              rw [flat_length, flat_length]
              have := weight_take (rs.take (n + 1)) (W + 1)
              rw [List.take_take, Nat.min_eq_left (by omega)] at this
              exact this
            omega
          · omega
        subst hW
        exact ⟨W + 1, Nat.le_refl _, rfl, hle, fun h => absurd h (Nat.lt_irrefl _)⟩
      · rw [if_neg hle]
        refine ⟨W, by omega, rfl, h3, fun _ => ?_⟩
        rcases Nat.lt_or_ge W n with hlt | hge
        · exact h4 hlt
        · have : W = n := by omega
          subst this; omega
  obtain ⟨W, h1, h2, h3, h4⟩ := key rs.length (Nat.le_refl _)
  rw [List.take_length] at h2
  exact ⟨W, h1, h2, h3, h4⟩
theorem all_cut {rs : List R} (h : allFine rs = true) {k : Nat} (hk : k ≤ (flat rs).length) :
    all ((flat rs).take k) = (rs.take (cutAt k (ends 0 rs)).1, (cutAt k (ends 0 rs)).2, if (cutAt k (ends 0 rs)).2 = k then 0 else 32) ∧ (cutAt k (ends 0 rs)).1 ≤ rs.length := by
  obtain ⟨W, h1, h2, h3, h4⟩ := cutAt_spec k hk
  rw [h2]
  refine ⟨?_, h1⟩
  have hsp : flat rs = flat (rs.take W) ++ flat (rs.drop W) := by rw [← flat_append, List.take_append_drop]
  have htk : (flat rs).take k = flat (rs.take W) ++ (flat (rs.drop W)).take (k - (flat (rs.take W)).length) := by
    rw [hsp, List.take_append, List.take_of_length_le h3]
  rw [htk, all_flat (allFine_take h W)]
  dsimp only
  by_cases he : (flat (rs.take W)).length = k
  · rw [if_pos he, he, Nat.sub_self, List.take_zero, all_nil]; simp
  · rw [if_neg he]
    have hW : W < rs.length := by
      rcases Nat.lt_or_ge W rs.length with hlt | hge
      · exact hlt
      · rw [List.take_of_length_le hge] at h3 he; omega
    have h5 := h4 hW
    have hd : rs.drop W = rs[W] :: rs.drop (W + 1) := List.drop_eq_getElem_cons hW
    have hfd : flat (rs.drop W) = bytes rs[W] ++ flat (rs.drop (W + 1)) := by
      rw [hd]; unfold flat; rw [List.flatMap_cons]
    have hfs : (flat (rs.take (W + 1))).length = (flat (rs.take W)).length + (bytes rs[W]).length := by
      rw [List.take_succ_eq_append_getElem hW, flat_append, flat_one, List.length_append]
    have htt := take_torn (allFine_get h W hW) (flat (rs.drop (W + 1))) (j := k - (flat (rs.take W)).length) (by omega) (by omega)
    rw [hfd, all_err (by rw [List.length_take, List.length_append]; omega) (by rw [htt]; decide), htt]
    simp
end Go.Proofs.Ytnclbonoenjbeaa.Rec
