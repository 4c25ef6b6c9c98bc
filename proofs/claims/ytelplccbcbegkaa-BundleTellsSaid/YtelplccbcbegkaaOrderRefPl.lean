/-
  What the document's Put does, plainly: the edges within, the parts, the turn.
-/
import Derived.Test.YtelplccbcbegkaaOrderBoth
namespace Go.Proofs.Ytelplccbcbegkaa.Ord
set_option linter.unusedVariables false
open Go.Proofs.Ytelplccbcbegkaa.Gr (E Path Inside OK outs intos Cyc Cons putL edgesTo)

/-- Is a vertex's place between two? -/
def inB (P : List Nat) (low high : Nat) (x : Int) : Bool := decide (low ≤ P.getD x.toNat 0) && decide (P.getD x.toNat 0 ≤ high)
/-- The rows of the edges between such vertices. -/
def wL (n : Nat) (L : List (List Int)) (P : List Nat) (low high : Nat) : List (List Int) := (List.range (2 * n)).map fun i => if inB P low high ((i / 2 : Nat) : Int) then (L.getD i []).filter (inB P low high) else []
section
variable {n : Nat} {L : List (List Int)} {P A : List Nat} {low high : Nat}
theorem inB_nat {x : Nat} : inB P low high (x : Int) = true ↔ low ≤ P.getD x 0 ∧ P.getD x 0 ≤ high := by
  unfold inB
  rw [Bool.and_eq_true, decide_eq_true_eq, decide_eq_true_eq, Int.toNat_natCast]
theorem wL_getD (i : Nat) : (wL n L P low high).getD i [] = if i < 2 * n then (if inB P low high ((i / 2 : Nat) : Int) then (L.getD i []).filter (inB P low high) else []) else [] := by
  unfold wL
  simp only [List.getD]
  by_cases h : i < 2 * n
  · rw [if_pos h, List.getElem?_map, List.getElem?_range h]; rfl
  · rw [if_neg h, List.getElem?_eq_none (by simp; omega)]; rfl
theorem mem_wL {i : Nat} {x : Int} : x ∈ (wL n L P low high).getD i [] ↔ i < 2 * n ∧ inB P low high ((i / 2 : Nat) : Int) = true ∧ x ∈ L.getD i [] ∧ inB P low high x = true := by
  rw [wL_getD]
  by_cases h : i < 2 * n
  · rw [if_pos h]
    by_cases h2 : inB P low high ((i / 2 : Nat) : Int) = true
    · rw [if_pos h2, List.mem_filter]
      exact ⟨fun e => ⟨h, h2, e⟩, fun e => e.2.2⟩
    · rw [if_neg h2]
      exact ⟨fun e => by simp at e, fun e => absurd e.2.1 h2⟩
  · rw [if_neg h]
    exact ⟨fun e => by simp at e, fun e => absurd e.1 h⟩
theorem half0 (u : Nat) : 2 * u / 2 = u := by omega
theorem half1 (u : Nat) : (2 * u + 1) / 2 = u := by omega
theorem wL_ok (ok : OK n L) : OK n (wL n L P low high) where
  len := by unfold wL; rw [List.length_map, List.length_range]
  rise := fun i => by
    rw [wL_getD]
    split
    · split
      · exact (ok.rise i).filter _
      · exact List.Pairwise.nil
    · exact List.Pairwise.nil
  ins := fun i x hx => ok.ins i x (mem_wL.1 hx).2.2.1
  cons := fun u v hu hv => by
    unfold outs intos
    rw [mem_wL, mem_wL, half0, half1]
    have := ok.cons u v hu hv
    unfold outs intos at this
    rw [this]
    exact ⟨fun h => ⟨by omega, h.2.2.2, h.2.2.1, h.2.1⟩, fun h => ⟨by omega, h.2.2.2, h.2.2.1, h.2.1⟩⟩
  self := fun v hv h => ok.self v hv (by
    unfold outs at *
    exact (mem_wL.1 h).2.2.1)
theorem wL_edge (ok : OK n L) {x y : Nat} : E (wL n L P low high) x y ↔ E L x y ∧ inB P low high (x : Int) = true ∧ inB P low high (y : Int) = true := by
  unfold E
  rw [mem_wL, half0]
  constructor
  · exact fun h => ⟨h.2.2.1, h.2.1, h.2.2.2⟩
  · intro h
    have := (ok.edge_lt (show E L x y from h.1)).1
    exact ⟨by omega, h.2.1, h.1, h.2.2⟩
theorem wL_edges (k : Nat) (hk : k ≤ n) : edgesTo (wL n L P low high) k = (edgesTo L k).filter fun x => inB P low high x.1 && inB P low high x.2 := by
  induction k with
  | zero => rfl
  | succ k ih =>
    rw [Gr.edgesTo_succ, Gr.edgesTo_succ, List.filter_append, ih (by omega), List.filter_map]
    congr 1
    unfold outs
    rw [wL_getD, if_pos (by omega), half0]
    by_cases h : inB P low high (k : Int) = true
    · rw [if_pos h]
      congr 1
      refine List.filter_congr fun x _ => ?_
      simp [h]
    · rw [if_neg h]
      have : (L.getD (2 * k) []).filter ((fun x : Int × Int => inB P low high x.1 && inB P low high x.2) ∘ fun x => ((k : Int), x)) = [] := by
        rw [List.filter_eq_nil_iff]
        intro x _
        simp [Bool.eq_false_iff.2 h]
      rw [this]
theorem wL_path (ok : OK n L) {x y : Nat} (h : Path (wL n L P low high) x y) : Path L x y := by
  induction h with
  | refl => exact .refl _
  | step h1 _ ih => exact .step ((wL_edge ok).1 h1).1 ih
theorem path_wL (ok : OK n L) (hu : Up L P) {x y : Nat} (h : Path L x y) (hx : low ≤ P.getD x 0) (hy : P.getD y 0 ≤ high) : Path (wL n L P low high) x y := by
  induction h with
  | refl => exact .refl _
  | step h1 h2 ih =>
    have h3 := hu _ _ h1
    have h4 := hu.path h2
    exact .step ((wL_edge ok).2 ⟨h1, inB_nat.2 ⟨hx, by omega⟩, inB_nat.2 ⟨by omega, by omega⟩⟩) (ih (by omega) hy)
theorem wL_iff (ok : OK n L) (hu : Up L P) {x y : Nat} (hx : low ≤ P.getD x 0) (hy : P.getD y 0 ≤ high) : Path (wL n L P low high) x y ↔ Path L x y := ⟨wL_path ok, fun h => path_wL ok hu h hx hy⟩
end
/-- Places from one on, so many, of which that is so. -/
def pw (f : Nat → Bool) (low k : Nat) : List Nat := (List.range' low k).filter f
theorem pw_zero (f : Nat → Bool) (low : Nat) : pw f low 0 = [] := rfl
theorem pw_succ (f : Nat → Bool) (low k : Nat) : pw f low (k + 1) = pw f low k ++ if f (low + k) then [low + k] else [] := by
  unfold pw
  rw [List.range'_1_concat, List.filter_append]
  congr 1
  by_cases h : f (low + k) = true
  · rw [if_pos h]; simp [h]
  · rw [if_neg h]; simp [Bool.eq_false_iff.2 h]
theorem pw_rise (f : Nat → Bool) (low k : Nat) : (pw f low k).Pairwise (· < ·) := (List.pairwise_lt_range').filter _
theorem mem_pw {f : Nat → Bool} {low k p : Nat} : p ∈ pw f low k ↔ (low ≤ p ∧ p < low + k) ∧ f p = true := by
  unfold pw
  rw [List.mem_filter, List.mem_range'_1]
theorem pw_le (f : Nat → Bool) (low k : Nat) : (pw f low k).length ≤ k := by
  unfold pw
  exact Nat.le_trans (List.length_filter_le _ _) (by simp)
/-- What reaches a vertex; what is reached; either: of a place's vertex. -/
noncomputable def fB (L : List (List Int)) (A : List Nat) (u : Nat) (p : Nat) : Bool := @decide (Path L (A.getD p 0) u) (Classical.propDecidable _)
noncomputable def fF (L : List (List Int)) (A : List Nat) (v : Nat) (p : Nat) : Bool := @decide (Path L v (A.getD p 0)) (Classical.propDecidable _)
noncomputable def fE (L : List (List Int)) (A : List Nat) (u v : Nat) (p : Nat) : Bool := fB L A u p || fF L A v p
theorem fB_iff {L : List (List Int)} {A : List Nat} {u p : Nat} : fB L A u p = true ↔ Path L (A.getD p 0) u := @decide_eq_true_iff _ (Classical.propDecidable _)
theorem fF_iff {L : List (List Int)} {A : List Nat} {v p : Nat} : fF L A v p = true ↔ Path L v (A.getD p 0) := @decide_eq_true_iff _ (Classical.propDecidable _)
theorem fE_iff {L : List (List Int)} {A : List Nat} {u v p : Nat} : fE L A u v p = true ↔ Path L (A.getD p 0) u ∨ Path L v (A.getD p 0) := by unfold fE; rw [Bool.or_eq_true, fB_iff, fF_iff]
/-- All between a vertex's place and another's. -/
noncomputable def backR (L : List (List Int)) (P A : List Nat) (u v : Nat) : List Nat := pw (fB L A u) (P.getD v 0) (P.getD u 0 + 1 - P.getD v 0)
noncomputable def foreR (L : List (List Int)) (P A : List Nat) (u v : Nat) : List Nat := pw (fF L A v) (P.getD v 0) (P.getD u 0 + 1 - P.getD v 0)
noncomputable def plR (L : List (List Int)) (P A : List Nat) (u v : Nat) : List Nat := pw (fE L A u v) (P.getD v 0) (P.getD u 0 + 1 - P.getD v 0)
/-- The rows as they are told: the back part, then the fore part. -/
noncomputable def wk (L : List (List Int)) (P A : List Nat) (u v : Nat) (k j : Nat) : List Nat :=
  if k = 0 then pw (fB L A u) (P.getD v 0) j else if k = 1 then backR L P A u v ++ pw (fF L A v) (P.getD v 0) j else backR L P A u v ++ foreR L P A u v
section
variable {n : Nat} {L : List (List Int)} {P A : List Nat} {u v : Nat}
theorem wk_start : wk L P A u v 0 0 = [] := rfl
theorem wk_turn0 : wk L P A u v 0 (P.getD u 0 + 1 - P.getD v 0) = wk L P A u v 1 0 := by
  unfold wk
  rw [if_pos rfl, if_neg (by omega), if_pos rfl, pw_zero, List.append_nil]
  rfl
theorem wk_turn1 : wk L P A u v 1 (P.getD u 0 + 1 - P.getD v 0) = wk L P A u v 2 0 := by
  unfold wk
  rw [if_neg (by omega), if_pos rfl, if_neg (by omega), if_neg (by omega)]
  rfl
theorem wk_end : wk L P A u v 2 0 = backR L P A u v ++ foreR L P A u v := by
  unfold wk
  rw [if_neg (by omega), if_neg (by omega)]
theorem wk_b (j : Nat) : wk L P A u v 0 (j + 1) = wk L P A u v 0 j ++ if fB L A u (P.getD v 0 + j) then [P.getD v 0 + j] else [] := by
  unfold wk
  rw [if_pos rfl, if_pos rfl, pw_succ]
theorem wk_f (j : Nat) : wk L P A u v 1 (j + 1) = wk L P A u v 1 j ++ if fF L A v (P.getD v 0 + j) then [P.getD v 0 + j] else [] := by
  unfold wk
  rw [if_neg (by omega), if_pos rfl, if_neg (by omega), if_pos rfl, pw_succ, List.append_assoc]
theorem wk_len (k j : Nat) : (wk L P A u v k j).length ≤ (P.getD u 0 + 1 - P.getD v 0) + (P.getD u 0 + 1 - P.getD v 0) + j := by
  unfold wk backR foreR
  have h1 := pw_le (fB L A u) (P.getD v 0) j
  have h2 := pw_le (fB L A u) (P.getD v 0) (P.getD u 0 + 1 - P.getD v 0)
  have h3 := pw_le (fF L A v) (P.getD v 0) j
  have h4 := pw_le (fF L A v) (P.getD v 0) (P.getD u 0 + 1 - P.getD v 0)
  split
  · omega
  · split
    · rw [List.length_append]; omega
    · rw [List.length_append]; omega
theorem back_is (ok : OK n L) (hP : Perm n P A) (hup : Up L P) (hu : u < n) (hv : v < n) (hlt : P.getD v 0 < P.getD u 0) : IsPart (intos L) (fun y => decide (P.getD v 0 ≤ P.getD y 0)) P u (backR L P A u v) := by
  refine ⟨pw_rise _ _ _, fun p => ?_⟩
  unfold backR
  rw [mem_pw, fB_iff]
  have hun := (hP.pa u hu).1
  constructor
  · rintro ⟨⟨h1, h2⟩, h3⟩
    obtain ⟨h4, h5⟩ := hP.ap p (by omega)
    exact ⟨A.getD p 0, path_wayb ok hup hu h3 (by rw [h5]; exact h1), h5⟩
  · rintro ⟨y, h1, rfl⟩
    obtain ⟨h2, h3⟩ := wayb_path ok hu h1
    have h4 := hup.path h2
    rw [(hP.pa y h3).2]
    refine ⟨⟨?_, by omega⟩, h2⟩
    rcases h1.ok_or with rfl | h
    · omega
    · exact of_decide_eq_true h
theorem fore_is (ok : OK n L) (hP : Perm n P A) (hup : Up L P) (hu : u < n) (hv : v < n) (hlt : P.getD v 0 < P.getD u 0) : IsPart (outs L) (fun y => decide (P.getD y 0 ≤ P.getD u 0)) P v (foreR L P A u v) := by
  refine ⟨pw_rise _ _ _, fun p => ?_⟩
  unfold foreR
  rw [mem_pw, fF_iff]
  have hun := (hP.pa u hu).1
  constructor
  · rintro ⟨⟨h1, h2⟩, h3⟩
    obtain ⟨h4, h5⟩ := hP.ap p (by omega)
    exact ⟨A.getD p 0, path_way hup h3 (by rw [h5]; omega), h5⟩
  · rintro ⟨y, h1, rfl⟩
    have h2 := way_path h1
    have h3 := h2.lt ok hv
    have h4 := hup.path h2
    rw [(hP.pa y h3).2]
    refine ⟨⟨h4, ?_⟩, h2⟩
    rcases h1.ok_or with rfl | h
    · omega
    · have := of_decide_eq_true h; omega
theorem pl_perm (hc : ¬ Path L v u) : (plR L P A u v).Perm (backR L P A u v ++ foreR L P A u v) := by
  rw [List.perm_ext_iff_of_nodup (rise_nodup (by unfold plR; exact pw_rise _ _ _))]
  · intro p
    unfold plR backR foreR
    rw [List.mem_append, mem_pw, mem_pw, mem_pw, fE_iff, fB_iff, fF_iff]
    constructor
    · rintro ⟨h1, h2 | h2⟩
      · exact .inl ⟨h1, h2⟩
      · exact .inr ⟨h1, h2⟩
    · rintro (⟨h1, h2⟩ | ⟨h1, h2⟩)
      · exact ⟨h1, .inl h2⟩
      · exact ⟨h1, .inr h2⟩
  · rw [List.nodup_append]
    refine ⟨rise_nodup (pw_rise _ _ _), rise_nodup (pw_rise _ _ _), fun a ha b hb e => ?_⟩
    subst e
    unfold backR at ha
    unfold foreR at hb
    rw [mem_pw, fB_iff] at ha
    rw [mem_pw, fF_iff] at hb
    exact hc (hb.2.trans ha.2)
theorem ref_parts (ok : OK n L) (hP : Perm n P A) (hup : Up L P) (hu : u < n) (hv : v < n) (hlt : P.getD v 0 < P.getD u 0) (hc : ¬ Path L v u) : Parts n (backR L P A u v) (foreR L P A u v) (plR L P A u v) :=
  parts_of ok hP hup hu hv (fore_is ok hP hup hu hv hlt) (back_is ok hP hup hu hv hlt) hc (pw_rise _ _ _) (pl_perm hc)
theorem ref_step (ok : OK n L) (hP : Perm n P A) (hup : Up L P) (hu : u < n) (hv : v < n) (hlt : P.getD v 0 < P.getD u 0) (hc : ¬ Path L v u) : Step n L P A u v (newP P A (backR L P A u v) (foreR L P A u v) (plR L P A u v)) (newA A (backR L P A u v) (foreR L P A u v) (plR L P A u v)) :=
  .inr ⟨hlt, _, _, _, back_is ok hP hup hu hv hlt, fore_is ok hP hup hu hv hlt, pw_rise _ _ _, pl_perm hc, rfl, rfl⟩
end
section
variable {n : Nat} {P A back fore pl : List Nat}
theorem partA_at (hP : Perm n P A) (h : Parts n back fore pl) {i : Nat} (hi : i < pl.length) : (partA A back fore pl i).getD pl[i] 0 = A.getD pl[i] 0 := by
  have hw := who_len (A := A) h
  unfold partA
  refine setAll_other _ A _ (by rw [hP.la]; exact h.ltp (List.getElem_mem hi)) fun x hx e => ?_
  obtain ⟨j, hj, rfl⟩ := List.getElem_of_mem hx
  rw [List.length_take, List.length_zip] at hj
  rw [List.getElem_take, List.getElem_zip] at e
  have := List.pairwise_iff_getElem.1 h.rp j i (by omega) (by omega) (by omega)
  have e : pl[j]'(by omega) = pl[i] := e
  omega
/-- A vertex that comes to a place is another one just if its own place was another. -/
theorem part_ne (hP : Perm n P A) (h : Parts n back fore pl) {i : Nat} (hi : i < pl.length) : (partA A back fore pl i).getD pl[i] 0 ≠ (whoL A back fore)[i]'(by rw [who_len h]; exact hi) ↔ P.getD ((whoL A back fore)[i]'(by rw [who_len h]; exact hi)) 0 ≠ pl[i] := by
  have hi2 : i < (back ++ fore).length := by rw [← h.all.length_eq]; exact hi
  have hlt := h.lt (List.getElem_mem hi2)
  have hpl := h.ltp (List.getElem_mem hi)
  rw [partA_at hP h hi, whoL_at hi2]
  refine not_congr ⟨fun e => ?_, fun e => ?_⟩
  · rw [← e]; exact (hP.ap _ hpl).2
  · rw [← e]; exact (hP.pa _ (hP.ap _ hlt).1).2
theorem partC_le (P A back fore pl : List Nat) (i : Nat) : partC P A back fore pl i ≤ i := by
  unfold partC
  refine Nat.le_trans List.countP_le_length ?_
  rw [List.length_take]; omega
end
/-- What is told, and what there is then, is one alone. -/
theorem Put1.det {n : Nat} {L L1 L2 : List (List Int)} {P A P1 A1 P2 A2 : List Nat} {u v c k c2 k2 : Nat} (h : Put1 n L P A u v c k L1 P1 A1) (g : Put1 n L P A u v c2 k2 L2 P2 A2) : c = c2 ∧ k = k2 ∧ L1 = L2 ∧ P1 = P2 ∧ A1 = A2 := by
  rcases h with ⟨h1, h2, h3, h4, h5, h6⟩ | ⟨h1, h2, h3, h4, h5, h6⟩ <;> rcases g with ⟨g1, g2, g3, g4, g5, g6⟩ | ⟨g1, g2, g3, g4, g5, g6⟩
  · exact ⟨by omega, by omega, by rw [h4, g4], by rw [h5, g5], by rw [h6, g6]⟩
  · exact absurd h3 g3
  · exact absurd g3 h3
  · have e : P1 = P2 ∧ A1 = A2 := by
      rcases g6 with ⟨e1, e2, e3⟩ | ⟨e1, b, f, p, e2, e3, e4, e5, e6, e7⟩
      · rcases h6 with ⟨d1, d2, d3⟩ | ⟨d1, -⟩
        · exact ⟨by rw [d2, e2], by rw [d3, e3]⟩
        · omega
      · obtain ⟨d1, d2⟩ := h6.known e1 e2 e3 e4 e5
        exact ⟨by rw [d1, e6], by rw [d2, e7]⟩
    obtain ⟨rfl, rfl⟩ := e
    exact ⟨by rw [h2, g2], by omega, by rw [h5, g5], rfl, rfl⟩
end Go.Proofs.Ytelplccbcbegkaa.Ord
