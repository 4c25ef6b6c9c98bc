/-
  What the document's Put goes through, plainly.
-/
import Derived.Test.YtelplccbcbegkaaOrderRef5
namespace Go.Proofs.Ytelplccbcbegkaa.Ord
set_option linter.unusedVariables false
open Go.Proofs.Ytelplccbcbegkaa.Gr (E Path Inside OK outs intos Cyc putL edgesTo)

section
variable {n : Nat} {L : List (List Int)} {P V : List Nat} {a b : Nat}
/-- Who goes to another place, as far as it is told. -/
structure Who (n : Nat) (L : List (List Int)) (P V : List Nat) (a b lo hi : Nat) (wh : Nat → Nat → List Nat) : Prop where
  start : wh 0 lo = []
  back : ∀ p, lo ≤ p → wh 0 (p + 1) = wh 0 p ++ if fB L V a p = true then [V.getD p 0] else []
  turn0 : wh 0 (hi + 1) = wh 1 lo
  fore : ∀ p, lo ≤ p → wh 1 (p + 1) = wh 1 p ++ if fF L V b p = true then [V.getD p 0] else []
  turn1 : wh 1 (hi + 1) = wh 2 lo
  done : wh 2 lo = whoL V (backR L P V a b) (foreR L P V a b)
  few : ∀ k p, lo ≤ p → p ≤ hi + 1 → (wh k p).length ≤ 3 * n
theorem who_ex (hP : Perm n P V) (ha : a < n) (hb : b < n) (hlt : P.getD b 0 < P.getD a 0) : ∃ wh, Who n L P V a b (P.getD b 0) (P.getD a 0) wh := by
  have hl := (hP.pa a ha).1
  have hsub : ∀ p, P.getD b 0 ≤ p → p + 1 - P.getD b 0 = (p - P.getD b 0) + 1 := fun p h => by omega
  have hadd : ∀ p, P.getD b 0 ≤ p → P.getD b 0 + (p - P.getD b 0) = p := fun p h => by omega
  refine ⟨fun k p => (wk L P V a b k (p - P.getD b 0)).map fun t => V.getD t 0, ?_, fun p hp => ?_, ?_, fun p hp => ?_, ?_, ?_, fun k p h1 h2 => ?_⟩
  · simp only [Nat.sub_self, wk_start, List.map_nil]
  · simp only [hsub p hp, wk_b, hadd p hp, List.map_append]
    congr 1
    split <;> rfl
  · simp only [wk_turn0, Nat.sub_self]
  · simp only [hsub p hp, wk_f, hadd p hp, List.map_append]
    congr 1
    split <;> rfl
  · simp only [wk_turn1, Nat.sub_self]
  · simp only [Nat.sub_self, wk_end]; rfl
  · simp only [List.length_map]
    have := wk_len (L := L) (P := P) (A := V) (u := a) (v := b) k (p - P.getD b 0)
    omega
/-- The places, as far as they are told. -/
structure Pls (n : Nat) (L : List (List Int)) (P V : List Nat) (a b lo hi : Nat) (ps : Nat → List Nat) : Prop where
  start : ps lo = []
  step : ∀ p, lo ≤ p → ps (p + 1) = ps p ++ if fE L V a b p = true then [p] else []
  done : ps (hi + 1) = plR L P V a b
  few : ∀ p, lo ≤ p → p ≤ hi + 1 → (ps p).length ≤ n
theorem pls_ex (hP : Perm n P V) (ha : a < n) (hb : b < n) (hlt : P.getD b 0 < P.getD a 0) : ∃ ps, Pls n L P V a b (P.getD b 0) (P.getD a 0) ps := by
  have hl := (hP.pa a ha).1
  refine ⟨fun p => pw (fE L V a b) (P.getD b 0) (p - P.getD b 0), ?_, fun p hp => ?_, rfl, fun p h1 h2 => ?_⟩
  · simp only [Nat.sub_self, pw_zero]
  · simp only [show p + 1 - P.getD b 0 = (p - P.getD b 0) + 1 by omega, pw_succ, show P.getD b 0 + (p - P.getD b 0) = p by omega]
  · have := pw_le (fE L V a b) (P.getD b 0) (p - P.getD b 0)
    show (pw (fE L V a b) (P.getD b 0) (p - P.getD b 0)).length ≤ n
    omega
/-- A turn, one after the other. -/
structure Turns (n N : Nat) (L : List (List Int)) (P V : List Nat) (a b : Nat) (pl wl : List Nat) (at_ : Nat → List Nat) (cn : Nat → Nat) : Prop where
  lp : pl.length = N
  lw : wl.length = N
  small : N ≤ n
  a0 : at_ 0 = V
  c0 : cn 0 = 0
  len : ∀ i, (at_ i).length = n
  lt : ∀ i, i < N → pl.getD i 0 < n ∧ wl.getD i 0 < n
  astep : ∀ i, i < N → at_ (i + 1) = (at_ i).set (pl.getD i 0) (wl.getD i 0)
  cstep : ∀ i, i < N → cn (i + 1) = cn i + if (at_ i).getD (pl.getD i 0) 0 ≠ wl.getD i 0 then 1 else 0
  few : ∀ i, cn i ≤ i
  done : ∃ P', Step n L P V a b P' (at_ N) ∧ cn N = moved n P P'
theorem getD_of {l : List Nat} {i : Nat} (h : i < l.length) : l.getD i 0 = l[i] := by simp [List.getD, h]
theorem turns_ex (ok : OK n L) (hP : Perm n P V) (hup : Up L P) (ha : a < n) (hb : b < n) (hlt : P.getD b 0 < P.getD a 0) (hc : ¬ Path L b a) : ∃ (N : Nat) (at_ : Nat → List Nat) (cn : Nat → Nat), Turns n N L P V a b (plR L P V a b) (whoL V (backR L P V a b) (foreR L P V a b)) at_ cn := by
  have hp := ref_parts ok hP hup ha hb hlt hc
  have hw := who_len (A := V) hp
  have hl := (hP.pa a ha).1
  refine ⟨(plR L P V a b).length, partA V (backR L P V a b) (foreR L P V a b) (plR L P V a b), partC P V (backR L P V a b) (foreR L P V a b) (plR L P V a b), rfl, hw, ?_, rfl, rfl, fun i => by rw [partA_length, hP.la], fun i hi => ?_, fun i hi => ?_, fun i hi => ?_, fun i => partC_le _ _ _ _ _ i, ?_⟩
  · have := pw_le (fE L V a b) (P.getD b 0) (P.getD a 0 + 1 - P.getD b 0)
    unfold plR
    omega
  · have hi2 : i < (backR L P V a b ++ foreR L P V a b).length := by rw [← hp.all.length_eq]; exact hi
    rw [getD_of (l := plR L P V a b) hi, getD_of (l := whoL V (backR L P V a b) (foreR L P V a b)) (by rw [hw]; exact hi), whoL_at hi2]
    exact ⟨hp.ltp (List.getElem_mem hi), (hP.ap _ (hp.lt (List.getElem_mem hi2))).1⟩
  · rw [partA_succ hw hi, getD_of (l := plR L P V a b) hi, getD_of (l := whoL V (backR L P V a b) (foreR L P V a b)) (by rw [hw]; exact hi)]
  · rw [partC_succ hw hi, getD_of (l := plR L P V a b) hi, getD_of (l := whoL V (backR L P V a b) (foreR L P V a b)) (by rw [hw]; exact hi)]
    congr 1
    have := part_ne hP hp hi
    by_cases h : P.getD ((whoL V (backR L P V a b) (foreR L P V a b))[i]'(by rw [hw]; exact hi)) 0 ≠ (plR L P V a b)[i]
    · rw [if_pos h, if_pos (this.2 h)]
    · rw [if_neg h, if_neg (fun e => h (this.1 e))]
  · refine ⟨newP P V (backR L P V a b) (foreR L P V a b) (plR L P V a b), ?_, ?_⟩
    · rw [partA_end hw]
      exact ref_step ok hP hup ha hb hlt hc
    · exact partC_end hP hp
end
end Go.Proofs.Ytelplccbcbegkaa.Ord
