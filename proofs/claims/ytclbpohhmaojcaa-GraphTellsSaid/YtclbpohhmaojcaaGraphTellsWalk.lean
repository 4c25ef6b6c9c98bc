/-
  The walk of GraphTells.
-/
import Derived.Test.YtclbpohhmaojcaaGraphTellsP
import Derived.Test.YtclbpohhmaojcaaGraphTellsG
import Derived.Test.YtclbpohhmaojcaaGraphTellsJ
namespace Go.Proofs.Ytclbpohhmaojcaa.GrW
set_option linter.unusedVariables false
open Go Go.RowKit Go.Proofs Go.Proofs.Ytclbpohhmaojcaa Go.Proofs.Ytclbpohhmaojcaa.Wd
open Go.Proofs.Ytclbpohhmaojcaa.Gr (OK ofL IsR outs intos ev edgesTo putL cutL)

set_option maxRecDepth 100000 in
set_option maxHeartbeats 16000000 in
theorem tells_main (n0 : Nat) (hn40 : n0 ≤ 40) (A : Option Addr) (c : Nat) (l : List (Nat × Int × Int)) (m : Nat) (hm : m = l.length) (hmc : m ≤ c) (hcm : c ≤ maxLen) (hm60 : m ≤ 60) (Aa : Option Addr) (ca : Nat) (la : List Int) (ma : Nat) (hma : ma = la.length) (hmca : ma ≤ ca) (hcma : ca ≤ maxLen) (w : World) (hI : CallsAt w w.heap.size A l) (hJ : Nums w w.heap.size Aa la) :
    Calls Try.prog 7 #[.int .i64 (n0 : Int), .slice A m c, .slice Aa ma ca] w fun e w' => e = .returned (.bool true) ∧ Below w.heap.size w w' := by
  have HNW := Lib.hid (new_any (n0 : Int) w)
  have HI := Lib.hid hI
  have HJ := Lib.hid hJ
  have HM := Lib.hid hm
  have HMA := Lib.hid hma
  unfold maxLen at hcm hcma
  clear hI hJ hm hma
  have u0 : ¬ (40 : Int) < (n0 : Int) := by omega
  have u1 : ¬ (60 : Int) < (m : Int) := by omega
  go_enter Try.func7, Try.ntmps7
  go_wp2_with fail
  refine Calls.mono HNW.out ?_
  intro e w1 h1
  unfold NewOut at h1
  rw [if_pos (by omega)] at h1
  obtain ⟨g, rfl, G1, B1⟩ := h1
  rw [Int.toNat_natCast] at G1
  have HG1 := Lib.hid G1
  have HB1 := Lib.hid B1
  clear HNW G1 B1
  go_wp2_with fail
  refine Calls.mono (refnew_any w1 (n0 : Int)) ?_
  rintro e w2 ⟨rfl, B2⟩
  rw [if_pos (by omega), Int.toNat_natCast]
  have HT0 : Hid (TG w (w2.alloc (.cells #[.int .i64 (n0 : Int), .slice none 0 0] 52)) (fun k => w.heap.size ≤ k ∧ k < w1.heap.size) g n0 (List.replicate (2 * n0) []) w2.heap.size n0 none 0 0 (edgesTo (List.replicate (2 * n0) []) n0) ∧ OK n0 (List.replicate (2 * n0) [])) := Lib.hid (by
    refine ⟨⟨(HG1.out.exist.below B2).below ((Below.refl _ w2).alloc (Nat.le_refl _) _), fun j hj => hj.1, (HB1.out.trans (B2.mono HB1.out.size)).alloc (Nat.le_trans HB1.out.size B2.size) _, Blk.new_ w2 _ _ rfl, Nat.le_trans HB1.out.size B2.size, fun e => by have := B2.size; omega, ?_, fun b off e => (by cases e), ?_, Nat.le_refl _, by decide⟩, OK.empty n0⟩
    · rw [edgesTo_empty]; exact fun j hj => by simp at hj
    · rw [edgesTo_empty]; rfl)
  unfold rv
  generalize hbm : w2.heap.size = bm at HT0
  clear HG1 HB1 B2
  go_wp2_with fail
  clear hbm
  go_loopw [74] (fun i wr => ∃ (k n : Nat) (F : Nat → Prop) (L : List (List Int)) (A9 : Option Addr) (q c9 : Nat), k ≤ m ∧ i = .int .i64 k ∧ n ≤ 40 + 5 * k ∧ q ≤ k ∧ Hid (TG w wr F g n L bm n A9 q c9 (edgesTo L n) ∧ OK n L)) (fun i _ => m - (intOf i).toNat)
  case atStart => exact ⟨0, n0, _, _, none, 0, 0, Nat.zero_le _, rfl, by omega, Nat.le_refl _, HT0⟩
  case round =>
    obtain ⟨k, n, F, L, A9, q, c9, hk, rfl, hnk, hqk, HS⟩ := hrel
    clear HT0
    by_cases hlt : k < m
    · have hkl : k < l.length := by have := HM.out; omega
      clear u0 u1
      by_cases hx0 : (l[k]).1 = 0
      · exact round_P hm60 HI HM hmc hcm (Lib.hid fun _ _ d _ _ h => by cases d <;> exact h) hk hnk hqk HS hlt (fun _ => hx0)
      · by_cases hx1 : (l[k]).1 = 1
        · exact round_C hm60 HI HM hmc hcm (Lib.hid fun _ _ d _ _ h => by cases d <;> exact h) hk hnk hqk HS hlt (fun _ => hx1)
        · by_cases hu5 : (5 : Int) < (l[k]).2.1
          · by_cases hu9 : (l[k]).2.1 ≤ 10000
            · exact round_S hm60 HI HM hmc hcm (Lib.hid fun _ _ d _ _ h => by cases d <;> exact h) hk hnk hqk HS hlt (fun _ => ⟨hx0, hx1, hu5, hu9⟩)
            · exact round_G hm60 HI HM hmc hcm (Lib.hid fun _ _ d _ _ h => by cases d <;> exact h) hk hnk hqk HS hlt (fun _ => ⟨hx0, hx1, hu5, hu9⟩)
          · exact round_H hm60 HI HM hmc hcm (Lib.hid fun _ _ d _ _ h => by cases d <;> exact h) hk hnk hqk HS hlt (fun _ => ⟨hx0, hx1, hu5⟩)
    · have hkm : k = m := by omega
      subst hkm
      have HT := Lib.hid HS.out.1
      have HOK := Lib.hid HS.out.2
      clear HS
      have d0 := HT.out.box.at_ 0 rfl
      have d1 := HT.out.box.at_ 1 rfl
      generalize hW1 : wr = w1 at *
      clear hW1
      go_wp2_with fail
      refine Calls.mono (sort_any w1 _ g n _ L HT.out.gr (HOK.out.rises (by omega)) HOK.out.inside HOK.out.cons (by omega)) ?_
      intro e w3 hs
      obtain ⟨out, s1, s2, -, -⟩ := id hs
      obtain ⟨As, cs, rfl, B3, O3⟩ := hs.t s1 s2
      have HTP := Lib.hid s1
      have HFR := Lib.hid s2
      generalize hlo : (if out.length = n then out else []) = lo at *
      generalize hbo : decide (out.length = n) = bo at *
      have HLO := Lib.hid hlo
      have HBO := Lib.hid hbo
      clear hlo hbo
      have HT3 := Lib.hid (HT.out.below B3)
      have HO3 := Lib.hid O3
      have d0' := HT3.out.box.at_ 0 rfl
      have d1' := HT3.out.box.at_ 1 rfl
      clear hs s1 s2 B3 O3 HT d0 d1
      go_wp2_with fail
      refine Calls.mono (refsort_any w3 n (by omega) L HOK.out A9 q c9 HT3.out.len HT3.out.cap (by omega) HT3.out.edges) ?_
      intro e w4 hs
      obtain ⟨At, ct, rfl, B4, O4⟩ := hs.t HTP.out HFR.out
      rw [HLO.out] at O4
      rw [HLO.out, HBO.out]
      have HT4 := Lib.hid (HT3.out.below B4)
      have HO4 := Lib.hid O4
      have HO3' := Lib.hid (own_belowW HO3.out B4)
      clear hs B4 O4 HT3 HO3 HTP HFR d0' d1'
      clear HLO HBO
      have ebo : (bo != bo) = false := by simp
      go_wp2_with fail
      refine Calls.mono (ints_own HO3'.out HO4.out) ?_
      rintro e w5 ⟨rfl, B5⟩
      rw [decide_eq_true (show lo = lo from rfl)]
      have HT5 := Lib.hid (HT4.out.below B5)
      clear B5 HT4 HO3' HO4 ebo
      go_upto_region 31 with fail
      obtain ⟨m2, hm2⟩ : ∃ m2, m2 = min ma 12 := ⟨_, rfl⟩
      have HMM := Lib.hid hm2
      have hmc2 : (m2 : Int) ≤ (ca : Int) := by omega
      have hm12 : m2 ≤ 12 := by omega
      have hmn2 : m2 ≤ ma := by omega
      clear hm2
      go_cut [210, 211, 212] (fun v29 v30 v31 wx => v29 = .slice Aa m2 ca ∧ v30 = .int .i64 (m2 : Int) ∧ v31 = .int .i64 0 ∧ wx = w5)
      case first =>
        have hm := HMM.out
        go_wp2_with fail
        go_meet
        have e1 : (min (ma : Int) 12).toNat = m2 := by omega
        have e2 : max (min (ma : Int) 12) 0 = (m2 : Int) := by omega
        exact ⟨by rw [e1], by rw [e2], rfl, rfl⟩
      case rest =>
      obtain ⟨rfl, rfl, rfl, hwc⟩ := hcut
      have hwc := hwc.symm
      subst hwc
      obtain ⟨R, hR⟩ := Gr.isR n L
      have HR := Lib.hid hR
      clear hR
      go_wp2_with fail
      go_loopw [212] (fun i wr => ∃ j : Nat, j ≤ m2 ∧ i = .int .i64 j ∧ Hid (Below w5.heap.size w5 wr)) (fun i _ => m2 - (intOf i).toNat)
      case atStart => exact ⟨0, Nat.zero_le _, rfl, Lib.hid (Below.refl _ _)⟩
      case round =>
        obtain ⟨j, hj, rfl, HB⟩ := hrel
        by_cases hlt2 : j < m2
        · by_cases hj0 : j = 0
          · exact round_J hm60 hnk hqk hmca hcma HJ HMA HOK HT5 HR hmc2 hm12 hmn2 (Lib.hid fun _ _ d _ _ h => by cases d <;> exact h) hj HB hlt2 hj0
          · exact round_K hm60 hnk hqk hmca hcma HJ HMA HOK HT5 HR hmc2 hm12 hmn2 (Lib.hid fun _ _ d _ _ h => by cases d <;> exact h) hj HB hlt2 hj0
        · have HT6 := Lib.hid (HT5.out.low.trans (HB.out.mono HT5.out.low.size))
          clear HB HT5
          go_wp2_with fail
          refine Calls.mono (awake_any _) ?_
          rintro e w9 ⟨rfl, B9⟩
          have HB9 := Lib.hid (HT6.out.trans (B9.mono HT6.out.size))
          clear HT6 B9
          go_wp2_with fail
          go_ret
          exact ⟨rfl, HB9.out⟩
end Go.Proofs.Ytclbpohhmaojcaa.GrW
