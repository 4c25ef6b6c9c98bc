/-
  The walk of GraphTurned.
-/
import Derived.Test.YtclbpohhmaojcaaGraphCyc
namespace Go.Proofs.Ytclbpohhmaojcaa.GrW
set_option linter.unusedVariables false
open Go Go.RowKit Go.Proofs Go.Proofs.Ytclbpohhmaojcaa Go.Proofs.Ytclbpohhmaojcaa.Wd
open Go.Proofs.Ytclbpohhmaojcaa.Gr (OK ofL IsR outs intos Cyc TurnC ev edgesTo)

theorem sort_b {w : World} {base g n : Nat} {F : Nat → Prop} {L : List (List Int)} (h : GAt w base F g n L) (ok : OK n L) (hn : n ≤ 30000) (b : Bool) (hb : b = true ↔ ¬ Cyc n L) : Calls Try.prog 14 #[.pointer (some ⟨g, 0, none⟩)] w fun e w' => ∃ A m c, e = .returned (.tuple #[.slice A m c, .bool b]) ∧ Below w.heap.size w w' := by
  refine (sort_any w base g n F L h (ok.rises hn) ok.inside ok.cons hn).mono ?_
  rintro e w' ⟨out, h1, h2, h3, h4⟩
  have hs := Gr.sorted_iff ok h1 h2
  rcases h4 with ⟨h4, v', rfl, h5⟩ | ⟨h4, rfl⟩
  · obtain ⟨A, c, rfl⟩ := own_form h5
    have : b = true := hb.2 (hs.1 h4)
    subst this
    exact ⟨_, _, _, rfl, h3⟩
  · have : b = false := by
      rw [← Bool.not_eq_true, hb, ← hs]
      omega
    subst this
    exact ⟨_, _, _, rfl, h3⟩
theorem ints_own {w : World} {base base' : Nat} {A A' : Option Addr} {n c n' c' : Nat} {l m : List Int} (h : w.ownsRow base 3 1 (.slice A n c) n (iv l)) (h' : w.ownsRow base' 3 1 (.slice A' n' c') n' (iv m)) :
    Calls Try.prog 15 #[.slice A n c, .slice A' n' c'] w fun e w' => e = .returned (.bool (decide (l = m))) ∧ Below w.heap.size w w' := by
  obtain ⟨h1, h2, h3, h4⟩ := Nums.of_own h
  obtain ⟨k1, k2, k3, k4⟩ := Nums.of_own h'
  exact ints_any A A' c c' l m n n' h2 k2 h3 h4 w h1 k1
def swp (l : List (Int × Int)) : List (Int × Int) := l.map fun x => (x.2, x.1)
set_option maxRecDepth 100000 in
set_option maxHeartbeats 8000000 in
theorem turned_walk (nb : Nat) (hnb : nb < 256) (A : Option Addr) (c : Nat) (l : List (Int × Int)) (n : Nat) (hn : n = l.length) (hnc : n ≤ c) (hcm : c ≤ maxLen) (hbig : n ≤ 1000000000) (a0 a1 : Nat) (ha0 : a0 < 256) (ha1 : a1 < 256) (w : World) (hI : EdgesAt w w.heap.size A l) :
    Calls Try.prog 4 #[.int .u8 nb, .slice A n c, .int .u8 a0, .int .u8 a1] w fun e w' => e = .returned (.bool true) ∧ Below w.heap.size w w' := by
  have HOF := Lib.hid (of_any nb hnb A c l n hn hnc hcm w hI)
  have HTC := Lib.hid (TurnC.ofL (n := manyOf nb) (by unfold manyOf; omega) l)
  have HOF2 : Hid (∀ (W : World) (A' : Option Addr) (m c' : Nat), W.ownsRow 0 32 2 (.slice A' m c') m (ev (swp l)) → Calls Try.prog 9 #[.int .u8 nb, .slice A' m c'] W (OfOut W (manyOf nb) (ofL (manyOf nb) ((swp l).take 80)))) := Lib.hid (fun W A' m c' hO => by
    obtain ⟨e1, e2, e3, e4⟩ := EdgesAt.of_own hO
    exact of_any nb hnb A' c' (swp l) m e2 e3 e4 W e1)
  have hM0 : manyOf nb ≤ 31 ∧ 2 ≤ manyOf nb := by unfold manyOf; omega
  change Hid (TurnC (manyOf nb) (ofL (manyOf nb) (l.take 80)) (ofL (manyOf nb) ((swp l).take 80))) at HTC
  generalize ofL (manyOf nb) (l.take 80) = L at *
  generalize ofL (manyOf nb) ((swp l).take 80) = H at *
  generalize manyOf nb = M at *
  obtain ⟨hM31, hM2⟩ := hM0
  have HNL := Lib.hid hn
  have HI := Lib.hid hI
  have wa0 : wrap64 (a0 : Int) = a0 := IntWalk.wrap64_in _ (by omega)
  have wa1 : wrap64 (a1 : Int) = a1 := IntWalk.wrap64_in _ (by omega)
  obtain ⟨u, hu⟩ : ∃ u, u = a0 % M := ⟨_, rfl⟩
  obtain ⟨v, hv⟩ : ∃ v, v = a1 % M := ⟨_, rfl⟩
  have t0 : (a0 : Int).tmod (M : Int) = (u : Int) := by rw [Int.tmod_eq_emod_of_nonneg (Int.natCast_nonneg _), hu]; exact (Int.natCast_emod _ _).symm
  have t1 : (a1 : Int).tmod (M : Int) = (v : Int) := by rw [Int.tmod_eq_emod_of_nonneg (Int.natCast_nonneg _), hv]; exact (Int.natCast_emod _ _).symm
  have huM : u < M := by rw [hu]; exact Nat.mod_lt _ (by omega)
  have hvM : v < M := by rw [hv]; exact Nat.mod_lt _ (by omega)
  have m1 : ((M : Int) == 0) = false := by rw [beq_eq_false_iff_ne]; omega
  have m2 : ¬ (M : Int) = 0 := by omega
  clear hu hv hI hn
  unfold maxLen at hcm
  obtain ⟨i0, hi0, hz0, hz1, hz2⟩ := info_parts infoEdge
  go_enter Try.func4, Try.ntmps4
  go_wp2_with fail
  refine Calls.mono HOF.out ?_
  rintro e w1 ⟨g, rfl, G1, B1⟩
  have HG := Lib.hid (show Lg w w1 g M L from ⟨G1, B1⟩)
  clear HOF G1 B1
  go_wp2_with fail
  go_loopw [11, 30] (fun v11 i wr => ∃ (k m : Nat), k ≤ n ∧ i = .int .i64 k ∧ Hid (m = k ∧ Below w1.heap.size w1 wr ∧ wr.ownsRow w1.heap.size 32 2 v11 m (ev (swp (l.take k))))) (fun _ i _ => n - (intOf i).toNat)
  case atStart => exact ⟨0, 0, Nat.zero_le _, rfl, Lib.hid ⟨rfl, Below.refl _ _, World.ownsRow_nil _ _ _ _⟩⟩
  case round =>
    obtain ⟨k, m, hk, rfl, HS⟩ := hrel
    by_cases hlt : k < n
    · have hkl : k < l.length := by have := HNL.out; omega
      obtain ⟨b, off, rfl, hb, p1, p2⟩ := HI.out k hkl
      have hlow := HG.out.low.trans (HS.out.2.1.mono HG.out.low.size)
      have q1 := (hlow.cell (p := ⟨b, _, none⟩) hb).trans p1
      have q2 := (hlow.cell (p := ⟨b, _, none⟩) hb).trans p2
      have HX : Hid (swp (l.take (k + 1)) = swp (l.take k) ++ [(l[k].2, l[k].1)]) := Lib.hid (by unfold swp; rw [List.take_succ_eq_append_getElem hkl, List.map_append]; rfl)
      generalize l[k] = x at *
      obtain ⟨xf, xt⟩ := x
      have i1 : (0 : Int) ≤ (k : Int) := by omega
      have i2 : (k : Int) < (n : Int) := by omega
      have hm9 : m ≤ 1000000000 := by have := HS.out.1; omega
      have hsz : w1.heap.size ≤ wr.heap.size := HS.out.2.1.size
      have HM := Lib.hid HS.out.1
      have HLOW := Lib.hid HS.out.2.1
      have HOWN := Lib.hid HS.out.2.2
      have HNW : Hid ((((wr.alloc (.cells #[.int .i64 xf, .int .i64 xt] 32)).alloc (.cells #[.int .i64 xt, .int .i64 xf] 32)).heap[wr.heap.size + 1]?) = some (.cells #[.int .i64 xt, .int .i64 xf] 32 (0, 0))) := Lib.hid (Blk.new_ (wr.alloc (.cells #[.int .i64 xf, .int .i64 xt] 32)) 32 #[.int .i64 xt, .int .i64 xf] (n := wr.heap.size + 1) (by simp))
      have c0 := (Blk.new_ wr 32 #[.int .i64 xf, .int .i64 xt] rfl).at_ 0 rfl
      have c1 := (Blk.new_ wr 32 #[.int .i64 xf, .int .i64 xt] rfl).at_ 1 rfl
      clear p1 p2 hb hlow HS hkl
      go_wp2_with (at_builtin; refine wpList_append_lies _ rfl (.tmp 34) (.tmp 40) _ rfl w1.heap.size 32 i0 _ 2 16 Try.underlying22 hi0 hz0 hz1 hz2 rfl (by omega) _ m _ rfl ((HOWN.out.alloc _).alloc _) ⟨wr.heap.size + 1, 0, none⟩ 1 1 [.int .i64 xt, .int .i64 xf] rfl rfl (World.news_of_block HNW.out) (by intro u hu; simp at hu; rcases hu with rfl | rfl <;> rfl) (by omega) (by unfold maxLen; omega) (by omega) (by simp; omega) (wr.heap.size + 1 + 1) (by simp) ?_)
      intro g2 cap w2 hown2 hgrow _ _
      have R1 : Hid (m + 1 = k + 1 ∧ Below w1.heap.size w1 w2 ∧ w2.ownsRow w1.heap.size 32 2 (.slice (some ⟨g2, 0, none⟩) (m + 1) cap) (m + 1) (ev (swp (l.take (k + 1))))) := Lib.hid (by
        refine ⟨by have := HM.out; omega, (((HLOW.out.alloc hsz (.cells #[.int .i64 xf, .int .i64 xt] 32)).alloc (by simp; omega) (.cells #[.int .i64 xt, .int .i64 xf] 32))).grown hgrow (by simp; omega) (fun q hq => (own_row HOWN.out hq).1), ?_⟩
        rw [HX.out, Gr.ev_append]
        exact hown2)
      clear hown2 hgrow HNW c0 c1 q1 q2
      go_wp2_with fail
      go_roundw
      case rel => exact ⟨k + 1, _, by omega, by go_num, R1⟩
      case measure => simp [intOf]; omega
    · obtain rfl : k = n := by omega
      have HG1 := Lib.hid (HG.out.next HS.out.2.1)
      have HO : Hid (wr.ownsRow 0 32 2 u11 m (ev (swp l))) := Lib.hid (by
        have h := HS.out.2.2
        rw [List.take_of_length_le (by have := HNL.out; omega)] at h
        exact own_base h (Nat.zero_le _))
      clear HG HS
      obtain ⟨A2, c2, hv2⟩ := own_form HO.out
      subst hv2
      go_wp2_with fail
      refine Calls.mono (HOF2.out wr A2 m c2 HO.out) ?_
      rintro e w2 ⟨h, rfl, G2, B2⟩
      have HG2 := Lib.hid (HG1.out.next B2)
      have HH2 := Lib.hid (show Lg wr w2 h M H from ⟨G2, B2⟩)
      clear HOF2 HO HG1 G2 B2
      go_wp2_with fail
      go_quiet (fail)
      have HG3 := Lib.hid (HG2.out.next (bdrewN (Below.refl _ w2) nq))
      have HH3 := Lib.hid (HH2.out.next (bdrewN (Below.refl _ w2) nq))
      clear HG2 HH2
      obtain ⟨bs, hbs⟩ : ∃ b : Bool, b = true ↔ ¬ Cyc M L := ⟨@decide _ (Classical.propDecidable _), @decide_eq_true_iff _ (Classical.propDecidable _)⟩
      have HBS := Lib.hid hbs
      have HBS2 : Hid (bs = true ↔ ¬ Cyc M H) := Lib.hid (by
        rw [hbs]
        exact ⟨fun a e => a (HTC.out.toTurn.symm.cyc HTC.out.okH HTC.out.okL e), fun a e => a (HTC.out.toTurn.cyc HTC.out.okL HTC.out.okH e)⟩)
      clear hbs
      go_wp2_with fail
      refine Calls.mono (sort_b HG3.out.at_ HTC.out.okL (by omega) bs HBS.out) ?_
      rintro e w4 ⟨As, ms, cs, rfl, B4⟩
      have HG4 := Lib.hid (HG3.out.next B4)
      have HH4 := Lib.hid (HH3.out.next B4)
      clear HG3 HH3 B4
      go_wp2_with fail
      refine Calls.mono (sort_b HH4.out.at_ HTC.out.okH (by omega) bs HBS2.out) ?_
      rintro e w5 ⟨At, mt, ct, rfl, B5⟩
      have HG5 := Lib.hid (HG4.out.next B5)
      have HH5 := Lib.hid (HH4.out.next B5)
      clear HG4 HH4 B5 HBS HBS2
      go_wp2_with fail
      refine Calls.mono (out_c HG5.out.at_ (HTC.out.okL.rises (by omega)) (u : Int) (outs L u) (outE_nat huM) _ rfl) ?_
      rintro e w6 ⟨Ap, cp, rfl, O1, B1⟩
      have HG6 := Lib.hid (HG5.out.next B1)
      have HH6 := Lib.hid (HH5.out.next B1)
      have HO1 := Lib.hid O1
      clear HG5 HH5 B1 O1
      go_wp2_with fail
      refine Calls.mono (into_c HH6.out.at_ (HTC.out.okH.rises (by omega)) (u : Int) (intos H u) (intoE_nat huM) _ rfl) ?_
      rintro e w7 ⟨Aq, cq, rfl, O2, B2⟩
      have HG7 := Lib.hid (HG6.out.next B2)
      have HH7 := Lib.hid (HH6.out.next B2)
      have HO2 := Lib.hid O2
      have HO1' := Lib.hid (own_belowW HO1.out B2)
      clear HG6 HH6 B2 O2 HO1
      go_wp2_with fail
      refine Calls.mono (ints_own HO1'.out HO2.out) ?_
      rintro e w8 ⟨rfl, B3⟩
      have HG8 := Lib.hid (HG7.out.next B3)
      have HH8 := Lib.hid (HH7.out.next B3)
      clear HG7 HH7 B3 HO1' HO2
      rw [decide_eq_true (show outs L u = intos H u from (HTC.out.into u huM).symm)]
      go_wp2_with fail
      refine Calls.mono (into_c HG8.out.at_ (HTC.out.okL.rises (by omega)) (u : Int) (intos L u) (intoE_nat huM) _ rfl) ?_
      rintro e w9 ⟨Ap, cp, rfl, O1, B1⟩
      have HG9 := Lib.hid (HG8.out.next B1)
      have HH9 := Lib.hid (HH8.out.next B1)
      have HO1 := Lib.hid O1
      clear HG8 HH8 B1 O1
      go_wp2_with fail
      refine Calls.mono (out_c HH9.out.at_ (HTC.out.okH.rises (by omega)) (u : Int) (outs H u) (outE_nat huM) _ rfl) ?_
      rintro e w10 ⟨Aq, cq, rfl, O2, B2⟩
      have HG10 := Lib.hid (HG9.out.next B2)
      have HH10 := Lib.hid (HH9.out.next B2)
      have HO2 := Lib.hid O2
      have HO1' := Lib.hid (own_belowW HO1.out B2)
      clear HG9 HH9 B2 O2 HO1
      go_wp2_with fail
      refine Calls.mono (ints_own HO1'.out HO2.out) ?_
      rintro e w11 ⟨rfl, B3⟩
      have HG11 := Lib.hid (HG10.out.next B3)
      have HH11 := Lib.hid (HH10.out.next B3)
      clear HG10 HH10 B3 HO1' HO2
      rw [decide_eq_true (show intos L u = outs H u from (HTC.out.out u huM).symm)]
      go_wp2_with fail
      obtain ⟨R, hR⟩ := Gr.isR M L
      obtain ⟨R2, hR2⟩ := Gr.isR M H
      have hRR : R2 (v : Int) (u : Int) = R (u : Int) (v : Int) := by
        rw [Bool.eq_iff_iff, hR, hR2]
        exact HTC.out.toTurn.symm.reached HTC.out.okH HTC.out.okL _ _
      have HR := Lib.hid hR
      have HR2 := Lib.hid hR2
      have HRR := Lib.hid hRR
      clear hR hR2 hRR
      refine Calls.mono (reach_b HG11.out.at_ HTC.out.okL (by omega) HR.out (u : Int) (v : Int)) ?_
      rintro e w12 ⟨rfl, B2⟩
      have HG12 := Lib.hid (HG11.out.next B2)
      have HH12 := Lib.hid (HH11.out.next B2)
      clear HG11 HH11 B2
      go_wp2_with fail
      refine Calls.mono (reach_b HH12.out.at_ HTC.out.okH (by omega) HR2.out (v : Int) (u : Int)) ?_
      rintro e w13 ⟨rfl, B2⟩
      have HG13 := Lib.hid (HG12.out.next B2)
      have HH13 := Lib.hid (HH12.out.next B2)
      clear HG12 HH12 B2
      rw [HRR.out]
      clear HRR
      generalize R (u : Int) (v : Int) = b at *
      have e1 : (b == b) = true := by simp
      have e2 : (bs == bs) = true := by simp
      go_wp2_with fail
      refine Calls.mono (edges_any _ _ g M _ L HG13.out.at_ (HTC.out.okL.rises (by omega)) (by omega)) ?_
      rintro e w14 ⟨Ae, ce, rfl, B2, -⟩
      have HG14 := Lib.hid (HG13.out.next B2)
      have HH14 := Lib.hid (HH13.out.next B2)
      clear HG13 HH13 B2
      go_wp2_with fail
      refine Calls.mono (edges_any _ _ h M _ H HH14.out.at_ (HTC.out.okH.rises (by omega)) (by omega)) ?_
      rintro e w15 ⟨Af, cf, rfl, B2, -⟩
      have HG15 := Lib.hid (HG14.out.next B2)
      clear HG14 HH14 B2
      rw [show (edgesTo H M).length = (edgesTo L M).length from HTC.out.many.symm]
      generalize (edgesTo L M).length = q at *
      have e3 : ((q : Int) == (q : Int)) = true := by simp
      go_wp2_with fail
      refine Calls.mono (awake_any w15) ?_
      rintro e w16 ⟨rfl, B2⟩
      have HB := Lib.hid (HG15.out.low.trans (B2.mono HG15.out.low.size))
      clear HG15 B2
      go_wp2_with fail
      go_ret
      exact ⟨rfl, HB.out⟩
end Go.Proofs.Ytclbpohhmaojcaa.GrW
