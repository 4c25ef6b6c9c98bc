/-
  The walk of BundleTells.
-/
import Derived.Test.YtelplccbcbegkaaBundleBoth
namespace Go.Proofs.Ytelplccbcbegkaa.OrW
set_option linter.unusedVariables false
open Go Go.RowKit Go.Proofs Go.Proofs.Ytelplccbcbegkaa Go.Proofs.Ytelplccbcbegkaa.Wd Go.Proofs.Ytelplccbcbegkaa.GrW Go.Proofs.Ytelplccbcbegkaa.Ord
open Go.Proofs.Ytelplccbcbegkaa.Gr (OK putL outs intos Path edgesTo ev)

set_option maxRecDepth 100000 in
set_option maxHeartbeats 16000000 in
theorem btells_walk (nb : Nat) (hnb : nb < 256) (A : Option Addr) (c : Nat) (l : List (Int × List (Int × Int))) (m : Nat) (hm : m = l.length) (hmc : m ≤ c) (hcm : c ≤ maxLen) (hfit : ∀ p ∈ l, p.2.length ≤ 140737488351232) (w : World) (hI : PartsAt w w.heap.size A l) :
    Calls Try.prog 5 #[.int .u8 (nb : Int), .slice A m c] w fun e w' => e = .returned (.bool true) ∧ Below w.heap.size w w' := by
  have HFW := Lib.hid (few_any w A c l m hm hmc hcm hfit hI)
  have HI := Lib.hid hI
  have HM := Lib.hid hm
  unfold maxLen at hcm
  obtain ⟨n0, hc0⟩ : ∃ n0, n0 = nb % 13 := ⟨_, rfl⟩
  have t0 : (nb : Int).tmod 13 = (n0 : Int) := by rw [Int.tmod_eq_emod_of_nonneg (Int.natCast_nonneg _)]; omega
  have hn13 : n0 ≤ 12 := by omega
  have wa : wrap64 (n0 : Int) = n0 := IntWalk.wrap64_in _ (by omega)
  clear hI hm hfit hc0
  go_enter Try.func5, Try.ntmps5
  go_wp2_with fail
  refine Calls.mono HFW.out ?_
  clear HFW
  rintro e w0 ⟨fb, rfl, hfb, B0⟩
  have HB0 := Lib.hid B0
  by_cases hft : fb = true
  · have HFB := Lib.hid (hfb hft)
    have hm12 := (hfb hft).1
    rw [hft]
    clear hft hfb B0
    have HNW := Lib.hid (newO_any (n0 : Int) w0)
    go_wp2_with fail
    refine Calls.mono HNW.out ?_
    intro e w1 h1
    unfold ONewOut at h1
    rw [if_pos (by omega)] at h1
    obtain ⟨o, rfl, O1, B1⟩ := h1
    rw [Int.toNat_natCast] at O1
    have HO1 : Hid (OnF w0 w1 (fun k => w0.heap.size ≤ k ∧ k < w1.heap.size) o n0 (List.replicate (2 * n0) []) (List.range n0) (List.range n0)) := Lib.hid ⟨O1.exist, fun k e => e, B1⟩
    clear HNW O1 B1
    go_wp2_with fail
    refine Calls.mono (newR_any w1 (n0 : Int)) ?_
    intro e w2 h2
    unfold NewR at h2
    rw [if_pos (by omega)] at h2
    obtain ⟨Am, cm, rfl, o2, B2⟩ := h2
    rw [Int.toNat_natCast] at o2 ⊢
    unfold ov
    have HT0 := Lib.hid (And.intro (TO.start HO1.out o2 B2) (OSt.start n0))
    clear HO1 B2 o2
    generalize hbm : w2.heap.size = bm at HT0
    go_wp2_with fail
    clear hbm t0 wa
    go_loopw [47] (fun i wr => ∃ (k n : Nat) (F : Nat → Prop) (L : List (List Int)) (P V : List Nat) (A9 : Option Addr) (q c9 : Nat) (Am9 : Option Addr) (cm9 : Nat), k ≤ m ∧ i = .int .i64 k ∧ n ≤ 12 + 4 * k ∧ q ≤ 60 * k ∧ Hid (TO w0 wr F o n L P V bm n A9 q c9 Am9 cm9 L V ∧ OSt n L P V)) (fun i _ => m - (intOf i).toNat)
    case atStart => exact ⟨0, n0, _, _, _, _, none, 0, 0, Am, cm, Nat.zero_le _, rfl, by omega, Nat.le_refl _, HT0⟩
    case round =>
      obtain ⟨k, n, F, L, P, V, A9, q, c9, Am9, cm9, hk, rfl, hnk, hqk, HS⟩ := hrel
      clear HT0
      by_cases hlt : k < m
      · have hkl : k < l.length := by have := HM.out; omega
        obtain ⟨b, off, Ae, ce, rfl, hb, p1, p2, p3, p4, p5⟩ := HI.out k hkl
        have hBW : Below w.heap.size w wr := HB0.out.trans (HS.out.1.on.low.mono HB0.out.size)
        have q1 := (hBW.cell (p := ⟨b, _, none⟩) hb).trans p1
        have q2 := (hBW.cell (p := ⟨b, _, none⟩) hb).trans p2
        have h60 := HFB.out.2 _ (List.getElem_mem hkl)
        generalize l[k] = x at *
        obtain ⟨more, es⟩ := x
        have HEC : Hid (∀ W, Below w.heap.size w W → EdgesAt W W.heap.size Ae es) := Lib.hid (fun W hW => (p5.below hW).more' hW.size)
        have HAE : Hid (∀ b off, Ae = some ⟨b, off, none⟩ → es ≠ [] → b < w.heap.size) := Lib.hid (fun b off e hne => by
          obtain ⟨b2, off2, e2, hb2, -⟩ := p5 0 (List.length_pos_iff.2 hne)
          rw [e] at e2
          simp only [Option.some.injEq, Addr.mk.injEq, and_true] at e2
          rw [e2.1]
          exact hb2)
        obtain ⟨me, hme⟩ : ∃ me, me = es.length := ⟨_, rfl⟩
        have HME := Lib.hid hme
        have h61 : me ≤ 60 := by rw [hme]; exact h60
        have q3 : wr.cell? ⟨b, off + k * 2 + 1, none⟩ = some (.slice Ae me ce) := by rw [hme]; exact q2
        clear q2 h60
        have i1 : (0 : Int) ≤ (k : Int) := by omega
        have i2 : (k : Int) < (m : Int) := by omega
        have HBF : Hid (¬ F wr.heap.size ∧ bm ≠ wr.heap.size) := Lib.hid ⟨fun e => by have := (HS.out.1.on.f1 _ e).2; omega, Nat.ne_of_lt HS.out.1.box.lt⟩
        have HBX := Lib.hid (Blk.new_ wr 59 #[.int .i64 more, .slice Ae me ce] rfl)
        have HTa := Lib.hid (HS.out.1.below ((Below.refl _ wr).alloc (Nat.le_refl _) (.cells #[.int .i64 more, .slice Ae me ce] 59)))
        have HST := Lib.hid HS.out.2
        have HBC : Hid (Below w.heap.size w (wr.alloc (.cells #[.int .i64 more, .slice Ae me ce] 59))) := Lib.hid (hBW.alloc hBW.size _)
        generalize hwc : wr.alloc (.cells #[.int .i64 more, .slice Ae me ce] 59) = wc at *
        generalize hbc : wr.heap.size = bc at *
        have a0 := HBX.out.at_ 0 rfl
        have a1 := HBX.out.at_ 1 rfl
        clear p1 p2 p3 p4 p5 hb hkl HS hme hBW
        by_cases hsk : (4 : Int) < more ∧ more ≤ 10000
        · obtain ⟨hu4, hu9⟩ := hsk
          have HN := Lib.hid (And.intro HTa.out HST.out)
          clear HTa HBX HST HBF HBC HEC HAE HME
          go_wp2_with fail
          go_roundw
          case rel => exact ⟨k + 1, n, F, L, P, V, A9, q, c9, Am9, cm9, by omega, by go_num, by omega, by omega, HN⟩
          case measure => simp [intOf]; omega
        · have hmo : more ≤ 4 ∨ 10000 < more := by omega
          go_upto_region 10 with fail
          clear q1 q3 hwc hbc
          go_cut [58] (fun v58 wx => v58 = .bool false ∧ wx = wc)
          case first =>
            by_cases hu4 : (4 : Int) < more
            · have hu9 : ¬ more ≤ 10000 := by omega
              clear hsk hmo
              go_wp2_with fail
              go_meet
              exact ⟨rfl, rfl⟩
            · clear hsk hmo
              go_wp2_with fail
              go_meet
              exact ⟨rfl, rfl⟩
          case rest =>
          obtain ⟨rfl, hwx⟩ := hcut
          have hwx := hwx.symm
          subst hwx
          clear hsk
          have HFL : Hid (∀ k, F k → k < wc.heap.size ∧ w.heap.size ≤ k) := Lib.hid (fun k hk => ⟨(HTa.out.on.f1 k hk).2, Nat.le_trans HB0.out.size (HTa.out.on.f1 k hk).1⟩)
          have HCY := Lib.hid (cycle_any' wc w0.heap.size o n F L P V HTa.out.on.ord HST.out (by omega) more Ae me ce es HME.out (by omega) (HEC.out wc HBC.out) (fun b off e hne => Nat.lt_of_lt_of_le (HAE.out b off e hne) HBC.out.size))
          go_wp2_with fail
          refine Calls.mono HCY.out ?_
          clear HCY a0 a1
          intro e wd hcy
          obtain ⟨lc, Ac, cc, rfl, hT, Bd, n1, ncc, ncm, nfar⟩ := cycT_of hcy
          have HCT := Lib.hid hT
          have HTd := Lib.hid (HTa.out.below Bd)
          have HBXd := Lib.hid (HBX.out.below Bd HBX.out.lt)
          have HBCd := Lib.hid (HBC.out.trans (Bd.mono HBC.out.size))
          have HSC : Hid (SN wd F bm Ac (zs lc) ∧ lc.length ≤ cc ∧ cc ≤ maxLen) := Lib.hid ⟨⟨n1, fun b off e => ⟨fun hf => by have := (HFL.out b hf).1; have := (nfar b off e).1; omega, fun e2 => by have := HTa.out.box.lt; have := (nfar b off e).1; omega, (nfar b off e).2⟩⟩, ncc, ncm⟩
          have HFI := Lib.hid (fits_any' wd w0.heap.size o n F L P V HTd.out.on.ord HST.out (by omega) more HST.out.hok Ae me ce es HME.out (by omega) (HEC.out wd HBCd.out) (fun b off e hne => Nat.lt_of_lt_of_le (HAE.out b off e hne) HBCd.out.size))
          have a0 := HBXd.out.at_ 0 rfl
          have a1 := HBXd.out.at_ 1 rfl
          have HSZ : Hid (wc.heap.size ≤ wd.heap.size) := Lib.hid Bd.size
          clear hcy hT Bd n1 ncc ncm nfar HBX HBC
          go_wp2_with fail
          refine Calls.mono HFI.out ?_
          clear HFI a0 a1
          rintro e we ⟨kf, rfl, hFf, Be⟩
          have HFF := Lib.hid hFf
          have HTe := Lib.hid (HTd.out.below Be)
          have HBXe := Lib.hid (HBXd.out.below Be HBXd.out.lt)
          have HBCe := Lib.hid (HBCd.out.trans (Be.mono HBCd.out.size))
          have HSCe := Lib.hid (HSC.out.1.below Be)
          have HRC := Lib.hid (rcycle_any we n (by omega) L P V HST.out A9 q c9 Am9 cm9 HTe.out.ro (by omega) more (by omega) Ae me ce es HME.out (by omega) (HEC.out we HBCe.out))
          unfold ov at HRC
          have a0 := HBXe.out.at_ 0 rfl
          have a1 := HBXe.out.at_ 1 rfl
          have c0 := HTe.out.box.at_ 0 rfl
          have c1 := HTe.out.box.at_ 1 rfl
          have c2 := HTe.out.box.at_ 2 rfl
          have HSZe : Hid (wc.heap.size ≤ we.heap.size) := Lib.hid (Nat.le_trans HSZ.out Be.size)
          clear hFf Be HTd HBXd HBCd HSZ
          go_wp2_with fail
          refine Calls.mono HRC.out ?_
          clear HRC a0 a1 c0 c1 c2
          intro e wf hrc
          obtain ⟨lc2, At, ct, rfl, hT2, Bf, n1, ncc, ncm, nfar⟩ := cycT_of hrc
          have hll := hT2.det HCT.out
          subst hll
          have HTf := Lib.hid (HTe.out.below Bf)
          have HBXf := Lib.hid (HBXe.out.below Bf HBXe.out.lt)
          have HBCf := Lib.hid (HBCe.out.trans (Bf.mono HBCe.out.size))
          have HSCf := Lib.hid (HSCe.out.below Bf)
          have HSRf : Hid (SN wf F bm At (zs lc2) ∧ lc2.length ≤ ct ∧ ct ≤ maxLen) := Lib.hid ⟨⟨n1, fun b off e => ⟨fun hf => by have := (HFL.out b hf).1; have := (nfar b off e).1; have := HSZe.out; omega, fun e2 => by have := HTa.out.box.lt; have := (nfar b off e).1; have := HSZe.out; omega, (nfar b off e).2⟩⟩, ncc, ncm⟩
          have HBP := Lib.hid (bput_d wf w0.heap.size o n F L P V HTf.out.on.ord HST.out (by omega) more Ae me ce es HME.out (by omega) (HEC.out wf HBCf.out) (fun b off e hne => ⟨fun hf => by have := (HFL.out b hf).2; have := HAE.out b off e hne; omega, Nat.lt_of_lt_of_le (HAE.out b off e hne) HBCf.out.size⟩))
          have a0 := HBXf.out.at_ 0 rfl
          have a1 := HBXf.out.at_ 1 rfl
          clear hrc hT2 Bf n1 ncc ncm nfar HTe HBXe HBCe HSCe HTa HCT HSZe
          go_wp2_with fail
          refine Calls.mono HBP.out ?_
          clear HBP a0 a1
          rintro e wg ⟨chg, k2, N, L', P', V', rfl, hBD, U⟩
          have HBXg := Lib.hid (U.blk HBXf.out HBF.out.1)
          obtain ⟨F1, h1, hfr, hF1⟩ := HTf.out.upd2 U
          have HTg := Lib.hid h1
          have HSCg := Lib.hid (HSCf.out.upd hfr hF1)
          have HSRg := Lib.hid (HSRf.out.1.upd hfr hF1)
          have HBD := Lib.hid hBD
          have HSTN := Lib.hid (hBD.st HST.out)
          have hNs := hBD.small hmo
          have hkk := HFF.out.det hBD.1
          subst hkk
          have HBCg : Hid (Below w.heap.size w wg) := Lib.hid (HB0.out.trans (h1.on.low.mono HB0.out.size))
          have HRP := Lib.hid (rput_d wg n (by omega) L P V HST.out A9 q c9 Am9 cm9 h1.ro (by omega) more (by omega) Ae me ce es HME.out (by omega) (HEC.out wg HBCg.out))
          unfold ov at HRP
          have a0 := HBXg.out.at_ 0 rfl
          have a1 := HBXg.out.at_ 1 rfl
          have c0 := h1.box.at_ 0 rfl
          have c1 := h1.box.at_ 1 rfl
          have c2 := h1.box.at_ 2 rfl
          clear hBD U h1 hfr hF1 HTf HBXf HBCf HSCf HFF
          go_wp2_with fail
          refine Calls.mono HRP.out ?_
          clear HRP a0 a1 c0 c1 c2
          rintro e wh ⟨chg2, k3, N2, i2', n3, q3, c3, cm3, q', c', cm', L2, P2, V2, A3, Am3, A', Am', rfl, hBD2, Bh, Rh, hq', NA, NM⟩
          obtain ⟨e1, e2, e3, e4, e5, e6⟩ := HBD.out.det hBD2
          subst e1 e2 e3 e4 e5 e6
          have hq2 : q' ≤ q + me := by have := HME.out; omega
          have HB5 : Hid (Below wh.heap.size wh ((wh.alloc (.cells #[.int .i64 (N : Int), .slice A' q' c', .slice Am' N cm'] 55)).alloc (.cells #[.int .i64 (n3 : Int), .slice A3 q3 c3, .slice Am3 n3 cm3] 55))) := Lib.hid (((Below.refl _ wh).alloc (Nat.le_refl _) _).alloc (by simp) _)
          have HX5 : Hid (Blk ((wh.alloc (.cells #[.int .i64 (N : Int), .slice A' q' c', .slice Am' N cm'] 55)).alloc (.cells #[.int .i64 (n3 : Int), .slice A3 q3 c3, .slice Am3 n3 cm3] 55)) wh.heap.size 55 #[.int .i64 (N : Int), .slice A' q' c', .slice Am' N cm']) := Lib.hid ((Blk.new_ wh _ _ rfl).alloc _)
          have HPH := Lib.hid (And.intro Bh (And.intro Rh (And.intro NA NM)))
          clear hBD2 Bh Rh hq' NA NM HBD
          go_upto_region 16 with fail
          generalize (wh.alloc (.cells #[.int .i64 (N : Int), .slice A' q' c', .slice Am' N cm'] 55)).alloc (.cells #[.int .i64 (n3 : Int), .slice A3 q3 c3, .slice Am3 n3 cm3] 55) = w5 at *
          have hbx : Blk w5 bm 55 #[.int .i64 (n : Int), .slice A9 q c9, .slice Am9 n cm9] := (HTg.out.box.below HPH.out.1 HTg.out.box.lt).below HB5.out (HTg.out.box.below HPH.out.1 HTg.out.box.lt).lt
          have y0 := HX5.out.at_ 0 rfl
          have y1 := HX5.out.at_ 1 rfl
          have y2 := HX5.out.at_ 2 rfl
          have x0_ := hbx.at_ 0 rfl
          have f0 := hbx.frozen 0
          have k1 := hbx.set_ 0 (.int .i64 (N : Int))
          have x1 := k1.at_ 1 rfl
          have f1 := k1.frozen 1
          have k2_ := k1.set_ 1 (.slice A' q' c')
          have x2 := k2_.at_ 2 rfl
          have f2 := k2_.frozen 2
          have HN : Hid (TO w0 (((w5.setCell ⟨bm, 0, none⟩ (.int .i64 (N : Int))).setCell ⟨bm, 1, none⟩ (.slice A' q' c')).setCell ⟨bm, 2, none⟩ (.slice Am' N cm')) F1 o N L' P' V' bm N A' q' c' Am' cm' L' V' ∧ OSt N L' P' V' ∧ SN (((w5.setCell ⟨bm, 0, none⟩ (.int .i64 (N : Int))).setCell ⟨bm, 1, none⟩ (.slice A' q' c')).setCell ⟨bm, 2, none⟩ (.slice Am' N cm')) F1 bm Ac (zs lc2) ∧ SN (((w5.setCell ⟨bm, 0, none⟩ (.int .i64 (N : Int))).setCell ⟨bm, 1, none⟩ (.slice A' q' c')).setCell ⟨bm, 2, none⟩ (.slice Am' N cm')) F1 bm At (zs lc2)) := Lib.hid ⟨HTg.out.keep HPH.out.1 HPH.out.2.1 HPH.out.2.2.1 HPH.out.2.2.2 HB5.out, HSTN.out, ((((HSCg.out.below HPH.out.1).below HB5.out).set_ 0 _).set_ 1 _).set_ 2 _, ((((HSRg.out.below HPH.out.1).below HB5.out).set_ 0 _).set_ 1 _).set_ 2 _⟩
          have HCC := Lib.hid (And.intro HSC.out.2 HSRf.out.2)
          clear k1 k2_ hbx HTg HPH HB5 HX5 HSCg HSRg HSTN HBXg HSC HSRf HBCg
          go_upto_region 17 with fail
          clear y0 y1 y2 x0_ f0 x1 f1 x2 f2
          generalize (((w5.setCell ⟨bm, 0, none⟩ (.int .i64 (N : Int))).setCell ⟨bm, 1, none⟩ (.slice A' q' c')).setCell ⟨bm, 2, none⟩ (.slice Am' N cm')) = wz at *
          have HT := Lib.hid HN.out.1
          have HVL : Hid (N = (zs V').length) := Lib.hid (by rw [zs_length, HN.out.2.1.perm.la])
          have HCL : Hid (∀ W, Below wz.heap.size wz W → W.cell? ⟨bm, 0, none⟩ = some (.int .i64 (N : Int)) ∧ W.cell? ⟨bm, 1, none⟩ = some (.slice A' q' c') ∧ W.cell? ⟨bm, 2, none⟩ = some (.slice Am' N cm')) := Lib.hid (fun W hW => ⟨(HT.out.box.below hW HT.out.box.lt).at_ 0 rfl, (HT.out.box.below hW HT.out.box.lt).at_ 1 rfl, (HT.out.box.below hW HT.out.box.lt).at_ 2 rfl⟩)
          have hS : Below wz.heap.size wz wz.drew := (Below.refl _ wz).drew
          refine wp_region_heldG [] (fun _ W => Below wz.heap.size wz W) (by kernel_rfl) ?_
          change wpAnyG _ _ _ _ _ _ 36 _ _ wz.drew
          refine g_take (i := 0) rfl rfl (by kernel_rfl) (by kernel_rfl) (by kernel_rfl) (by kernel_rfl) (by kernel_rfl) (fun _ _ _ h => h) hS (fun L' W' hL hW => by go_simp; rfl) ?_
          refine g_take (i := 1) rfl rfl (by kernel_rfl) (by kernel_rfl) (by kernel_rfl) (by kernel_rfl) (by kernel_rfl) (fun _ _ _ h => h) hS (fun L' W' hL hW => by go_simp; rfl) ?_
          refine g_take (i := 2) rfl rfl (by kernel_rfl) (by kernel_rfl) (by kernel_rfl) (by kernel_rfl) (by kernel_rfl) (fun _ _ _ h => h) hS (fun L' W' hL hW => by go_simp; rfl) ?_
          refine g_take (i := 3) rfl rfl (by kernel_rfl) (by kernel_rfl) (by kernel_rfl) (by kernel_rfl) (by kernel_rfl) (fun _ _ _ h => h) hS (fun L' W' hL hW => by go_simp; rfl) ?_
          refine g_takeG (i := 4) rfl (by simp only [Region.wanted, yielded]; go_simp) (by kernel_rfl) (by kernel_rfl) (by kernel_rfl) (by kernel_rfl) (by kernel_rfl) (fun _ _ _ h => h) hS (fun L' W' hL hW => by go_simp; rfl) ?_
          refine g_takeG (i := 5) rfl (by simp only [Region.wanted, yielded]; go_simp) (by kernel_rfl) (by kernel_rfl) (by kernel_rfl) (by kernel_rfl) (by kernel_rfl) (fun _ _ _ h => h) hS (fun L' W' hL hW => by go_simp; rfl) ?_
          refine g_takeG (i := 6) rfl (by simp only [Region.wanted, yielded]; go_simp) (by kernel_rfl) (by kernel_rfl) (by kernel_rfl) (by kernel_rfl) (by kernel_rfl) (fun _ _ _ h => h) hS (fun L' W' hL hW => by go_simp; rfl) ?_
          refine g_take (i := 7) rfl rfl (by kernel_rfl) (by kernel_rfl) (by kernel_rfl) (by kernel_rfl) (by kernel_rfl) (fun _ _ _ h => h) hS (fun L' W' hL hW => by go_simp; rfl) ?_
          refine g_take (i := 8) rfl rfl (by kernel_rfl) (by kernel_rfl) (by kernel_rfl) (by kernel_rfl) (by kernel_rfl) (fun _ _ _ h => h) hS (fun L' W' hL hW => by go_simp; rfl) ?_
          refine g_takeG (i := 9) rfl (by simp only [Region.wanted, yielded]; go_simp) (by kernel_rfl) (by kernel_rfl) (by kernel_rfl) (by kernel_rfl) (by kernel_rfl) (fun _ _ _ h => h) hS (fun L' W' hL hW => by go_simp; rfl) ?_
          refine g_takeG (i := 10) rfl (by simp only [Region.wanted, yielded]; go_simp) (by kernel_rfl) (by kernel_rfl) (by kernel_rfl) (by kernel_rfl) (by kernel_rfl) (fun _ _ _ h => h) hS (fun L' W' hL hW => by go_simp; rfl) ?_
          refine g_takeG (i := 11) rfl (by simp only [Region.wanted, yielded]; go_simp) (by kernel_rfl) (by kernel_rfl) (by kernel_rfl) (by kernel_rfl) (by kernel_rfl) (fun _ _ _ h => h) hS (fun L' W' hL hW => by go_simp; rfl) ?_
          refine g_take (i := 12) rfl rfl (by kernel_rfl) (by kernel_rfl) (by kernel_rfl) (by kernel_rfl) (by kernel_rfl) (fun _ _ _ h => h) hS (fun L' W' hL hW => by go_simp; rfl) ?_
          refine g_take (i := 13) rfl rfl (by kernel_rfl) (by kernel_rfl) (by kernel_rfl) (by kernel_rfl) (by kernel_rfl) (fun _ _ _ h => h) hS (fun L' W' hL hW => by go_simp; rfl) ?_
          refine g_takeG (i := 14) rfl (by simp only [Region.wanted, yielded]; go_simp) (by kernel_rfl) (by kernel_rfl) (by kernel_rfl) (by kernel_rfl) (by kernel_rfl) (fun _ _ _ h => h) hS (fun L' W' hL hW => by go_simp; rfl) ?_
          refine g_takeG (i := 15) rfl (by simp only [Region.wanted, yielded]; go_simp) (by kernel_rfl) (by kernel_rfl) (by kernel_rfl) (by kernel_rfl) (by kernel_rfl) (fun _ _ _ h => h) hS (fun L' W' hL hW => by go_simp; rfl) ?_
          refine g_one (i := 16) rfl (by simp only [Region.wanted, yielded]; go_simp) (by kernel_rfl) fun K' hK => ?_
          go_simp
          refine Calls.mono (ints_any Ac At cc ct (zs lc2) (zs lc2) lc2.length lc2.length (by rw [zs_length]) (by rw [zs_length]) HCC.out.1.1 HCC.out.1.2 wz.drew (HN.out.2.2.1.below hS).nums (HN.out.2.2.2.below hS).nums) ?_
          rintro e w3 ⟨rfl, B5⟩
          rw [decide_eq_true (show zs lc2 = zs lc2 from rfl)]
          have hS : Below wz.heap.size wz w3 := hS.trans (B5.mono hS.size)
          refine hK _ _ hS ?_
          clear hK K' B5
          refine g_takeG (i := 17) rfl (by simp only [Region.wanted, yielded]; go_simp) (by kernel_rfl) (by kernel_rfl) (by kernel_rfl) (by kernel_rfl) (by kernel_rfl) (fun _ _ _ h => h) hS (fun L' W' hL hW => by go_simp; rfl) ?_
          refine g_take (i := 18) rfl rfl (by kernel_rfl) (by kernel_rfl) (by kernel_rfl) (by kernel_rfl) (by kernel_rfl) (fun _ _ _ h => h) hS (fun L' W' hL hW => by go_simp; rfl) ?_
          refine g_take (i := 19) rfl rfl (by kernel_rfl) (by kernel_rfl) (by kernel_rfl) (by kernel_rfl) (by kernel_rfl) (fun _ _ _ h => h) hS (fun L' W' hL hW => by go_simp; rfl) ?_
          refine g_takeG (i := 20) rfl (by simp only [Region.wanted, yielded]; go_simp) (by kernel_rfl) (by kernel_rfl) (by kernel_rfl) (by kernel_rfl) (by kernel_rfl) (fun _ _ _ h => h) hS (fun L' W' hL hW => by go_simp; rfl) ?_
          refine g_takeG (i := 22) rfl (by simp only [Region.wanted, yielded]; go_simp) (by kernel_rfl) (by kernel_rfl) (by kernel_rfl) (by kernel_rfl) (by kernel_rfl) (fun _ _ _ h => h) hS (fun L' W' hL hW => by go_simp; rfl) ?_
          refine g_takeG (i := 23) rfl (by simp only [Region.wanted, yielded]; go_simp) (by kernel_rfl) (by kernel_rfl) (by kernel_rfl) (by kernel_rfl) (by kernel_rfl) (fun _ _ _ h => h) hS (fun L' W' hL hW => by obtain ⟨k0, k1, k2⟩ := HCL.out _ hW; go_simp; rfl) ?_
          refine g_one (i := 21) rfl (by simp only [Region.wanted, yielded]; go_simp) (by kernel_rfl) fun K' hK => ?_
          go_simp
          refine Calls.mono (list_o (HT.out.below hS).on.ord HN.out.2.1.perm (by omega)) ?_
          rintro e w4 ⟨v4, rfl, o5, B5⟩
          obtain ⟨A5, c5, rfl⟩ := own_form o5
          have hS : Below wz.heap.size wz w4 := hS.trans (B5.mono hS.size)
          have HN5 := Lib.hid (Nums.of_own o5)
          refine hK _ _ hS ?_
          clear hK K' B5 o5
          refine g_one (i := 24) rfl (by simp only [Region.wanted, yielded]; go_simp) (by kernel_rfl) fun K' hK => ?_
          go_simp
          refine Calls.mono (ints_any A5 Am' c5 cm' (zs V') (zs V') (zs V').length N rfl HVL.out HN5.out.2.2.1 HN5.out.2.2.2 w4 HN5.out.1 (HT.out.below hS).ro.nums) ?_
          rintro e w5_ ⟨rfl, B5⟩
          rw [decide_eq_true (show zs V' = zs V' from rfl)]
          have hS : Below wz.heap.size wz w5_ := hS.trans (B5.mono hS.size)
          refine hK _ _ hS ?_
          clear hK K' B5 HN5
          refine g_takeG (i := 25) rfl (by simp only [Region.wanted, yielded]; go_simp) (by kernel_rfl) (by kernel_rfl) (by kernel_rfl) (by kernel_rfl) (by kernel_rfl) (fun _ _ _ h => h) hS (fun L' W' hL hW => by go_simp; rfl) ?_
          refine g_take (i := 26) rfl rfl (by kernel_rfl) (by kernel_rfl) (by kernel_rfl) (by kernel_rfl) (by kernel_rfl) (fun _ _ _ h => h) hS (fun L' W' hL hW => by go_simp; rfl) ?_
          refine g_take (i := 27) rfl rfl (by kernel_rfl) (by kernel_rfl) (by kernel_rfl) (by kernel_rfl) (by kernel_rfl) (fun _ _ _ h => h) hS (fun L' W' hL hW => by go_simp; rfl) ?_
          refine g_takeG (i := 28) rfl (by simp only [Region.wanted, yielded]; go_simp) (by kernel_rfl) (by kernel_rfl) (by kernel_rfl) (by kernel_rfl) (by kernel_rfl) (fun _ _ _ h => h) hS (fun L' W' hL hW => by go_simp; rfl) ?_
          refine g_takeG (i := 30) rfl (by simp only [Region.wanted, yielded]; go_simp) (by kernel_rfl) (by kernel_rfl) (by kernel_rfl) (by kernel_rfl) (by kernel_rfl) (fun _ _ _ h => h) hS (fun L' W' hL hW => by go_simp; rfl) ?_
          refine g_takeG (i := 31) rfl (by simp only [Region.wanted, yielded]; go_simp) (by kernel_rfl) (by kernel_rfl) (by kernel_rfl) (by kernel_rfl) (by kernel_rfl) (fun _ _ _ h => h) hS (fun L' W' hL hW => by go_simp; rfl) ?_
          refine g_takeG (i := 32) rfl (by simp only [Region.wanted, yielded]; go_simp) (by kernel_rfl) (by kernel_rfl) (by kernel_rfl) (by kernel_rfl) (by kernel_rfl) (fun _ _ _ h => h) hS (fun L' W' hL hW => by obtain ⟨k0, k1, k2⟩ := HCL.out _ hW; go_simp; rfl) ?_
          refine g_one (i := 29) rfl (by simp only [Region.wanted, yielded]; go_simp) (by kernel_rfl) fun K' hK => ?_
          go_simp
          refine Calls.mono (edges_o (HT.out.below hS).on.ord HN.out.2.1.ok (by omega)) ?_
          rintro e w6 ⟨Ax, cx, rfl, B6, O6⟩
          have HE6 := Lib.hid (EdgesAt.of_own O6)
          have hS : Below wz.heap.size wz w6 := hS.trans (B6.mono hS.size)
          refine hK _ _ hS ?_
          clear hK K' B6 O6
          refine g_one (i := 33) rfl (by simp only [Region.wanted, yielded]; go_simp) (by kernel_rfl) fun K' hK => ?_
          go_simp
          refine Calls.mono (sameEdges_any Ax A' cx c' (edgesTo L' N) (edgesTo L' N) _ q' rfl HT.out.ro.q1 HE6.out.2.2.1 HE6.out.2.2.2 w6 HE6.out.1 (HT.out.ro.below hS).ed) ?_
          rintro e w7 ⟨rfl, B7⟩
          rw [decide_eq_true (show edgesTo L' N = edgesTo L' N from rfl)]
          have hS : Below wz.heap.size wz w7 := hS.trans (B7.mono hS.size)
          refine hK _ _ hS ?_
          clear hK K' B7 HE6
          refine g_takeG (i := 34) rfl (by simp only [Region.wanted, yielded]; go_simp) (by kernel_rfl) (by kernel_rfl) (by kernel_rfl) (by kernel_rfl) (by kernel_rfl) (fun _ _ _ h => h) hS (fun L' W' hL hW => by go_simp; rfl) ?_
          refine g_take (i := 35) rfl rfl (by kernel_rfl) (by kernel_rfl) (by kernel_rfl) (by kernel_rfl) (by kernel_rfl) (fun _ _ _ h => h) hS (fun L' W' hL hW => by go_simp; rfl) ?_
          refine wpAnyG_done (by kernel_rfl) ?_ _
          have HN2 : Hid (TO w0 w7 F1 o N L' P' V' bm N A' q' c' Am' cm' L' V' ∧ OSt N L' P' V') := Lib.hid ⟨HT.out.below hS, HN.out.2.1⟩
          clear hS HCL HT HN HCC HVL
          go_simp
          go_wp2_with fail
          go_roundw
          case rel => exact ⟨k + 1, N, F1, L', P', V', A', q', c', Am', cm', by omega, by go_num, by omega, by omega, HN2⟩
          case measure => simp [intOf]; omega
      · have hkm : k = m := by omega
        subst hkm
        have HL := Lib.hid (HB0.out.trans (HS.out.1.on.low.mono HB0.out.size))
        have i2 : ¬ (k : Int) < (k : Int) := by omega
        clear HS
        go_wp2_with fail
        refine Calls.mono (awakeB_any _) ?_
        rintro e w3 ⟨rfl, B3⟩
        go_wp2_with fail
        go_ret
        exact ⟨rfl, HL.out.trans (B3.mono HL.out.size)⟩
  · rw [Bool.eq_false_iff.2 hft]
    clear hft hfb B0
    go_wp2_with fail
    refine Calls.mono (awakeB_any _) ?_
    rintro e w3 ⟨rfl, B3⟩
    go_wp2_with fail
    go_ret
    exact ⟨rfl, HB0.out.trans (B3.mono HB0.out.size)⟩
end Go.Proofs.Ytelplccbcbegkaa.OrW
