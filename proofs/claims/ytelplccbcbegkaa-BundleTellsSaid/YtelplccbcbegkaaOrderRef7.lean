/-
  The document's order: Put.
-/
import Derived.Test.YtelplccbcbegkaaOrderRef6
namespace Go.Proofs.Ytelplccbcbegkaa.OrW
set_option linter.unusedVariables false
open Go Go.RowKit Go.Proofs Go.Proofs.Ytelplccbcbegkaa Go.Proofs.Ytelplccbcbegkaa.Wd Go.Proofs.Ytelplccbcbegkaa.GrW Go.Proofs.Ytelplccbcbegkaa.Ord
open Go.Proofs.Ytelplccbcbegkaa.Gr (OK putL outs intos Path edgesTo ev)

/-- Put behind the turn. -/
structure MidP (w w4 wy : World) (n : Nat) (A : Option Addr) (q c : Nat) (Am : Option Addr) (L : List (List Int)) (P V : List Nat) (a b cc : Nat) (P' V' : List Nat) (Am' : Option Addr) (cm' : Nat) : Prop where
  np : ¬ Path L b a
  mv : cc = moved n P P'
  cn : cc ≤ n
  st : Step n L P V a b P' V'
  pt : PT w wy n A q c Am' cm'
  nums : Nums wy wy.heap.size Am' (zs V')
  k1 : n ≤ cm'
  k2 : cm' ≤ maxLen
  lm : Lies wy Am'
  nm : NewB w4 wy Am Am'
  ed : EdgesAt wy wy.heap.size A (edgesTo L n)
  la : Lies wy A
  sz : w4.heap.size ≤ wy.heap.size
set_option maxRecDepth 100000 in
set_option maxHeartbeats 16000000 in
theorem putR_any (w : World) (n : Nat) (hn : n ≤ 10000) (L : List (List Int)) (P V : List Nat) (hst : OSt n L P V) (A : Option Addr) (q c : Nat) (Am : Option Addr) (cm : Nat) (hR : RO w n A q c Am cm L V) (hbig : q ≤ 100000) (u v : Int) :
    Calls Try.prog 47 #[ov n A q c Am n cm, .int .i64 u, .int .i64 v] w (PutR w n A q c Am cm L P V u v) := by
  have HT0 := Lib.hid (PT.start w n A q c Am cm)
  have HR0 := Lib.hid hR
  have HST := Lib.hid hst
  have c0 := HT0.out.b0.at_ 0 rfl
  have c1 := HT0.out.b0.at_ 1 rfl
  clear hR hst
  unfold ov
  go_enter Try.func47, Try.ntmps47
  go_wp2_with fail
  clear c0 c1
  refine Calls.mono (refis_any _ n A q c u) ?_
  rintro e w3 ⟨rfl, B3⟩
  have HT3 := Lib.hid (HT0.out.below B3)
  have HR3 := Lib.hid (HR0.out.below HT3.out.low)
  clear HT0 B3
  by_cases hu : isV n u = true
  · rw [hu]
    have c0 := HT3.out.b0.at_ 0 rfl
    have c1 := HT3.out.b0.at_ 1 rfl
    have HU := Lib.hid hu
    obtain ⟨a, rfl, ha⟩ := isV_nat hu
    clear hu
    go_wp2_with fail
    clear c0 c1
    refine Calls.mono (refis_any w3 n A q c v) ?_
    rintro e w4 ⟨rfl, B4⟩
    have HT4 := Lib.hid (HT3.out.below B4)
    have HR4 := Lib.hid (HR3.out.below B4)
    clear HT3 HR3 B4
    by_cases hv : isV n v = true
    · rw [hv]
      have HV := Lib.hid hv
      obtain ⟨b, rfl, hb⟩ := isV_nat hv
      clear hv
      by_cases hab : a = b
      · subst hab
        have hee : ((a : Int) == (a : Int)) = true := by rw [beq_iff_eq]
        have x0 := HT4.out.b0.at_ 0 rfl
        have x1 := HT4.out.b0.at_ 1 rfl
        have x2 := HT4.out.b0.at_ 2 rfl
        have z0 := HT4.out.b1.at_ 0 rfl
        have f0 := HT4.out.b1.frozen 0
        have k1 := HT4.out.b1.set_ 0 (.int .i64 (n : Int))
        have z1 := k1.at_ 1 rfl
        have f1 := k1.frozen 1
        have k2 := k1.set_ 1 (.slice A q c)
        have z2 := k2.at_ 2 rfl
        have f2 := k2.frozen 2
        have K3 := Lib.hid (k2.set_ 2 (.slice Am n cm))
        have HB3 := Lib.hid (HT4.out.fin (.int .i64 (n : Int)) (.slice A q c) (.slice Am n cm))
        clear k1 k2
        go_wp2_with fail
        refine bodyPost_ret (results_cell_row3 rfl _ _ (w.heap.size + 1) 55 #[.int .i64 (n : Int), .slice A q c, .slice Am n cm] (0, 0) _ rfl K3.out.out Try.underlying55 rfl (by kernel_rfl)) rfl ?_
        refine ⟨HB3.out, ?_⟩
        rw [if_pos (by simp [HU.out])]
        exact ⟨0, 25, L, P, V, A, q, c, Am, cm, rfl, .inl ⟨rfl, rfl, .refl _, rfl, rfl, rfl⟩, HR0.out.below HB3.out, Nat.le_succ q, .refl _ _ _, .refl _ _ _⟩
      · have hee : ((a : Int) == (b : Int)) = false := by rw [beq_eq_false_iff_ne]; omega
        have habne := hab
        have HW4 := Lib.hid HT4.out.low.size
        have HPL : Hid (w.heap.size < w4.heap.size) := Lib.hid HT4.out.b0.lt
        have HPM : Hid (w.heap.size + 1 < w4.heap.size) := Lib.hid HT4.out.b1.lt
        have HHI := Lib.hid (idx_perm HST.out.perm ha)
        have HLO := Lib.hid (idx_perm HST.out.perm hb)
        have HHN := Lib.hid (HST.out.perm.pa a ha)
        have HLN := Lib.hid (HST.out.perm.pa b hb)
        have HVL : Hid (n = (zs V).length) := Lib.hid (by rw [zs_length, HST.out.perm.la])
        generalize hhi : P.getD a 0 = hi at HHI HHN
        generalize hlo : P.getD b 0 = lo at HLO HLN
        have HHI0 := Lib.hid hhi
        have HLO0 := Lib.hid hlo
        clear hhi hlo
        go_upto_region 5 with fail
        clear hee
        have HCL : Hid (∀ W, Below w4.heap.size w4 W → W.cell? ⟨w.heap.size, 0, none⟩ = some (.int .i64 (n : Int)) ∧ W.cell? ⟨w.heap.size, 1, none⟩ = some (.slice A q c) ∧ W.cell? ⟨w.heap.size, 2, none⟩ = some (.slice Am n cm)) := Lib.hid (fun W hW => ⟨(HT4.out.b0.below hW HT4.out.b0.lt).at_ 0 rfl, (HT4.out.b0.below hW HT4.out.b0.lt).at_ 1 rfl, (HT4.out.b0.below hW HT4.out.b0.lt).at_ 2 rfl⟩)
        have hS : Below w4.heap.size w4 w4.drew := (Below.refl _ w4).drew
        refine wp_region_heldG [] (fun _ W => Below w4.heap.size w4 W) (by kernel_rfl) ?_
        change wpAnyG _ _ _ _ _ _ 8 _ _ w4.drew
        refine g_take (i := 0) rfl rfl (by kernel_rfl) (by kernel_rfl) (by kernel_rfl) (by kernel_rfl) (by kernel_rfl) (fun _ _ _ h => h) hS (fun L' W' hL hW => by obtain ⟨k0, k1, k2⟩ := HCL.out _ hW; go_simp; rfl) ?_
        refine g_take (i := 1) rfl rfl (by kernel_rfl) (by kernel_rfl) (by kernel_rfl) (by kernel_rfl) (by kernel_rfl) (fun _ _ _ h => h) hS (fun L' W' hL hW => by go_simp; rfl) ?_
        refine g_take (i := 3) rfl rfl (by kernel_rfl) (by kernel_rfl) (by kernel_rfl) (by kernel_rfl) (by kernel_rfl) (fun _ _ _ h => h) hS (fun L' W' hL hW => by obtain ⟨k0, k1, k2⟩ := HCL.out _ hW; go_simp; rfl) ?_
        refine g_take (i := 4) rfl rfl (by kernel_rfl) (by kernel_rfl) (by kernel_rfl) (by kernel_rfl) (by kernel_rfl) (fun _ _ _ h => h) hS (fun L' W' hL hW => by go_simp; rfl) ?_
        refine g_one (i := 2) rfl rfl (by kernel_rfl) fun K' hK => ?_
        go_simp
        refine Calls.mono (placeR_any _ n A q c Am n cm (zs V) HVL.out (by omega) (HR4.out.below hS).nums ((a : Nat) : Int)) ?_
        rintro e w4a ⟨rfl, B5⟩
        rw [HHI.out]
        have hS : Below w4.heap.size w4 w4a := hS.trans (B5.mono hS.size)
        refine hK _ _ hS ?_
        clear hK K' B5
        refine g_one (i := 5) rfl rfl (by kernel_rfl) fun K' hK => ?_
        go_simp
        refine Calls.mono (placeR_any _ n A q c Am n cm (zs V) HVL.out (by omega) (HR4.out.below hS).nums ((b : Nat) : Int)) ?_
        rintro e w4b ⟨rfl, B5⟩
        rw [HLO.out]
        have hS : Below w4.heap.size w4 w4b := hS.trans (B5.mono hS.size)
        refine hK _ _ hS ?_
        clear hK K' B5
        refine g_take (i := 6) rfl rfl (by kernel_rfl) (by kernel_rfl) (by kernel_rfl) (by kernel_rfl) (by kernel_rfl) (fun _ _ _ h => h) hS (fun L' W' hL hW => by go_simp; rfl) ?_
        refine g_take (i := 7) rfl rfl (by kernel_rfl) (by kernel_rfl) (by kernel_rfl) (by kernel_rfl) (by kernel_rfl) (fun _ _ _ h => h) hS (fun L' W' hL hW => by go_simp; rfl) ?_
        refine wpAnyG_done (by kernel_rfl) ?_ _
        have HT5 := Lib.hid (HT4.out.below hS)
        have HR5 := Lib.hid (HR4.out.below hS)
        have HS45 := Lib.hid hS.size
        clear hS HCL HT4 HR4
        go_simp
        generalize w4b = w5 at *
        go_upto_if 50 with fail
        go_cut [11] (fun v11 wx => ∃ (wy : World) (cc : Nat) (P' V' : List Nat) (Am' : Option Addr) (cm' : Nat), wy = wx ∧ v11 = .int .i64 (cc : Nat) ∧ Hid (MidP w w4 wy n A q c Am L P V a b cc P' V' Am' cm'))
        case first =>
          by_cases hlt : lo < hi
          · have i1 : (lo : Int) < (hi : Int) := by omega
            obtain ⟨bM, oM, rfl, -, -⟩ := HR5.out.nums.at_ (j := 0) (by have := HVL.out; omega)
            have c0 := HT5.out.b0.at_ 0 rfl
            have c1 := HT5.out.b0.at_ 1 rfl
            have c2 := HT5.out.b0.at_ 2 rfl
            have HWI := Lib.hid (withinR_any w5 n (by omega) L HST.out.ok P V HST.out.perm A q c HR5.out.q1 HR5.out.q2 HR5.out.q3 (by omega) HR5.out.ed (some ⟨bM, oM, none⟩) cm HR5.out.nums lo hi)
            unfold ov at HWI
            go_wp2_with fail
            refine Calls.mono HWI.out ?_
            clear HWI c0 c1 c2
            rintro e w6 ⟨Ag, qg, cg, rfl, B6, O6⟩
            unfold rv
            obtain ⟨E6, Q6, Q6c, Q6m⟩ := EdgesAt.of_own O6
            have hqg : qg ≤ q := by
              have h1 := HR5.out.q1
              rw [Q6, h1, wL_edges n (Nat.le_refl n)]
              exact List.length_filter_le _ _
            have HB7 : Hid (Below w5.heap.size w5 (w6.alloc (.cells #[.int .i64 (n : Int), .slice Ag qg cg] 53))) := Lib.hid (B6.alloc B6.size _)
            have HG7 := Lib.hid (Blk.new_ w6 53 #[.int .i64 (n : Int), .slice Ag qg cg] rfl)
            have HE7 := Lib.hid (edges_more E6 ((Below.refl _ w6).alloc (Nat.le_refl _) (.cells #[.int .i64 (n : Int), .slice Ag qg cg] 53)))
            generalize hw7 : w6.alloc (.cells #[.int .i64 (n : Int), .slice Ag qg cg] 53) = w7 at *
            generalize hbg : w6.heap.size = bg at *
            have HRE : Hid (∀ (W : World) (x y : Nat), Below w7.heap.size w7 W → x < n → y < n → lo ≤ P.getD x 0 → P.getD y 0 ≤ hi → Calls Try.prog 63 #[.agg #[.int .i64 (n : Int), .slice Ag qg cg], .int .i64 (x : Nat), .int .i64 (y : Nat)] W fun e w' => ∃ b : Bool, e = .returned (.bool b) ∧ (b = true ↔ Path L x y) ∧ Below W.heap.size W w') := Lib.hid (fun W x y hW hx hy h1 h2 => reachW (by omega) HST.out.ok HST.out.up Q6 Q6c Q6m (by omega) (edges_more HE7.out hW) x y hx hy h1 h2)
            have HT7 := Lib.hid (HT5.out.below HB7.out)
            have HR7 := Lib.hid (HR5.out.below HB7.out)
            have HS57 := Lib.hid HB7.out.size
            have HCL : Hid (∀ W, Below w7.heap.size w7 W → W.cell? ⟨w.heap.size, 2, none⟩ = some (.slice (some ⟨bM, oM, none⟩) n cm) ∧ W.cell? ⟨bg, 0, none⟩ = some (.int .i64 (n : Int)) ∧ W.cell? ⟨bg, 1, none⟩ = some (.slice Ag qg cg)) := Lib.hid (fun W hW => ⟨(HT7.out.b0.below hW HT7.out.b0.lt).at_ 2 rfl, (HG7.out.below hW HG7.out.lt).at_ 0 rfl, (HG7.out.below hW HG7.out.lt).at_ 1 rfl⟩)
            have HVA : Hid (∀ W, Below w7.heap.size w7 W → ∀ p, p < n → W.cell? ⟨bM, oM + p, none⟩ = some (.int .i64 ((V.getD p 0 : Nat) : Int))) := Lib.hid (fun W hW p hp => by
              obtain ⟨b2, o2, e2, hb2, hc2⟩ := (HR7.out.nums.grow hW).at_ (j := p) (by rw [← HVL.out]; exact hp)
              simp only [Option.some.injEq, Addr.mk.injEq, and_true] at e2
              obtain ⟨rfl, rfl⟩ := e2
              rw [hc2, zs_getD (by rw [HST.out.perm.la]; exact hp)])
            have HRV := Lib.hid (HRE.out w7 b a (Below.refl _ _) hb ha (by rw [HLO0.out]; exact Nat.le_refl _) (by rw [HHI0.out]; exact Nat.le_refl _))
            have g0 := HG7.out.at_ 0 rfl
            have g1 := HG7.out.at_ 1 rfl
            have hhn := HHN.out.1
            clear B6 O6 E6 Q6 Q6c Q6m hqg HB7 HG7 HE7 HT5 HR5
            go_wp2_with fail
            refine Calls.mono HRV.out ?_
            clear HRV g0 g1 hw7 hbg
            rintro e w8 ⟨rb, rfl, hrb, B8⟩
            have HB8 := Lib.hid B8
            by_cases hcy : rb = true
            · have HPA := Lib.hid (hrb.1 hcy)
              rw [hcy]
              have HT8 := Lib.hid (HT7.out.below B8)
              have HR8 := Lib.hid (HR7.out.below B8)
              clear hcy hrb B8
              have x0 := HT8.out.b0.at_ 0 rfl
              have x1 := HT8.out.b0.at_ 1 rfl
              have x2 := HT8.out.b0.at_ 2 rfl
              have z0 := HT8.out.b1.at_ 0 rfl
              have f0 := HT8.out.b1.frozen 0
              have k1 := HT8.out.b1.set_ 0 (.int .i64 (n : Int))
              have z1 := k1.at_ 1 rfl
              have f1 := k1.frozen 1
              have k2 := k1.set_ 1 (.slice A q c)
              have z2 := k2.at_ 2 rfl
              have f2 := k2.frozen 2
              have K3 := Lib.hid (k2.set_ 2 (.slice (some ⟨bM, oM, none⟩) n cm))
              have HB3 := Lib.hid (HT8.out.fin (.int .i64 (n : Int)) (.slice A q c) (.slice (some ⟨bM, oM, none⟩) n cm))
              clear k1 k2
              go_wp2_with fail
              refine bodyPost_ret (results_cell_row3 rfl _ _ (w.heap.size + 1) 55 #[.int .i64 (n : Int), .slice A q c, .slice (some ⟨bM, oM, none⟩) n cm] (0, 0) _ rfl K3.out.out Try.underlying55 rfl (by kernel_rfl)) rfl ?_
              refine ⟨HB3.out, ?_⟩
              rw [if_pos (by simp [HU.out, HV.out])]
              exact ⟨0, 25, L, P, V, A, q, c, some ⟨bM, oM, none⟩, cm, rfl, .inl ⟨rfl, rfl, HPA.out, rfl, rfl, rfl⟩, HR0.out.below HB3.out, Nat.le_succ q, .refl _ _ _, .refl _ _ _⟩
            · have HNP : Hid (¬ Path L b a) := Lib.hid (fun h => hcy (hrb.2 h))
              rw [Bool.eq_false_iff.2 hcy]
              clear hcy hrb B8
              obtain ⟨wh, hwh⟩ := who_ex (L := L) HST.out.perm ha hb (by rw [HLO0.out, HHI0.out]; exact hlt)
              rw [HLO0.out, HHI0.out] at hwh
              have HWH := Lib.hid hwh
              clear hwh
              go_wp2_with fail
              go_loopw [14, 15] (fun vw ik wr => ∃ k : Nat, k ≤ 2 ∧ ik = .int .i64 k ∧ Hid (Below w7.heap.size w7 wr ∧ wr.ownsRow w7.heap.size 3 1 vw (wh k lo).length (iv (zs (wh k lo))))) (fun _ ik _ => 2 - (intOf ik).toNat)
              case atStart => exact ⟨0, Nat.zero_le _, rfl, Lib.hid ⟨HB8.out, by rw [HWH.out.start]; exact own_nil _ _ _⟩⟩
              case round =>
                obtain ⟨k, hk, rfl, HS⟩ := hrel
                clear HB8
                by_cases hk2 : k < 2
                · have i3 : (k : Int) < 2 := by omega
                  by_cases hk0 : k = 0
                  · have k0 : ((k : Int) == 0) = true := by rw [beq_iff_eq]; omega
                    have k1 : ((k : Int) == 1) = false := by rw [beq_eq_false_iff_ne]; omega
                    obtain ⟨hS0, hO0⟩ := HS.out
                    obtain ⟨Aw0, cw0, hv0⟩ := own_form hO0
                    subst hv0
                    clear hS0 hO0
                    have hkk : k = 0 := by omega
                    have HKK := Lib.hid hkk
                    have HS1 : Hid (wr.ownsRow w7.heap.size 3 1 (.slice Aw0 (wh k lo).length cw0) (wh 0 lo).length (iv (zs (wh 0 lo)))) := Lib.hid (by have := HS.out.2; rw [hkk] at this ⊢; exact this)
                    have HB1 := Lib.hid HS.out.1
                    clear HS hk0 hkk
                    generalize (wh k lo).length = mk0 at *
                    go_wp2_with fail
                    go_loopw [14, 16] (fun vw ip wr => ∃ p : Nat, lo ≤ p ∧ p ≤ hi + 1 ∧ ip = .int .i64 p ∧ Hid (Below w7.heap.size w7 wr ∧ wr.ownsRow w7.heap.size 3 1 vw (wh 0 p).length (iv (zs (wh 0 p))))) (fun _ ip _ => hi + 1 - (intOf ip).toNat)
                    case atStart => exact ⟨lo, Nat.le_refl _, by omega, rfl, Lib.hid ⟨HB1.out, HS1.out⟩⟩
                    case round =>
                      clear HS1 HB1
                      obtain ⟨p, hp1, hp2, rfl, HSp⟩ := hrel
                      by_cases hph : p ≤ hi
                      · have i4 : (p : Int) ≤ (hi : Int) := by omega
                        have i5 : (0 : Int) ≤ (p : Int) := by omega
                        have i6 : (p : Int) < (n : Int) := by omega
                        have hpn : p < n := by omega
                        have hS := HSp.out
                        have v1 := HVA.out _ hS.1 p hpn
                        obtain ⟨e0, e1, e2⟩ := HCL.out _ hS.1
                        have hx := HST.out.perm.ap p hpn
                        have HSTEP := Lib.hid (HWH.out.back p hp1)
                        have HIF : Hid (fB L V a p = true ↔ Path L (V.getD p 0) a) := Lib.hid fB_iff
                        generalize fB L V a p = fb at *
                        have HREX := Lib.hid (HRE.out _ (V.getD p 0) a (hS.1) hx.1 ha (by rw [hx.2]; exact hp1) (by rw [HHI0.out]; exact Nat.le_refl _))
                        have HFEW := Lib.hid (HWH.out.few 0 p hp1 hp2)
                        generalize V.getD p 0 = x at *
                        obtain ⟨Aw, cw, hv⟩ := own_form hS.2
                        subst hv
                        have HO := Lib.hid hS.2
                        have HB := Lib.hid hS.1
                        generalize hwl : wh 0 p = wl at *
                        clear hS HSp hx hwl
                        go_wp2_with fail
                        refine Calls.mono HREX.out ?_
                        clear HREX v1 e0 e1 e2
                        rintro e w9 ⟨rb, rfl, h9, B9⟩
                        have hrf : rb = fb := by rw [Bool.eq_iff_iff, h9]; exact HIF.out.symm
                        clear h9 HIF
                        have HO9 := Lib.hid (own_belowW HO.out B9)
                        have HB9 := Lib.hid (HB.out.trans (B9.mono HB.out.size))
                        clear HO HB B9
                        by_cases hrt : rb = true
                        · rw [hrt] at hrf
                          rw [hrt]
                          have HSTT := Lib.hid (HSTEP.out.trans (by rw [← hrf, if_pos rfl]))
                          have hfew := HFEW.out
                          have hsz := HB9.out.size
                          have hBN := Blk.new_ w9 3 #[.int .i64 (x : Nat)] rfl
                          clear hrf hrt HSTEP HFEW
                          go_wp2_with (at_builtin; refine wpList_push rfl (.tmp 93) (.tmp 95) rfl w7.heap.size (.slice Aw wl.length cw) wl.length (zs wl) (by rw [zs_length]) rfl (HO9.out.alloc _) w9.heap.size (x : Nat) rfl hBN (by omega) (by simp; omega) ?_)
                          intro v6 w10 o6 g6 ob6
                          have HN : Hid (Below w7.heap.size w7 w10 ∧ w10.ownsRow w7.heap.size 3 1 v6 (wh 0 (p + 1)).length (iv (zs (wh 0 (p + 1))))) := Lib.hid (by
                            refine ⟨(HB9.out.alloc hsz (.cells #[.int .i64 (x : Nat)] 3)).grown g6 (by simp; omega) (fun j hj => (own_row HO9.out hj).1), ?_⟩
                            rw [HSTT.out, List.length_append, zs_append]
                            exact o6)
                          obtain ⟨A6, c6, hv6⟩ := own_form o6
                          subst hv6
                          clear o6 g6 ob6 hBN HO9 HB9 HSTT hfew hsz
                          go_wp2_with fail
                          go_roundw
                          case rel => exact ⟨p + 1, by omega, by omega, by go_num, HN⟩
                          case measure => simp [intOf]; omega
                        · rw [Bool.eq_false_iff.2 hrt] at hrf
                          rw [Bool.eq_false_iff.2 hrt]
                          have HN : Hid (Below w7.heap.size w7 w9 ∧ w9.ownsRow w7.heap.size 3 1 (.slice Aw wl.length cw) (wh 0 (p + 1)).length (iv (zs (wh 0 (p + 1))))) := Lib.hid (by
                            refine ⟨HB9.out, ?_⟩
                            rw [HSTEP.out, ← hrf, if_neg (by simp), List.append_nil]
                            exact HO9.out)
                          clear hrf hrt HSTEP HFEW HO9 HB9
                          go_wp2_with fail
                          go_roundw
                          case rel => exact ⟨p + 1, by omega, by omega, by go_num, HN⟩
                          case measure => simp [intOf]; omega
                      · have i4 : ¬ (p : Int) ≤ (hi : Int) := by omega
                        have hpe : p = hi + 1 := by omega
                        have HN : Hid (Below w7.heap.size w7 wr ∧ wr.ownsRow w7.heap.size 3 1 u14 (wh (k + 1) lo).length (iv (zs (wh (k + 1) lo)))) := Lib.hid (by
                          have h := HSp.out
                          rw [hpe, HWH.out.turn0] at h
                          rw [HKK.out]
                          exact h)
                        clear HSp hpe
                        go_wp2_with fail
                        go_roundw
                        case rel => exact ⟨k + 1, by omega, by go_num, HN⟩
                        case measure => simp [intOf]; omega
                  · have k0 : ((k : Int) == 0) = false := by rw [beq_eq_false_iff_ne]; omega
                    have k1 : ((k : Int) == 1) = true := by rw [beq_iff_eq]; omega
                    obtain ⟨hS0, hO0⟩ := HS.out
                    obtain ⟨Aw0, cw0, hv0⟩ := own_form hO0
                    subst hv0
                    clear hS0 hO0
                    have hkk : k = 1 := by omega
                    have HKK := Lib.hid hkk
                    have HS1 : Hid (wr.ownsRow w7.heap.size 3 1 (.slice Aw0 (wh k lo).length cw0) (wh 1 lo).length (iv (zs (wh 1 lo)))) := Lib.hid (by have := HS.out.2; rw [hkk] at this ⊢; exact this)
                    have HB1 := Lib.hid HS.out.1
                    clear HS hk0 hkk
                    generalize (wh k lo).length = mk0 at *
                    go_wp2_with fail
                    go_loopw [14, 16] (fun vw ip wr => ∃ p : Nat, lo ≤ p ∧ p ≤ hi + 1 ∧ ip = .int .i64 p ∧ Hid (Below w7.heap.size w7 wr ∧ wr.ownsRow w7.heap.size 3 1 vw (wh 1 p).length (iv (zs (wh 1 p))))) (fun _ ip _ => hi + 1 - (intOf ip).toNat)
                    case atStart => exact ⟨lo, Nat.le_refl _, by omega, rfl, Lib.hid ⟨HB1.out, HS1.out⟩⟩
                    case round =>
                      clear HS1 HB1
                      obtain ⟨p, hp1, hp2, rfl, HSp⟩ := hrel
                      by_cases hph : p ≤ hi
                      · have i4 : (p : Int) ≤ (hi : Int) := by omega
                        have i5 : (0 : Int) ≤ (p : Int) := by omega
                        have i6 : (p : Int) < (n : Int) := by omega
                        have hpn : p < n := by omega
                        have hS := HSp.out
                        have v1 := HVA.out _ hS.1 p hpn
                        obtain ⟨e0, e1, e2⟩ := HCL.out _ hS.1
                        have hx := HST.out.perm.ap p hpn
                        have HSTEP := Lib.hid (HWH.out.fore p hp1)
                        have HIF : Hid (fF L V b p = true ↔ Path L b (V.getD p 0)) := Lib.hid fF_iff
                        generalize fF L V b p = fb at *
                        have HREX := Lib.hid (HRE.out _ b (V.getD p 0) (hS.1) hb hx.1 (by rw [HLO0.out]; exact Nat.le_refl _) (by rw [hx.2]; omega))
                        have HFEW := Lib.hid (HWH.out.few 1 p hp1 hp2)
                        generalize V.getD p 0 = x at *
                        obtain ⟨Aw, cw, hv⟩ := own_form hS.2
                        subst hv
                        have HO := Lib.hid hS.2
                        have HB := Lib.hid hS.1
                        generalize hwl : wh 1 p = wl at *
                        clear hS HSp hx hwl
                        go_wp2_with fail
                        refine Calls.mono HREX.out ?_
                        clear HREX v1 e0 e1 e2
                        rintro e w9 ⟨rb, rfl, h9, B9⟩
                        have hrf : rb = fb := by rw [Bool.eq_iff_iff, h9]; exact HIF.out.symm
                        clear h9 HIF
                        have HO9 := Lib.hid (own_belowW HO.out B9)
                        have HB9 := Lib.hid (HB.out.trans (B9.mono HB.out.size))
                        clear HO HB B9
                        by_cases hrt : rb = true
                        · rw [hrt] at hrf
                          rw [hrt]
                          have HSTT := Lib.hid (HSTEP.out.trans (by rw [← hrf, if_pos rfl]))
                          have hfew := HFEW.out
                          have hsz := HB9.out.size
                          have hBN := Blk.new_ w9 3 #[.int .i64 (x : Nat)] rfl
                          clear hrf hrt HSTEP HFEW
                          go_wp2_with (at_builtin; refine wpList_push rfl (.tmp 93) (.tmp 95) rfl w7.heap.size (.slice Aw wl.length cw) wl.length (zs wl) (by rw [zs_length]) rfl (HO9.out.alloc _) w9.heap.size (x : Nat) rfl hBN (by omega) (by simp; omega) ?_)
                          intro v6 w10 o6 g6 ob6
                          have HN : Hid (Below w7.heap.size w7 w10 ∧ w10.ownsRow w7.heap.size 3 1 v6 (wh 1 (p + 1)).length (iv (zs (wh 1 (p + 1))))) := Lib.hid (by
                            refine ⟨(HB9.out.alloc hsz (.cells #[.int .i64 (x : Nat)] 3)).grown g6 (by simp; omega) (fun j hj => (own_row HO9.out hj).1), ?_⟩
                            rw [HSTT.out, List.length_append, zs_append]
                            exact o6)
                          obtain ⟨A6, c6, hv6⟩ := own_form o6
                          subst hv6
                          clear o6 g6 ob6 hBN HO9 HB9 HSTT hfew hsz
                          go_wp2_with fail
                          go_roundw
                          case rel => exact ⟨p + 1, by omega, by omega, by go_num, HN⟩
                          case measure => simp [intOf]; omega
                        · rw [Bool.eq_false_iff.2 hrt] at hrf
                          rw [Bool.eq_false_iff.2 hrt]
                          have HN : Hid (Below w7.heap.size w7 w9 ∧ w9.ownsRow w7.heap.size 3 1 (.slice Aw wl.length cw) (wh 1 (p + 1)).length (iv (zs (wh 1 (p + 1))))) := Lib.hid (by
                            refine ⟨HB9.out, ?_⟩
                            rw [HSTEP.out, ← hrf, if_neg (by simp), List.append_nil]
                            exact HO9.out)
                          clear hrf hrt HSTEP HFEW HO9 HB9
                          go_wp2_with fail
                          go_roundw
                          case rel => exact ⟨p + 1, by omega, by omega, by go_num, HN⟩
                          case measure => simp [intOf]; omega
                      · have i4 : ¬ (p : Int) ≤ (hi : Int) := by omega
                        have hpe : p = hi + 1 := by omega
                        have HN : Hid (Below w7.heap.size w7 wr ∧ wr.ownsRow w7.heap.size 3 1 u14 (wh (k + 1) lo).length (iv (zs (wh (k + 1) lo)))) := Lib.hid (by
                          have h := HSp.out
                          rw [hpe, HWH.out.turn1] at h
                          rw [HKK.out]
                          exact h)
                        clear HSp hpe
                        go_wp2_with fail
                        go_roundw
                        case rel => exact ⟨k + 1, by omega, by go_num, HN⟩
                        case measure => simp [intOf]; omega
                · have i3 : ¬ (k : Int) < 2 := by omega
                  have hk3 : k = 2 := by omega
                  subst hk3
                  obtain ⟨Aw, cw, hv⟩ := own_form HS.out.2
                  subst hv
                  have HB1 := Lib.hid HS.out.1
                  obtain ⟨N, at_, cn, htu⟩ := turns_ex HST.out.ok HST.out.perm HST.out.up ha hb (by rw [HLO0.out, HHI0.out]; exact hlt) HNP.out
                  obtain ⟨ps, hps⟩ := pls_ex (L := L) HST.out.perm ha hb (by rw [HLO0.out, HHI0.out]; exact hlt)
                  rw [HLO0.out, HHI0.out] at hps
                  have HPS := Lib.hid hps
                  have HWO0 := Lib.hid HS.out.2
                  rw [HWH.out.done] at HWO0 ⊢
                  generalize whoL V (backR L P V a b) (foreR L P V a b) = WL at *
                  have HPD := Lib.hid hps.done
                  generalize plR L P V a b = PLS at *
                  have HTU := Lib.hid htu
                  have hNn := htu.small
                  have hNW := htu.lw
                  have HWO : Hid (wr.ownsRow w7.heap.size 3 1 (.slice Aw N cw) N (iv (zs WL))) := Lib.hid (by have := HWO0.out; rw [hNW] at this; exact this)
                  rw [hNW]
                  clear htu hps HS HWO0 HWH hNW
                  generalize hw11 : wr = w11 at *
                  clear hw11
                  go_wp2_with fail
                  go_loopw [13, 18] (fun vp ip wr => ∃ p : Nat, lo ≤ p ∧ p ≤ hi + 1 ∧ ip = .int .i64 p ∧ Hid (Below w11.heap.size w11 wr ∧ wr.ownsRow w11.heap.size 3 1 vp (ps p).length (iv (zs (ps p))))) (fun _ ip _ => hi + 1 - (intOf ip).toNat)
                  case atStart => exact ⟨lo, Nat.le_refl _, by omega, rfl, Lib.hid ⟨Below.refl _ _, by rw [HPS.out.start]; exact own_nil _ _ _⟩⟩
                  case round =>
                    obtain ⟨p, hp1, hp2, rfl, HSp⟩ := hrel
                    by_cases hph : p ≤ hi
                    · have i4 : (p : Int) ≤ (hi : Int) := by omega
                      have i5 : (0 : Int) ≤ (p : Int) := by omega
                      have i6 : (p : Int) < (n : Int) := by omega
                      have hpn : p < n := by omega
                      have hS := HSp.out
                      have hS7 := HB1.out.trans (hS.1.mono HB1.out.size)
                      have v1 := HVA.out _ hS7 p hpn
                      obtain ⟨e0, e1, e2⟩ := HCL.out _ hS7
                      have hx := HST.out.perm.ap p hpn
                      have HSTEP := Lib.hid (HPS.out.step p hp1)
                      have HIF : Hid (fE L V a b p = true ↔ Path L (V.getD p 0) a ∨ Path L b (V.getD p 0)) := Lib.hid fE_iff
                      generalize fE L V a b p = fb at *
                      have HREX := Lib.hid (HRE.out _ (V.getD p 0) a hS7 hx.1 ha (by rw [hx.2]; exact hp1) (by rw [HHI0.out]; exact Nat.le_refl _))
                      have HREY : Hid (∀ W, Below w7.heap.size w7 W → _) := Lib.hid (fun W hW => HRE.out W b (V.getD p 0) hW hb hx.1 (by rw [HLO0.out]; exact Nat.le_refl _) (by rw [hx.2]; omega))
                      have HFEW := Lib.hid (HPS.out.few p hp1 hp2)
                      have HS7 := Lib.hid hS7
                      generalize V.getD p 0 = x at *
                      obtain ⟨Aq, cq, hv⟩ := own_form hS.2
                      subst hv
                      have HO := Lib.hid hS.2
                      have HB := Lib.hid hS.1
                      generalize hpl : ps p = pl at *
                      clear hS hS7 HSp hx hpl
                      go_wp2_with fail
                      refine Calls.mono HREX.out ?_
                      clear HREX v1 e0 e1 e2
                      rintro e w9 ⟨rb, rfl, h9, B9⟩
                      have HO9 := Lib.hid (own_belowW HO.out B9)
                      have HB9 := Lib.hid (HB.out.trans (B9.mono HB.out.size))
                      have HS9 := Lib.hid (HS7.out.trans (B9.mono HS7.out.size))
                      clear HO HB B9 HS7
                      by_cases hrt : rb = true
                      · have hrf : fb = true := HIF.out.2 (.inl (h9.1 hrt))
                        rw [hrt]
                        have HSTT := Lib.hid (HSTEP.out.trans (by rw [if_pos hrf]))
                        clear HREY h9 HIF HS9
                        have hfew := HFEW.out
                        have hsz := HB9.out.size
                        have hBP := Blk.new_ w9 3 #[.int .i64 (p : Nat)] rfl
                        clear hrf hrt HSTEP HFEW
                        go_wp2_with (at_builtin; refine wpList_push rfl (.tmp 118) (.tmp 120) rfl w11.heap.size (.slice Aq pl.length cq) pl.length (zs pl) (by rw [zs_length]) rfl (HO9.out.alloc _) w9.heap.size (p : Nat) rfl hBP (by omega) (by simp; omega) ?_)
                        intro v6 w10 o6 g6 ob6
                        have HN : Hid (Below w11.heap.size w11 w10 ∧ w10.ownsRow w11.heap.size 3 1 v6 (ps (p + 1)).length (iv (zs (ps (p + 1))))) := Lib.hid (by
                          refine ⟨(HB9.out.alloc hsz (.cells #[.int .i64 (p : Nat)] 3)).grown g6 (by simp; omega) (fun j hj => (own_row HO9.out hj).1), ?_⟩
                          rw [HSTT.out, List.length_append, zs_append]
                          exact o6)
                        obtain ⟨A6, c6, hv6⟩ := own_form o6
                        subst hv6
                        clear o6 g6 ob6 hBP HO9 HB9 HSTT hfew hsz
                        go_wp2_with fail
                        go_roundw
                        case rel => exact ⟨p + 1, by omega, by omega, by go_num, HN⟩
                        case measure => simp [intOf]; omega
                      · have HRY := Lib.hid (HREY.out _ HS9.out)
                        have HNX := Lib.hid (fun h => hrt (h9.2 h))
                        obtain ⟨-, e1, e2⟩ := HCL.out _ HS9.out
                        rw [Bool.eq_false_iff.2 hrt]
                        clear HREY h9 hrt
                        go_wp2_with fail
                        refine Calls.mono HRY.out ?_
                        clear HRY e1 e2 HS9
                        rintro e w9b ⟨rb2, rfl, h9, B9⟩
                        have HO9b := Lib.hid (own_belowW HO9.out B9)
                        have HB9b := Lib.hid (HB9.out.trans (B9.mono HB9.out.size))
                        clear HO9 HB9 B9
                        have HO9 := HO9b
                        have HB9 := HB9b
                        clear HO9b HB9b
                        generalize hw9 : w9b = w9 at *
                        clear hw9
                        by_cases hrt : rb2 = true
                        · have hrf : fb = true := HIF.out.2 (.inr (h9.1 hrt))
                          rw [hrt]
                          have HSTT := Lib.hid (HSTEP.out.trans (by rw [if_pos hrf]))
                          clear h9 HIF HNX
                          have hfew := HFEW.out
                          have hsz := HB9.out.size
                          have hBP := Blk.new_ w9 3 #[.int .i64 (p : Nat)] rfl
                          clear hrf hrt HSTEP HFEW
                          go_wp2_with (at_builtin; refine wpList_push rfl (.tmp 118) (.tmp 120) rfl w11.heap.size (.slice Aq pl.length cq) pl.length (zs pl) (by rw [zs_length]) rfl (HO9.out.alloc _) w9.heap.size (p : Nat) rfl hBP (by omega) (by simp; omega) ?_)
                          intro v6 w10 o6 g6 ob6
                          have HN : Hid (Below w11.heap.size w11 w10 ∧ w10.ownsRow w11.heap.size 3 1 v6 (ps (p + 1)).length (iv (zs (ps (p + 1))))) := Lib.hid (by
                            refine ⟨(HB9.out.alloc hsz (.cells #[.int .i64 (p : Nat)] 3)).grown g6 (by simp; omega) (fun j hj => (own_row HO9.out hj).1), ?_⟩
                            rw [HSTT.out, List.length_append, zs_append]
                            exact o6)
                          obtain ⟨A6, c6, hv6⟩ := own_form o6
                          subst hv6
                          clear o6 g6 ob6 hBP HO9 HB9 HSTT hfew hsz
                          go_wp2_with fail
                          go_roundw
                          case rel => exact ⟨p + 1, by omega, by omega, by go_num, HN⟩
                          case measure => simp [intOf]; omega
                        · have hrf : ¬ fb = true := fun h => (HIF.out.1 h).elim HNX.out (fun h => hrt (h9.2 h))
                          rw [Bool.eq_false_iff.2 hrt]
                          have HN : Hid (Below w11.heap.size w11 w9 ∧ w9.ownsRow w11.heap.size 3 1 (.slice Aq pl.length cq) (ps (p + 1)).length (iv (zs (ps (p + 1))))) := Lib.hid (by
                            refine ⟨HB9.out, ?_⟩
                            rw [HSTEP.out, if_neg hrf, List.append_nil]
                            exact HO9.out)
                          clear hrf hrt HSTEP HFEW HO9 HB9 h9 HIF HNX
                          go_wp2_with fail
                          go_roundw
                          case rel => exact ⟨p + 1, by omega, by omega, by go_num, HN⟩
                          case measure => simp [intOf]; omega
                    · have i4 : ¬ (p : Int) ≤ (hi : Int) := by omega
                      have hpe : p = hi + 1 := by omega
                      obtain ⟨Aq, cq, hv⟩ := own_form HSp.out.2
                      subst hv
                      have HPO0 := Lib.hid HSp.out.2
                      have HB2 := Lib.hid HSp.out.1
                      clear HSp
                      subst hpe
                      rw [HPD.out] at HPO0 ⊢
                      have hNP := HTU.out.lp
                      rw [hNP] at HPO0 ⊢
                      have HPO := Lib.hid HPO0.out
                      generalize hw12 : wr = w12 at *
                      clear hw12 HPO0 HPS HPD hNP hp1 hp2 hph
                      obtain ⟨i0, hi0, hz0, hz1, hz2⟩ := info_parts infoInt0
                      have hB712 := HB1.out.trans (HB2.out.mono HB1.out.size)
                      obtain ⟨d0, -, -⟩ := HCL.out _ hB712
                      have HI12 := Lib.hid (HR7.out.nums.grow hB712)
                      have HB712 := Lib.hid hB712
                      clear hB712 HCL HVA HRE i4
                      go_wp2_with (at_builtin; refine wpList_append_row _ rfl (.tmp 122) (.tmp 124) _ rfl w12.heap.size 3 i0 _ 8 Try.underlying27 hi0 hz0 hz1 hz2 rfl (.slice none 0 0) 0 [] rfl (own_nil _ _ _) w12.heap.size (some ⟨bM, oM, none⟩) n cm (iv (zs V)) rfl (by rw [iv_length]; exact HVL.out) (by exact HI12.out) (iv_one _) (by unfold maxLen; omega) (by omega) (Nat.le_refl _) ?_)
                      intro v3 w13 o3 g3 _ _
                      have o3' : w13.ownsRow w12.heap.size 3 1 v3 n (iv (zs V)) := by simpa using o3
                      obtain ⟨A3, c3, hv3⟩ := own_form o3'
                      subst hv3
                      have HO3 : Hid (ORow w13 w12.heap.size (.slice A3 n c3) (zs V)) := Lib.hid (by unfold ORow; rw [← HVL.out]; exact o3')
                      have HB13 := Lib.hid ((Below.refl w12.heap.size w12).grown g3 (Nat.le_refl _) (fun j hj => by simp [Value.ownBlock] at hj))
                      have HWN : Hid (Nums w12 w12.heap.size Aw (zs WL) ∧ ∀ b0 o0, Aw = some ⟨b0, o0, none⟩ → b0 < w12.heap.size) := Lib.hid (by
                        have h := own_belowW HWO.out HB2.out
                        exact ⟨(Nums.of_own h).1, Lies.of_own h⟩)
                      have HPN : Hid (Nums w12 w12.heap.size Aq (zs PLS) ∧ ∀ b0 o0, Aq = some ⟨b0, o0, none⟩ → b0 < w12.heap.size) := Lib.hid ⟨(Nums.of_own HPO.out).1, Lies.of_own HPO.out⟩
                      clear o3 o3' g3 d0 HI12 HWO HPO hi0 hz0 hz1 hz2
                      go_wp2_with fail
                      go_loopw [11, 21] (fun vc it wr => ∃ t cc : Nat, t ≤ N ∧ cc ≤ t ∧ it = .int .i64 t ∧ vc = .int .i64 (cc : Nat) ∧ Hid (cc = cn t ∧ Below w12.heap.size w12 wr ∧ ORow wr w12.heap.size (.slice A3 n c3) (zs (at_ t)))) (fun _ it _ => N - (intOf it).toNat)
                      case atStart => exact ⟨0, 0, Nat.zero_le _, Nat.le_refl _, rfl, rfl, Lib.hid ⟨HTU.out.c0.symm, HB13.out, by rw [HTU.out.a0]; exact HO3.out⟩⟩
                      case round =>
                        clear HO3 HB13
                        obtain ⟨t, cc, ht, hct, rfl, rfl, HSt⟩ := hrel
                        by_cases htN : t < N
                        · have hS := HSt.out
                          obtain ⟨bp, op, rfl, hbp, hcp⟩ := (HPN.out.1.grow hS.2.1).at_ (j := t) (by rw [zs_length, HTU.out.lp]; exact htN)
                          obtain ⟨bw, ow, rfl, hbw, hcw⟩ := (HWN.out.1.grow hS.2.1).at_ (j := t) (by rw [zs_length, HTU.out.lw]; exact htN)
                          have hbp2 := HPN.out.2 _ _ rfl
                          have hbw2 := HWN.out.2 _ _ rfl
                          rw [zs_getD (by rw [HTU.out.lp]; exact htN)] at hcp
                          rw [zs_getD (by rw [HTU.out.lw]; exact htN)] at hcw
                          have HLT := Lib.hid (HTU.out.lt t htN)
                          have HAS := Lib.hid (HTU.out.astep t htN)
                          have HCS := Lib.hid (HTU.out.cstep t htN)
                          have HAL := Lib.hid (HTU.out.len t)
                          generalize PLS.getD t 0 = p at *
                          generalize WL.getD t 0 = x at *
                          generalize hat : at_ t = at0 at *
                          clear hat
                          obtain ⟨hpn, hxn⟩ := HLT.out
                          have hzl : (zs at0).length = n := by rw [zs_length, HAL.out]
                          have hS3 : Below wr.heap.size wr wr.drew.drew := (Below.refl _ wr).drew.drew
                          obtain ⟨b3, o3, c3', e3, hc3, hf3, hb3, hO3⟩ := (hS.2.2.below hS3).set_ (i := p) (by rw [hzl]; exact hpn) (x : Int)
                          rw [hzl] at e3
                          simp only [Value.slice.injEq, true_and] at e3
                          obtain ⟨rfl, rfl⟩ := e3
                          have hbase : w12.heap.size ≤ b3 := (own_row hS.2.2 rfl).1
                          rw [zs_getD (by rw [HAL.out]; exact hpn)] at hc3
                          rw [zs_set, ← HAS.out] at hO3
                          generalize at0.getD p 0 = y at *
                          have i7 : (0 : Int) ≤ (t : Int) := by omega
                          have i8 : (t : Int) < (N : Int) := by omega
                          have i9 : (0 : Int) ≤ (p : Int) := by omega
                          have j0 : (p : Int) < (n : Int) := by omega
                          have far : ∀ (b o : Nat), b < w12.heap.size → (wr.drew.drew.setCell ⟨b3, o3 + p, none⟩ (.int .i64 (x : Int))).cell? ⟨b, o, none⟩ = wr.cell? ⟨b, o, none⟩ := fun b o hb => cell_same (heap_setCell_other wr.drew.drew ⟨b3, o3 + p, none⟩ b _ (by show b ≠ b3; omega)) o
                          have q1 := (far bp (op + t) hbp2).trans hcp
                          have q2 := (far bw (ow + t) hbw2).trans hcw
                          have HN0 : Hid (Below w12.heap.size w12 (wr.drew.drew.setCell ⟨b3, o3 + p, none⟩ (.int .i64 (x : Int))) ∧ ORow (wr.drew.drew.setCell ⟨b3, o3 + p, none⟩ (.int .i64 (x : Int))) w12.heap.size (.slice (some ⟨b3, o3, none⟩) n c3) (zs (at_ (t + 1)))) := Lib.hid ⟨hS.2.1.drew.drew.setCell (p := ⟨b3, o3 + p, none⟩) hbase _, hO3⟩
                          have HCC := Lib.hid hS.1
                          have r1 : wr.cell? ⟨b3, o3 + p, none⟩ = some (.int .i64 (y : Int)) := hc3
                          clear far hO3 hbase hS3 hS HSt HLT hbp hbw hbp2 hbw2 hzl HAS HAL hb3
                          by_cases hyx : y = x
                          · have hbe : ((y : Int) == (x : Int)) = true := by rw [beq_iff_eq, hyx]
                            have HN : Hid (cc = cn (t + 1) ∧ Below w12.heap.size w12 (wr.drew.drew.setCell ⟨b3, o3 + p, none⟩ (.int .i64 (x : Int))) ∧ ORow (wr.drew.drew.setCell ⟨b3, o3 + p, none⟩ (.int .i64 (x : Int))) w12.heap.size (.slice (some ⟨b3, o3, none⟩) n c3) (zs (at_ (t + 1)))) := Lib.hid ⟨by rw [HCS.out, if_neg (by simpa using hyx), ← HCC.out]; rfl, HN0.out⟩
                            clear hyx HCS HCC HN0
                            have HW3 : Hid (∀ W : World, Below wr.heap.size wr W → W.cell? ⟨bp, op + t, none⟩ = some (.int .i64 (p : Int)) ∧ W.cell? ⟨bw, ow + t, none⟩ = some (.int .i64 (x : Int)) ∧ W.cell? ⟨b3, o3 + p, none⟩ = some (.int .i64 (y : Int))) := Lib.hid (fun W hW => ⟨(hW.cell (p := ⟨bp, _, none⟩) (GrW.lt_of_cell hcp)).trans hcp, (hW.cell (p := ⟨bw, _, none⟩) (GrW.lt_of_cell hcw)).trans hcw, (hW.cell (p := ⟨b3, _, none⟩) (GrW.lt_of_cell r1)).trans r1⟩)
                            have HCD := Lib.hid (And.intro hcp hcw)
                            have HQ12 := Lib.hid (And.intro q1 q2)
                            have HR1 := Lib.hid r1
                            have HF3 := Lib.hid hf3
                            clear hcp hcw q1 q2 r1 hf3 hc3
                            go_upto_region 32 with fail
                            have hS : Below wr.heap.size wr wr.drew := (Below.refl _ wr).drew
                            refine wp_region_heldG [] (fun _ W => Below wr.heap.size wr W) (by kernel_rfl) ?_
                            change wpAnyG _ _ _ _ _ _ 12 _ _ wr.drew
                            refine g_take (i := 0) rfl rfl (by kernel_rfl) (by kernel_rfl) (by kernel_rfl) (by kernel_rfl) (by kernel_rfl) (fun _ _ _ h => h) hS (fun L' W' hL hW => by go_simp; rfl) ?_
                            refine g_take (i := 1) rfl rfl (by kernel_rfl) (by kernel_rfl) (by kernel_rfl) (by kernel_rfl) (by kernel_rfl) (fun _ _ _ h => h) hS (fun L' W' hL hW => by go_simp; rfl) ?_
                            refine g_take (i := 2) rfl rfl (by kernel_rfl) (by kernel_rfl) (by kernel_rfl) (by kernel_rfl) (by kernel_rfl) (fun _ _ _ h => h) hS (fun L' W' hL hW => by go_simp; rfl) ?_
                            refine g_take (i := 3) rfl rfl (by kernel_rfl) (by kernel_rfl) (by kernel_rfl) (by kernel_rfl) (by kernel_rfl) (fun _ _ _ h => h) hS (fun L' W' hL hW => by go_simp; rfl) ?_
                            refine g_take (i := 4) rfl rfl (by kernel_rfl) (by kernel_rfl) (by kernel_rfl) (by kernel_rfl) (by kernel_rfl) (fun _ _ _ h => h) hS (fun L' W' hL hW => by obtain ⟨k0, k1, k2⟩ := HW3.out _ hW; go_simp; rfl) ?_
                            refine g_take (i := 5) rfl rfl (by kernel_rfl) (by kernel_rfl) (by kernel_rfl) (by kernel_rfl) (by kernel_rfl) (fun _ _ _ h => h) hS (fun L' W' hL hW => by go_simp; rfl) ?_
                            refine g_take (i := 6) rfl rfl (by kernel_rfl) (by kernel_rfl) (by kernel_rfl) (by kernel_rfl) (by kernel_rfl) (fun _ _ _ h => h) hS (fun L' W' hL hW => by obtain ⟨k0, k1, k2⟩ := HW3.out _ hW; go_simp; rfl) ?_
                            refine g_take (i := 7) rfl rfl (by kernel_rfl) (by kernel_rfl) (by kernel_rfl) (by kernel_rfl) (by kernel_rfl) (fun _ _ _ h => h) hS (fun L' W' hL hW => by go_simp; rfl) ?_
                            refine g_take (i := 8) rfl rfl (by kernel_rfl) (by kernel_rfl) (by kernel_rfl) (by kernel_rfl) (by kernel_rfl) (fun _ _ _ h => h) hS (fun L' W' hL hW => by go_simp; rfl) ?_
                            refine g_take (i := 9) rfl rfl (by kernel_rfl) (by kernel_rfl) (by kernel_rfl) (by kernel_rfl) (by kernel_rfl) (fun _ _ _ h => h) hS (fun L' W' hL hW => by go_simp; rfl) ?_
                            refine g_take (i := 10) rfl rfl (by kernel_rfl) (by kernel_rfl) (by kernel_rfl) (by kernel_rfl) (by kernel_rfl) (fun _ _ _ h => h) hS (fun L' W' hL hW => by obtain ⟨k0, k1, k2⟩ := HW3.out _ hW; go_simp; rfl) ?_
                            refine g_take (i := 11) rfl rfl (by kernel_rfl) (by kernel_rfl) (by kernel_rfl) (by kernel_rfl) (by kernel_rfl) (fun _ _ _ h => h) hS (fun L' W' hL hW => by go_simp; rfl) ?_
                            refine wpAnyG_done (by kernel_rfl) ?_ _
                            clear hS HW3
                            go_simp
                            go_upto_region 34 with fail
                            have hS : wr.drew.drew.cell? ⟨bp, op + t, none⟩ = some (.int .i64 (p : Int)) ∧ wr.drew.drew.cell? ⟨bw, ow + t, none⟩ = some (.int .i64 (x : Int)) := HCD.out
                            refine wp_region_heldG [] (fun _ W => W.cell? ⟨bp, op + t, none⟩ = some (.int .i64 (p : Int)) ∧ W.cell? ⟨bw, ow + t, none⟩ = some (.int .i64 (x : Int))) (by kernel_rfl) ?_
                            change wpAnyG _ _ _ _ _ _ 11 _ _ wr.drew.drew
                            refine g_take (i := 0) rfl rfl (by kernel_rfl) (by kernel_rfl) (by kernel_rfl) (by kernel_rfl) (by kernel_rfl) (fun _ _ _ h => h) hS (fun L' W' hL hW => by go_simp; rfl) ?_
                            refine g_take (i := 1) rfl rfl (by kernel_rfl) (by kernel_rfl) (by kernel_rfl) (by kernel_rfl) (by kernel_rfl) (fun _ _ _ h => h) hS (fun L' W' hL hW => by go_simp; rfl) ?_
                            refine g_take (i := 2) rfl rfl (by kernel_rfl) (by kernel_rfl) (by kernel_rfl) (by kernel_rfl) (by kernel_rfl) (fun _ _ _ h => h) hS (fun L' W' hL hW => by go_simp; rfl) ?_
                            refine g_take (i := 3) rfl rfl (by kernel_rfl) (by kernel_rfl) (by kernel_rfl) (by kernel_rfl) (by kernel_rfl) (fun _ _ _ h => h) hS (fun L' W' hL hW => by go_simp; rfl) ?_
                            refine g_take (i := 4) rfl rfl (by kernel_rfl) (by kernel_rfl) (by kernel_rfl) (by kernel_rfl) (by kernel_rfl) (fun _ _ _ h => h) hS (fun L' W' hL hW => by obtain ⟨k0, k1⟩ := hW; go_simp; rfl) ?_
                            refine g_take (i := 5) rfl rfl (by kernel_rfl) (by kernel_rfl) (by kernel_rfl) (by kernel_rfl) (by kernel_rfl) (fun _ _ _ h => h) hS (fun L' W' hL hW => by go_simp; rfl) ?_
                            refine g_take (i := 6) rfl rfl (by kernel_rfl) (by kernel_rfl) (by kernel_rfl) (by kernel_rfl) (by kernel_rfl) (fun _ _ _ h => h) hS (fun L' W' hL hW => by go_simp; rfl) ?_
                            refine g_take (i := 7) rfl rfl (by kernel_rfl) (by kernel_rfl) (by kernel_rfl) (by kernel_rfl) (by kernel_rfl) (fun _ _ _ h => h) hS (fun L' W' hL hW => by go_simp; rfl) ?_
                            refine g_take (i := 8) rfl rfl (by kernel_rfl) (by kernel_rfl) (by kernel_rfl) (by kernel_rfl) (by kernel_rfl) (fun _ _ _ h => h) hS (fun L' W' hL hW => by obtain ⟨k0, k1⟩ := hW; go_simp; rfl) ?_
                            refine g_take (i := 9) rfl rfl (by kernel_rfl) (by kernel_rfl) (by kernel_rfl) (by kernel_rfl) (by kernel_rfl) (fun _ _ _ h => h) hS (fun L' W' hL hW => by go_simp; rfl) ?_
                            have r1 : wr.drew.drew.cell? ⟨b3, o3 + p, none⟩ = some (.int .i64 (y : Int)) := HR1.out
                            have hf3 := HF3.out
                            refine g_one (i := 10) rfl rfl (by kernel_rfl) fun K' hK => ?_
                            go_simp
                            refine hK _ _ HQ12.out ?_
                            clear hK K'
                            refine wpAnyG_done (by kernel_rfl) ?_ _
                            clear r1 hf3 hS HCD HQ12 HR1 HF3 hbe
                            go_simp
                            go_wp2_with fail
                            go_roundw
                            case rel => exact ⟨t + 1, cc, by omega, by omega, by go_num, by go_num, HN⟩
                            case measure => simp [intOf]; omega
                          · have hbe : ((y : Int) == (x : Int)) = false := by rw [beq_eq_false_iff_ne]; omega
                            have HN : Hid (cc + 1 = cn (t + 1) ∧ Below w12.heap.size w12 (wr.drew.drew.setCell ⟨b3, o3 + p, none⟩ (.int .i64 (x : Int))) ∧ ORow (wr.drew.drew.setCell ⟨b3, o3 + p, none⟩ (.int .i64 (x : Int))) w12.heap.size (.slice (some ⟨b3, o3, none⟩) n c3) (zs (at_ (t + 1)))) := Lib.hid ⟨by rw [HCS.out, if_pos hyx, ← HCC.out], HN0.out⟩
                            clear hyx HCS HCC HN0
                            have HW3 : Hid (∀ W : World, Below wr.heap.size wr W → W.cell? ⟨bp, op + t, none⟩ = some (.int .i64 (p : Int)) ∧ W.cell? ⟨bw, ow + t, none⟩ = some (.int .i64 (x : Int)) ∧ W.cell? ⟨b3, o3 + p, none⟩ = some (.int .i64 (y : Int))) := Lib.hid (fun W hW => ⟨(hW.cell (p := ⟨bp, _, none⟩) (GrW.lt_of_cell hcp)).trans hcp, (hW.cell (p := ⟨bw, _, none⟩) (GrW.lt_of_cell hcw)).trans hcw, (hW.cell (p := ⟨b3, _, none⟩) (GrW.lt_of_cell r1)).trans r1⟩)
                            have HCD := Lib.hid (And.intro hcp hcw)
                            have HQ12 := Lib.hid (And.intro q1 q2)
                            have HR1 := Lib.hid r1
                            have HF3 := Lib.hid hf3
                            clear hcp hcw q1 q2 r1 hf3 hc3
                            go_upto_region 32 with fail
                            have hS : Below wr.heap.size wr wr.drew := (Below.refl _ wr).drew
                            refine wp_region_heldG [] (fun _ W => Below wr.heap.size wr W) (by kernel_rfl) ?_
                            change wpAnyG _ _ _ _ _ _ 12 _ _ wr.drew
                            refine g_take (i := 0) rfl rfl (by kernel_rfl) (by kernel_rfl) (by kernel_rfl) (by kernel_rfl) (by kernel_rfl) (fun _ _ _ h => h) hS (fun L' W' hL hW => by go_simp; rfl) ?_
                            refine g_take (i := 1) rfl rfl (by kernel_rfl) (by kernel_rfl) (by kernel_rfl) (by kernel_rfl) (by kernel_rfl) (fun _ _ _ h => h) hS (fun L' W' hL hW => by go_simp; rfl) ?_
                            refine g_take (i := 2) rfl rfl (by kernel_rfl) (by kernel_rfl) (by kernel_rfl) (by kernel_rfl) (by kernel_rfl) (fun _ _ _ h => h) hS (fun L' W' hL hW => by go_simp; rfl) ?_
                            refine g_take (i := 3) rfl rfl (by kernel_rfl) (by kernel_rfl) (by kernel_rfl) (by kernel_rfl) (by kernel_rfl) (fun _ _ _ h => h) hS (fun L' W' hL hW => by go_simp; rfl) ?_
                            refine g_take (i := 4) rfl rfl (by kernel_rfl) (by kernel_rfl) (by kernel_rfl) (by kernel_rfl) (by kernel_rfl) (fun _ _ _ h => h) hS (fun L' W' hL hW => by obtain ⟨k0, k1, k2⟩ := HW3.out _ hW; go_simp; rfl) ?_
                            refine g_take (i := 5) rfl rfl (by kernel_rfl) (by kernel_rfl) (by kernel_rfl) (by kernel_rfl) (by kernel_rfl) (fun _ _ _ h => h) hS (fun L' W' hL hW => by go_simp; rfl) ?_
                            refine g_take (i := 6) rfl rfl (by kernel_rfl) (by kernel_rfl) (by kernel_rfl) (by kernel_rfl) (by kernel_rfl) (fun _ _ _ h => h) hS (fun L' W' hL hW => by obtain ⟨k0, k1, k2⟩ := HW3.out _ hW; go_simp; rfl) ?_
                            refine g_take (i := 7) rfl rfl (by kernel_rfl) (by kernel_rfl) (by kernel_rfl) (by kernel_rfl) (by kernel_rfl) (fun _ _ _ h => h) hS (fun L' W' hL hW => by go_simp; rfl) ?_
                            refine g_take (i := 8) rfl rfl (by kernel_rfl) (by kernel_rfl) (by kernel_rfl) (by kernel_rfl) (by kernel_rfl) (fun _ _ _ h => h) hS (fun L' W' hL hW => by go_simp; rfl) ?_
                            refine g_take (i := 9) rfl rfl (by kernel_rfl) (by kernel_rfl) (by kernel_rfl) (by kernel_rfl) (by kernel_rfl) (fun _ _ _ h => h) hS (fun L' W' hL hW => by go_simp; rfl) ?_
                            refine g_take (i := 10) rfl rfl (by kernel_rfl) (by kernel_rfl) (by kernel_rfl) (by kernel_rfl) (by kernel_rfl) (fun _ _ _ h => h) hS (fun L' W' hL hW => by obtain ⟨k0, k1, k2⟩ := HW3.out _ hW; go_simp; rfl) ?_
                            refine g_take (i := 11) rfl rfl (by kernel_rfl) (by kernel_rfl) (by kernel_rfl) (by kernel_rfl) (by kernel_rfl) (fun _ _ _ h => h) hS (fun L' W' hL hW => by go_simp; rfl) ?_
                            refine wpAnyG_done (by kernel_rfl) ?_ _
                            clear hS HW3
                            go_simp
                            go_upto_region 34 with fail
                            have hS : wr.drew.drew.cell? ⟨bp, op + t, none⟩ = some (.int .i64 (p : Int)) ∧ wr.drew.drew.cell? ⟨bw, ow + t, none⟩ = some (.int .i64 (x : Int)) := HCD.out
                            refine wp_region_heldG [] (fun _ W => W.cell? ⟨bp, op + t, none⟩ = some (.int .i64 (p : Int)) ∧ W.cell? ⟨bw, ow + t, none⟩ = some (.int .i64 (x : Int))) (by kernel_rfl) ?_
                            change wpAnyG _ _ _ _ _ _ 11 _ _ wr.drew.drew
                            refine g_take (i := 0) rfl rfl (by kernel_rfl) (by kernel_rfl) (by kernel_rfl) (by kernel_rfl) (by kernel_rfl) (fun _ _ _ h => h) hS (fun L' W' hL hW => by go_simp; rfl) ?_
                            refine g_take (i := 1) rfl rfl (by kernel_rfl) (by kernel_rfl) (by kernel_rfl) (by kernel_rfl) (by kernel_rfl) (fun _ _ _ h => h) hS (fun L' W' hL hW => by go_simp; rfl) ?_
                            refine g_take (i := 2) rfl rfl (by kernel_rfl) (by kernel_rfl) (by kernel_rfl) (by kernel_rfl) (by kernel_rfl) (fun _ _ _ h => h) hS (fun L' W' hL hW => by go_simp; rfl) ?_
                            refine g_take (i := 3) rfl rfl (by kernel_rfl) (by kernel_rfl) (by kernel_rfl) (by kernel_rfl) (by kernel_rfl) (fun _ _ _ h => h) hS (fun L' W' hL hW => by go_simp; rfl) ?_
                            refine g_take (i := 4) rfl rfl (by kernel_rfl) (by kernel_rfl) (by kernel_rfl) (by kernel_rfl) (by kernel_rfl) (fun _ _ _ h => h) hS (fun L' W' hL hW => by obtain ⟨k0, k1⟩ := hW; go_simp; rfl) ?_
                            refine g_take (i := 5) rfl rfl (by kernel_rfl) (by kernel_rfl) (by kernel_rfl) (by kernel_rfl) (by kernel_rfl) (fun _ _ _ h => h) hS (fun L' W' hL hW => by go_simp; rfl) ?_
                            refine g_take (i := 6) rfl rfl (by kernel_rfl) (by kernel_rfl) (by kernel_rfl) (by kernel_rfl) (by kernel_rfl) (fun _ _ _ h => h) hS (fun L' W' hL hW => by go_simp; rfl) ?_
                            refine g_take (i := 7) rfl rfl (by kernel_rfl) (by kernel_rfl) (by kernel_rfl) (by kernel_rfl) (by kernel_rfl) (fun _ _ _ h => h) hS (fun L' W' hL hW => by go_simp; rfl) ?_
                            refine g_take (i := 8) rfl rfl (by kernel_rfl) (by kernel_rfl) (by kernel_rfl) (by kernel_rfl) (by kernel_rfl) (fun _ _ _ h => h) hS (fun L' W' hL hW => by obtain ⟨k0, k1⟩ := hW; go_simp; rfl) ?_
                            refine g_take (i := 9) rfl rfl (by kernel_rfl) (by kernel_rfl) (by kernel_rfl) (by kernel_rfl) (by kernel_rfl) (fun _ _ _ h => h) hS (fun L' W' hL hW => by go_simp; rfl) ?_
                            have r1 : wr.drew.drew.cell? ⟨b3, o3 + p, none⟩ = some (.int .i64 (y : Int)) := HR1.out
                            have hf3 := HF3.out
                            refine g_one (i := 10) rfl rfl (by kernel_rfl) fun K' hK => ?_
                            go_simp
                            refine hK _ _ HQ12.out ?_
                            clear hK K'
                            refine wpAnyG_done (by kernel_rfl) ?_ _
                            clear r1 hf3 hS HCD HQ12 HR1 HF3 hbe
                            go_simp
                            go_wp2_with fail
                            go_roundw
                            case rel => exact ⟨t + 1, cc + 1, by omega, by omega, by go_num, by go_num, HN⟩
                            case measure => simp [intOf]; omega
                        · have htE : t = N := by omega
                          have i8 : ¬ (t : Int) < (N : Int) := by omega
                          subst htE
                          obtain ⟨P', hst, hcn⟩ := HTU.out.done
                          have hS := HSt.out
                          have hB7 := HB712.out.trans (hS.2.1.mono HB712.out.size)
                          have HT9 := Lib.hid (HT7.out.below hB7)
                          have hEND : MidP w w4 (wr.setCell ⟨w.heap.size, 2, none⟩ (.slice A3 n c3)) n A q c (some ⟨bM, oM, none⟩) L P V a b cc P' (at_ t) A3 c3 := by
                            have hl : (zs (at_ t)).length = n := by rw [zs_length, HTU.out.len]
                            have hown0 : wr.ownsRow w12.heap.size 3 1 (.slice A3 n c3) n (iv (zs (at_ t))) := by have h := hS.2.2; unfold ORow at h; rw [hl] at h; exact h
                            have hfar : (Value.slice A3 n c3).ownBlock ≠ some w.heap.size := fun e => by
                              have h1 := (own_row hown0 e).1
                              have h2 := HPL.out
                              have h3 := HS45.out
                              have h4 := HS57.out
                              have h5 := HB712.out.size
                              omega
                            have hown : (wr.setCell ⟨w.heap.size, 2, none⟩ (.slice A3 n c3)).ownsRow w12.heap.size 3 1 (.slice A3 n c3) n (iv (zs (at_ t))) := own_far hown0 hfar _
                            obtain ⟨n1, n2, n3, n4⟩ := Nums.of_own hown
                            have hA : ∀ off, A ≠ some ⟨w.heap.size, off, none⟩ := fun off e => by have := HR0.out.la _ _ e; omega
                            have hsz : w4.heap.size ≤ w12.heap.size := by
                              have h3 := HS45.out
                              have h4 := HS57.out
                              have h5 := HB712.out.size
                              omega
                            have hle := Lies.below HR7.out.la hB7
                            refine ⟨HNP.out, by rw [hS.1]; exact hcn, by omega, hst, HT9.out.at_ A3 c3, n1, n3, n4, Lies.of_own hown, NewB.of_own hown hsz, edges_set (edges_more HR7.out.ed hB7) 2 _ hA, fun b0 off e => by simpa using hle b0 off e, ?_⟩
                            have := hS.2.1.size
                            simp
                            omega
                          have HEND := Lib.hid hEND
                          have x2 := HT9.out.b0.at_ 2 rfl
                          have y2 := HT9.out.b0.frozen 2
                          clear hEND hS hB7 HSt hst hcn
                          go_wp2_with fail
                          go_meet
                          exact ⟨_, cc, P', at_ t, A3, c3, rfl, rfl, HEND⟩
          · have i1 : ¬ (lo : Int) < (hi : Int) := by omega
            go_wp2_with fail
            go_meet
            have hge : P.getD a 0 < P.getD b 0 := by
              have h1 : P.getD a 0 ≠ P.getD b 0 := fun e => hab (HST.out.perm.inj (x := a) (y := b) ha hb e)
              have h2 := HHI0.out
              have h3 := HLO0.out
              omega
            exact ⟨_, 0, P, V, Am, cm, rfl, rfl, Lib.hid ⟨fun hp => by
              have h1 := HST.out.up.path hp
              have h2 := HST.out.perm.inj (x := a) (y := b) ha hb (by omega)
              exact hab h2, (moved_self n P).symm, Nat.zero_le _, .inl ⟨hge, rfl, rfl⟩, HT5.out, HR5.out.nums, HR5.out.k1, HR5.out.k2, HR5.out.lm, .refl _ _ _, HR5.out.ed, HR5.out.la, HS45.out⟩⟩
        case rest =>
          obtain ⟨wy, cc, P', V', Am', cm', hwx, rfl, HX⟩ := hcut
          subst hwx
          clear hab
          have HPX := Lib.hid HX.out.pt
          have c0 := HPX.out.b0.at_ 0 rfl
          have c1 := HPX.out.b0.at_ 1 rfl
          have HPU := Lib.hid (refputE (w := wy) HST.out.ok HR5.out.q1 HR5.out.q2 HR5.out.q3 (by omega) HX.out.ed HX.out.la a b ha hb habne)
          unfold rv at HPU
          go_wp2_with fail
          refine Calls.mono HPU.out ?_
          rintro e w8 ⟨A', q', c', bb, rfl, B8, E8, q1', q2', q3', q4', L8, N8⟩
          clear HPU c0 c1
          have HP8 := Lib.hid ((HPX.out.below B8).below ((Below.refl _ w8).alloc (Nat.le_refl _) (.cells #[.int .i64 (n : Int), .slice A' q' c'] 53)))
          have HG9 := Lib.hid (Blk.new_ w8 53 #[.int .i64 (n : Int), .slice A' q' c'] rfl)
          have HB9 : Hid (Below wy.heap.size wy (w8.alloc (.cells #[.int .i64 (n : Int), .slice A' q' c'] 53))) := Lib.hid (B8.alloc B8.size _)
          have HE9 : Hid (RO (w8.alloc (.cells #[.int .i64 (n : Int), .slice A' q' c'] 53)) n A' q' c' Am' cm' (putL L a b) V' ∧ q' ≤ q + 1 ∧ NewB w4 (w8.alloc (.cells #[.int .i64 (n : Int), .slice A' q' c'] 53)) A A' ∧ NewB w4 (w8.alloc (.cells #[.int .i64 (n : Int), .slice A' q' c'] 53)) Am Am') := Lib.hid (by
            have hb8 : Below w8.heap.size w8 (w8.alloc (.cells #[.int .i64 (n : Int), .slice A' q' c'] 53)) := (Below.refl _ w8).alloc (Nat.le_refl _) _
            refine ⟨⟨edges_more E8 hb8, q1', q2', q3', (HX.out.nums.grow B8).grow hb8, HX.out.k1, HX.out.k2, L8.below hb8, (HX.out.lm.below B8).below hb8⟩, q4', ?_, ?_⟩
            · exact (N8.on hb8.size).from HX.out.sz
            · exact HX.out.nm.on (Nat.le_trans B8.size hb8.size))
          generalize hw9 : w8.alloc (.cells #[.int .i64 (n : Int), .slice A' q' c'] 53) = w9 at *
          generalize hb9 : w8.heap.size = b9 at *
          have g0 := HG9.out.at_ 0 rfl
          have g1 := HG9.out.at_ 1 rfl
          have x0 := HP8.out.b0.at_ 0 rfl
          have y0 := HP8.out.b0.frozen 0
          have k1 := HP8.out.b0.set_ 0 (.int .i64 (n : Int))
          have x1 := k1.at_ 1 rfl
          have y1 := k1.frozen 1
          clear k1 B8 E8 q1' q2' q3' L8 N8
          go_upto_region 38 with fail
          clear hw9 hb9 g0 g1 x0 y0 x1 y1
          have HPT := Lib.hid (HP8.out.graph A' q' c')
          have HRF : Hid (RO ((w9.setCell ⟨w.heap.size, 0, none⟩ (.int .i64 (n : Int))).setCell ⟨w.heap.size, 1, none⟩ (.slice A' q' c')) n A' q' c' Am' cm' (putL L a b) V') := Lib.hid (by
            have hA : ∀ off, A' ≠ some ⟨w.heap.size, off, none⟩ := HE9.out.2.2.1.far HR0.out.la (Nat.le_refl _) HPL.out
            have hM : ∀ off, Am' ≠ some ⟨w.heap.size, off, none⟩ := HE9.out.2.2.2.far HR0.out.lm (Nat.le_refl _) HPL.out
            exact (HE9.out.1.set_ 0 _ hA hM).set_ 1 _ hA hM)
          have HSZ : Hid (w9.heap.size ≤ ((w9.setCell ⟨w.heap.size, 0, none⟩ (.int .i64 (n : Int))).setCell ⟨w.heap.size, 1, none⟩ (.slice A' q' c')).heap.size) := Lib.hid (by simp)
          generalize (w9.setCell ⟨w.heap.size, 0, none⟩ (.int .i64 (n : Int))).setCell ⟨w.heap.size, 1, none⟩ (.slice A' q' c') = w10 at *
          have x0 := HPT.out.b0.at_ 0 rfl
          have x1 := HPT.out.b0.at_ 1 rfl
          have x2 := HPT.out.b0.at_ 2 rfl
          have z0 := HPT.out.b1.at_ 0 rfl
          have f0 := HPT.out.b1.frozen 0
          have k1 := HPT.out.b1.set_ 0 (.int .i64 (n : Int))
          have z1 := k1.at_ 1 rfl
          have f1 := k1.frozen 1
          have k2 := k1.set_ 1 (.slice A' q' c')
          have z2 := k2.at_ 2 rfl
          have f2 := k2.frozen 2
          have K3 := Lib.hid (k2.set_ 2 (.slice Am' n cm'))
          have HB3 := Lib.hid (HPT.out.fin (.int .i64 (n : Int)) (.slice A' q' c') (.slice Am' n cm'))
          clear k1 k2
          go_wp2_with fail
          refine bodyPost_ret (results_cell_row3 rfl _ _ (w.heap.size + 1) 55 #[.int .i64 (n : Int), .slice A' q' c', .slice Am' n cm'] (0, 0) _ rfl K3.out.out Try.underlying55 rfl (by kernel_rfl)) rfl ?_
          refine ⟨HB3.out, ?_⟩
          rw [if_pos (by simp [HU.out, HV.out])]
          have hfA : ∀ off, A' ≠ some ⟨w.heap.size + 1, off, none⟩ := HE9.out.2.2.1.far HR0.out.la (Nat.le_succ _) HPM.out
          have hfM : ∀ off, Am' ≠ some ⟨w.heap.size + 1, off, none⟩ := HE9.out.2.2.2.far HR0.out.lm (Nat.le_succ _) HPM.out
          refine ⟨cc, 0, putL L a b, P', V', A', q', c', Am', cm', rfl, .inr ⟨rfl, HX.out.mv, HX.out.np, habne, rfl, HX.out.st⟩, ((HRF.out.set_ 0 _ hfA hfM).set_ 1 _ hfA hfM).set_ 2 _ hfA hfM, HE9.out.2.1, ?_, ?_⟩
          · exact (HE9.out.2.2.1.on (by have := HSZ.out; simpa using this)).from HW4.out
          · exact (HE9.out.2.2.2.on (by have := HSZ.out; simpa using this)).from HW4.out
    · rw [Bool.eq_false_iff.2 hv]
      have HNV := Lib.hid hv
      clear hv
      have x0 := HT4.out.b0.at_ 0 rfl
      have x1 := HT4.out.b0.at_ 1 rfl
      have x2 := HT4.out.b0.at_ 2 rfl
      have z0 := HT4.out.b1.at_ 0 rfl
      have f0 := HT4.out.b1.frozen 0
      have k1 := HT4.out.b1.set_ 0 (.int .i64 (n : Int))
      have z1 := k1.at_ 1 rfl
      have f1 := k1.frozen 1
      have k2 := k1.set_ 1 (.slice A q c)
      have z2 := k2.at_ 2 rfl
      have f2 := k2.frozen 2
      have K3 := Lib.hid (k2.set_ 2 (.slice Am n cm))
      have HB3 := Lib.hid (HT4.out.fin (.int .i64 (n : Int)) (.slice A q c) (.slice Am n cm))
      clear k1 k2
      go_wp2_with fail
      refine bodyPost_ret (results_cell_row3 rfl _ _ (w.heap.size + 1) 55 #[.int .i64 (n : Int), .slice A q c, .slice Am n cm] (0, 0) _ rfl K3.out.out Try.underlying55 rfl (by kernel_rfl)) rfl ?_
      refine ⟨HB3.out, ?_⟩
      rw [if_neg (by simp [HU.out, HNV.out])]
      rfl
  · rw [Bool.eq_false_iff.2 hu]
    have HNV := Lib.hid hu
    clear hu
    have x0 := HT3.out.b0.at_ 0 rfl
    have x1 := HT3.out.b0.at_ 1 rfl
    have x2 := HT3.out.b0.at_ 2 rfl
    have z0 := HT3.out.b1.at_ 0 rfl
    have f0 := HT3.out.b1.frozen 0
    have k1 := HT3.out.b1.set_ 0 (.int .i64 (n : Int))
    have z1 := k1.at_ 1 rfl
    have f1 := k1.frozen 1
    have k2 := k1.set_ 1 (.slice A q c)
    have z2 := k2.at_ 2 rfl
    have f2 := k2.frozen 2
    have K3 := Lib.hid (k2.set_ 2 (.slice Am n cm))
    have HB3 := Lib.hid (HT3.out.fin (.int .i64 (n : Int)) (.slice A q c) (.slice Am n cm))
    clear k1 k2
    go_wp2_with fail
    refine bodyPost_ret (results_cell_row3 rfl _ _ (w.heap.size + 1) 55 #[.int .i64 (n : Int), .slice A q c, .slice Am n cm] (0, 0) _ rfl K3.out.out Try.underlying55 rfl (by kernel_rfl)) rfl ?_
    refine ⟨HB3.out, ?_⟩
    rw [if_neg (by simp [HNV.out])]
    rfl
end Go.Proofs.Ytelplccbcbegkaa.OrW
