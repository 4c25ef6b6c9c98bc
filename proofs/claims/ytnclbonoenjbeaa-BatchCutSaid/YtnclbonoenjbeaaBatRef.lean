/-
  The walk of the reference's Scan.
-/
import Derived.Test.YtnclbonoenjbeaaBatRef0
import Derived.Deep.DeepCutAuto
namespace Go.Proofs.Ytnclbonoenjbeaa.BatW
set_option linter.unusedVariables false
open Go.RowKit Go.Proofs Go.Proofs.Ytnclbonoenjbeaa Go.Proofs.Ytnclbonoenjbeaa.Wd Go.Proofs.Ytnclbonoenjbeaa.RecW
open Go.Proofs.Ytnclbonoenjbeaa.Rec (R weight)
open Go.Proofs.Ytnclbonoenjbeaa.Bat (B cnt St)

theorem app1 {w : World} {base : Nat} {t : TypeId} {v : Value} (hB : base ≤ w.heap.size) : Row (w.alloc (.cells #[v] t)) (w.heap.size + 1) (some ⟨w.heap.size, 0, none⟩) [v] := Row.blk (Blk.new_ w t #[v] rfl) (B := w.heap.size + 1) (Nat.lt_succ_self _)
set_option maxRecDepth 100000 in
set_option maxHeartbeats 8000000 in
theorem refscan_any (A : Option Addr) (c : Nat) (b : List UInt8) (n : Nat) (hn : n = b.length) (hbc : n ≤ c) (hreach : n ≤ 1000000000000) (w : World) (hI : Bytes w w.heap.size A b) :
    Calls Try.prog 21 #[.slice A n c] w (ScanOut w b) := by
  obtain ⟨i0, hi0, hz0, hz1, hz2⟩ := info_parts infoSl
  obtain ⟨j0, hj0, hy0, hy1, hy2⟩ := info_parts infoSS
  have HALL := Lib.hid (refall_any A c b n hn (by omega) (by omega) w hI)
  have HN := Lib.hid hn
  clear hn hI
  go_enter Try.func21, Try.ntmps21
  go_wp2_with fail
  refine Calls.mono HALL.out ?_
  rintro e w1 hall
  clear HALL
  obtain ⟨v, zs, rfl, hB1, hown, hrecs⟩ := hall
  have HW := Lib.hid (all_weight b)
  have HEND := Lib.hid (Rec.all_any_bytes b.length b (Nat.le_refl _)).2.2.2
  have HF0 := Lib.hid (Far.start b)
  obtain ⟨⟨rs, ta, er⟩, hr⟩ : ∃ r, Rec.all b = r := ⟨_, rfl⟩
  rw [hr] at hown hrecs HW HF0 HEND ⊢
  dsimp only at hown hrecs HW HF0 HEND ⊢
  clear hr
  obtain ⟨m, hm⟩ : ∃ m, m = rs.length := ⟨_, rfl⟩
  obtain ⟨A0, c0, hv⟩ := own_form hown
  subst hv
  have hml : m * 9 ≤ n := by have h1 := HW.out; have h2 := Rec.length_le_weight rs; have h3 := HN.out; omega
  have HM := Lib.hid hm
  have HR0 : Hid (RS w1 w.heap.size (.slice A0 m c0) zs rs (.slice none 0 0) (.slice none 0 0) ([], [])) := Lib.hid ⟨by rw [hm]; exact hown, hrecs, Kept.nil _ _, Outs.nil _ _ _⟩
  rw [← hm]
  have HB0 := Lib.hid hB1
  clear hown hrecs hB1 hm
  go_wp2_with fail
  go_loopw [8, 9, 10, 11, 12] (fun vo vk ia ie ii wr => ∃ (i k te : Nat) (s : St), i ≤ m ∧ k ≤ n ∧ te ≤ n ∧ ii = .int .i64 i ∧ ia = .int .i64 k ∧ ie = .int .i64 te ∧ Hid (Far b rs er i s k te) ∧ Hid (RS wr w.heap.size (.slice A0 m c0) zs rs vo vk s) ∧ Hid (Below w.heap.size w wr) ∧ Hid (s.2.length ≤ 1024) ∧ Hid (s.1.length ≤ i) ∧ Hid (k + weight (rs.drop i) ≤ n)) (fun _ _ _ _ ii _ => m - (intOf ii).toNat)
  case atStart => exact ⟨0, 0, 0, ([], []), Nat.zero_le _, Nat.zero_le _, Nat.zero_le _, rfl, rfl, rfl, HF0, HR0, HB0, Lib.hid (Nat.zero_le _), Lib.hid (Nat.zero_le _), Lib.hid (by rw [List.drop_zero]; have := HW.out; have := HN.out; omega)⟩
  case round =>
    clear HF0 HR0 HB0
    obtain ⟨i, k, te, s, hi, hk, hte, rfl, rfl, rfl, HF, HR, HB, HM1, HO1, HWT⟩ := hrel
    obtain ⟨Ak, ck, hvk, -, -, -⟩ := HR.out.kept.reads
    obtain ⟨Ao, co, hvo, hl1, hl2, hr3⟩ := HR.out.outs.out
    subst hvk hvo
    have HR3 := Lib.hid hr3
    clear hr3
    obtain ⟨mk, hmk⟩ : ∃ x, x = s.2.length := ⟨_, rfl⟩
    obtain ⟨mo, hmo⟩ : ∃ x, x = s.1.length := ⟨_, rfl⟩
    have HMK := Lib.hid hmk
    have HMO := Lib.hid hmo
    rw [← hmk] at HM1
    rw [← hmo] at HO1 hl1
    have HRx : Hid (RS wr w.heap.size (.slice A0 m c0) zs rs (.slice Ao mo co) (.slice Ak mk ck) s) := by rw [hmk, hmo]; exact HR
    rw [← hmk, ← hmo]
    clear HR hmk hmo
    have hm1 : mk ≤ 1024 := HM1.out
    have ho1 : mo ≤ i := HO1.out
    by_cases hlt : i < m
    · have hil : i < rs.length := by rw [← HM.out]; exact hlt
      obtain ⟨g, c1, A1, cd, hv, hg, hc0, hc1, hcd, hod, hbd⟩ := HRx.out.get hil
      have HBAD := Lib.hid (fun q (hq : Bat.take s rs[i] = q) => HF.out.bad hil hq)
      have HNX := Lib.hid (fun q (hq : Bat.take s rs[i] = q) => HF.out.next hil hq)
      have HDW := Lib.hid (drop_weight hil)
      obtain ⟨⟨rk, rd⟩, hre⟩ : ∃ r, rs[i] = r := ⟨_, rfl⟩
      rw [hre] at hc0 hc1 hcd hod hbd HBAD HNX HDW
      dsimp only at hc0 hc1 hcd hod hbd HNX HDW
      have hA0 : A0 = some ⟨g, 0, none⟩ := by injection hv
      subst hA0
      clear hv
      have HOD := Lib.hid hod
      have HBD := Lib.hid hbd
      have hwt := HWT.out
      rw [HDW.out] at hwt
      have hkn : k + (rd.length + 9) + weight (rs.drop (i + 1)) ≤ n := by omega
      have HWN := Lib.hid hkn
      have hkd : k + 9 + rd.length ≤ n := by omega
      obtain ⟨dl, hdl⟩ : ∃ x, x = rd.length := ⟨_, rfl⟩
      rw [← hdl] at hc1 hcd hkd
      have HDL := Lib.hid hdl
      clear hre hod hbd hwt hkn hdl HDW HWT HF hil
      have i1 : (0 : Int) ≤ (i : Int) := by omega
      have i3 : (i : Int) < (m : Int) := by omega
      have hbase := HB.out.size
      by_cases hrk : rk = 1
      · subst hrk
        simp only [BatW.u1] at hc0
        by_cases h1 : mk = 1024
        · have HRR := Lib.hid (HBAD.out (s, false, 34) (by unfold Bat.take; rw [if_pos rfl, if_pos (by rw [← HMK.out]; exact h1)]) (show (34 : Nat) ≠ 0 by decide))
          have u1 : (mk : Int) = 1024 := by omega
          have hsl := HMO.out
          clear HBAD HNX h1
          go_wp2_with fail
          go_ret3
          exact scan_out HRR.out (by rw [← hsl]; exact hl1) hl2 HR3.out HB.out (by rw [← hsl]; rfl)
        · have HRR : Hid (Far b rs er (i + 1) (s.1, s.2 ++ [rd]) (k + 9 + dl) te) := Lib.hid (by
            have := HNX.out ((s.1, s.2 ++ [rd]), false, 0) (by unfold Bat.take; rw [if_pos rfl, if_neg (by rw [← HMK.out]; exact h1)]) rfl
            rwa [show k + (rd.length + 9) = k + 9 + dl by have := HDL.out; omega] at this)
          have u1 : ¬ (mk : Int) = 1024 := by omega
          have hba : Below wr.heap.size wr (wr.alloc (.cells #[.slice A1 dl cd] 24)) := (Below.refl _ wr).alloc (Nat.le_refl _) _
          have hra := HRx.out.below hba
          obtain ⟨xs, hxo, hxr⟩ := hra.kept
          rw [← HMK.out] at hxo
          have HXO := Lib.hid hxo
          have HXR := Lib.hid hxr
          have HRA := Lib.hid hra
          have hod1 : wr.ownsRow w.heap.size 5 1 (.slice A1 dl cd) rd.length (bs rd) := by rw [HDL.out]; exact HOD.out
          have HODa := Lib.hid (own_belowT hod1 hba)
          clear hod1
          have HBa := Lib.hid (HB.out.trans (hba.mono hbase))
          have HSZ : Hid (w.heap.size ≤ (wr.alloc (.cells #[.slice A1 dl cd] 24)).heap.size) := Lib.hid HBa.out.size
          clear HBAD HNX h1 hba hra hxo hxr HR3
          go_wp2_with (at_builtin; refine wpList_append_row _ rfl (.tmp 54) (.tmp 60) _ rfl w.heap.size 24 i0 _ 24 Try.underlying37 hi0 hz0 hz1 hz2 rfl _ mk xs rfl (by exact HXO.out) (wr.heap.size + 1) (some ⟨wr.heap.size, 0, none⟩) 1 1 [.slice A1 dl cd] rfl rfl (by exact app1 hbase) (by intro u hu; simp only [List.mem_singleton] at hu; subst hu; rfl) (by unfold maxLen; omega) (by omega) (by exact HSZ.out) ?_)
          intro v' w2 hown2 hgrow _ hvb
          have HR2 : Hid (RS w2 w.heap.size (.slice (some ⟨g, 0, none⟩) m c0) zs rs (.slice Ao mo co) v' (s.1, s.2 ++ [rd])) := Lib.hid (by
            have := HRA.out.app (vd := .slice A1 dl cd) (d := rd) (by exact HODa.out) HXO.out HXR.out hgrow (m := mk + 1) (by rw [HMK.out]) hown2 (by rcases hvb with h | h; exact .inl h; exact .inr (by rw [h]; simp))
            exact this)
          have HB2 := Lib.hid (HBa.out.grown hgrow HSZ.out (fun g hg => (own_row HXO.out hg).1))
          have HM2 : Hid ((s.2 ++ [rd]).length ≤ 1024) := Lib.hid (by rw [List.length_append, ← HMK.out]; show mk + 1 ≤ 1024; omega)
          have HO2 : Hid (s.1.length ≤ i + 1) := Lib.hid (by rw [← HMO.out]; omega)
          have HW2 : Hid (k + 9 + dl + weight (rs.drop (i + 1)) ≤ n) := Lib.hid (by have h1 := HWN.out; have h2 := HDL.out; omega)
          clear hown2 hgrow hvb HRA HODa HXO HXR HSZ HBa
          go_wp2_with fail
          go_roundw
          case rel => exact ⟨i + 1, k + 9 + dl, te, (s.1, s.2 ++ [rd]), by omega, hkd, hte, by go_num, by go_num, rfl, HRR, HR2, HB2, HM2, HO2, HW2⟩
          case measure => simp [intOf]; omega
      · have g1 : ¬ ((rk.toNat : Nat) : Int) = 1 := fun e => hrk (UInt8.toNat_inj.1 (show rk.toNat = 1 by omega))
        have HRK := Lib.hid hrk
        clear hrk
        generalize rk.toNat = kk at *
        have hsl := Lib.hid HMO.out
        have fin : Bat.take s (rk, rd) = (s, false, 34) → ∀ W, (∃ a, W = wr.drewN a) → ScanOut w b (.returned (.tuple #[.slice Ao mo co, .int .i64 te, .int .i64 34])) W := fun h W hW => by
          obtain ⟨a, rfl⟩ := hW
          exact scan_out (HBAD.out _ h (show (34 : Nat) ≠ 0 by decide)) (by rw [← hsl.out]; exact hl1) hl2 (HR3.out.grow (bdrewN (Below.refl _ wr) a)) (bdrewN HB.out a) (by rw [← hsl.out]; rfl)
        have FIN := Lib.hid fin
        clear fin
        go_upto_region 14 with fail
        by_cases hm0 : mk = 0
        · have HT := Lib.hid (show Bat.take s (rk, rd) = (s, false, 34) by unfold Bat.take; rw [if_neg HRK.out, if_pos (.inl (by rw [← HMK.out]; exact hm0))])
          have u1 : ((mk : Int) == 0) = true := by rw [beq_iff_eq]; omega
          have u2 : (mk : Int) = 0 := by omega
          clear hm0 HBAD HNX
          go_quiet (fail)
          go_wp2_with fail
          go_ret3
          exact FIN.out HT.out _ (by first | exact ⟨_, rfl⟩ | exact ⟨0, rfl⟩)
        have u1 : ((mk : Int) == 0) = false := by rw [beq_eq_false_iff_ne]; omega
        have u2 : ¬ (mk : Int) = 0 := by omega
        by_cases hd2 : dl = 2
        rotate_left
        · have HT := Lib.hid (show Bat.take s (rk, rd) = (s, false, 34) by unfold Bat.take; rw [if_neg HRK.out, if_pos (.inr (fun e => hd2 (by rw [HDL.out]; rw [show rd = cnt s.2.length from e]; rfl)))])
          have u3 : ((dl : Int) != 2) = true := by rw [bne_iff_ne]; omega
          clear hm0 hd2 HBAD HNX
          go_quiet (fail)
          go_wp2_with fail
          go_ret3
          exact FIN.out HT.out _ (by first | exact ⟨_, rfl⟩ | exact ⟨0, rfl⟩)
        have u3 : ((dl : Int) != 2) = false := by rw [bne_eq_false_iff_eq]; omega
        have hdr : rd.length = 2 := by have := HDL.out; omega
        have hct := cnt_two hdr hm1
        obtain ⟨b0, o0, e0, -, x0⟩ := HBD.out.at_ (j := 0) (by omega)
        obtain ⟨b1, o1, e1, -, x1⟩ := HBD.out.at_ (j := 1) (by omega)
        obtain ⟨y0, hy0⟩ : ∃ y, y = (rd[0]'(by omega)).toNat := ⟨_, rfl⟩
        obtain ⟨y1, hy1⟩ : ∃ y, y = (rd[1]'(by omega)).toNat := ⟨_, rfl⟩
        rw [← hy0] at hct x0
        rw [← hy1] at hct x1
        have l0 : y0 < 256 := by rw [hy0]; exact UInt8.toNat_lt _
        have l1 : y1 < 256 := by rw [hy1]; exact UInt8.toNat_lt _
        have HCT := Lib.hid hct
        cases e0
        cases e1
        clear hy0 hy1 hct hdr hm0
        have i5 : (0 : Int) < (dl : Int) := by omega
        have i6 : (1 : Int) < (dl : Int) := by omega
        simp only [Nat.add_zero] at x0
        have w0 : IntKind.i64.wrap (y0 : Int) = (y0 : Int) := IntWalk.i64_in _ (by omega)
        have w1 : IntKind.i64.wrap (y1 : Int) = (y1 : Int) := IntWalk.i64_in _ (by omega)
        have w2 : IntKind.i64.wrap (256 * (y1 : Int)) = 256 * (y1 : Int) := IntWalk.i64_in _ (by omega)
        have w3 : IntKind.i64.wrap ((y0 : Int) + 256 * (y1 : Int)) = (y0 : Int) + 256 * (y1 : Int) := IntWalk.i64_in _ (by omega)
        have W0 := Lib.hid w0
        have W1 := Lib.hid w1
        have W2 := Lib.hid w2
        have W3 := Lib.hid w3
        clear w0 w1 w2 w3
        by_cases hs : y0 + 256 * y1 = mk
        rotate_left
        · have HT := Lib.hid (show Bat.take s (rk, rd) = (s, false, 34) by unfold Bat.take; rw [if_neg HRK.out, if_pos (.inr (fun e => hs (HCT.out.1 (by rw [HMK.out]; exact e))))])
          have u4 : ((y0 : Int) + 256 * (y1 : Int) != (mk : Int)) = true := by rw [bne_iff_ne]; omega
          clear hs hd2 HBAD HNX
          have w0 := W0.out
          have w1 := W1.out
          have w2 := W2.out
          have w3 := W3.out
          go_quiet (fail)
          go_wp2_with fail
          go_ret3
          exact FIN.out HT.out _ (by first | exact ⟨_, rfl⟩ | exact ⟨0, rfl⟩)
        have u4 : ((y0 : Int) + 256 * (y1 : Int) != (mk : Int)) = false := by rw [bne_eq_false_iff_eq]; omega
        have HT : Hid (Far b rs er (i + 1) (s.1 ++ [s.2], []) (k + 9 + dl) (k + 9 + dl)) := Lib.hid (by
          have := HNX.out ((s.1 ++ [s.2], []), true, 0) (by unfold Bat.take; rw [if_neg HRK.out, if_neg (by intro e; rcases e with e | e; exact absurd u1 (by rw [HMK.out, e]; decide); exact e (by rw [← HMK.out]; exact HCT.out.2 hs))]) rfl
          rw [show k + (rd.length + 9) = k + 9 + dl by have := HDL.out; omega] at this
          exact this)
        clear hs hd2 HBAD HNX HR3
        have w0 := W0.out
        have w1 := W1.out
        have w2 := W2.out
        have w3 := W3.out
        go_quiet (fail)
        clear w0 w1 w2 w3 W0 W1 W2 W3
        go_upto_region 16 with fail
        have HRz := Lib.hid (HRx.below (bdrewN (Below.refl _ wr) nq))
        have HBz := Lib.hid (bdrewN HB.out nq)
        clear HRx HB x0 x1 hc0 hc1 HOD HBD FIN hbase
        generalize wr.drewN nq = wz at *
        have hbase := HBz.out.size
        have hba : Below wz.heap.size wz (wz.alloc (.cells #[.slice Ak mk ck] 37)) := (Below.refl _ wz).alloc (Nat.le_refl _) _
        have hra := HRz.out.below hba
        obtain ⟨ys, hyo, hyx⟩ := hra.outs
        rw [← HMO.out] at hyo
        have HYO := Lib.hid hyo
        have HYX := Lib.hid hyx
        have HRA := Lib.hid hra
        have HBa := Lib.hid (HBz.out.trans (hba.mono hbase))
        have HSZ : Hid (w.heap.size ≤ (wz.alloc (.cells #[.slice Ak mk ck] 37)).heap.size) := Lib.hid HBa.out.size
        clear hba hra hyo hyx HRz HBz
        go_wp2_with (at_builtin; refine wpList_append_row _ rfl (.tmp 92) (.tmp 94) _ rfl w.heap.size 37 j0 _ 24 Try.underlying22 hj0 hy0 hy1 hy2 rfl _ mo ys rfl (by exact HYO.out) (wz.heap.size + 1) (some ⟨wz.heap.size, 0, none⟩) 1 1 [.slice Ak mk ck] rfl rfl (by exact app1 hbase) (by intro u hu; simp only [List.mem_singleton] at hu; subst hu; rfl) (by unfold maxLen; omega) (by omega) (by exact HSZ.out) ?_)
        intro v' w2 hown2 hgrow _ hvb
        have HR2 : Hid (RS w2 w.heap.size (.slice (some ⟨g, 0, none⟩) m c0) zs rs v' (.slice none 0 0) (s.1 ++ [s.2], [])) := Lib.hid (by
          have hl := HYO.out.1
          rw [Nat.mul_one] at hl
          exact HRA.out.end_ HYO.out HYX.out (by rw [hl, HMO.out]) hgrow (m := mo + 1) (by rw [HMO.out]) hown2)
        have HB2 := Lib.hid (HBa.out.grown hgrow HSZ.out (fun g hg => (own_row HYO.out hg).1))
        have HO2 : Hid ((s.1 ++ [s.2]).length ≤ i + 1) := Lib.hid (by rw [List.length_append, ← HMO.out]; show mo + 1 ≤ i + 1; omega)
        have HW2 : Hid (k + 9 + dl + weight (rs.drop (i + 1)) ≤ n) := Lib.hid (by have h1 := HWN.out; have h2 := HDL.out; omega)
        clear hown2 hgrow hvb HRA HYO HYX HSZ HBa
        go_wp2_with fail
        go_roundw
        case rel => exact ⟨i + 1, k + 9 + dl, k + 9 + dl, (s.1 ++ [s.2], []), by omega, hkd, hkd, by go_num, by go_num, by go_num, HT, HR2, HB2, Lib.hid (Nat.zero_le _), HO2, HW2⟩
        case measure => simp [intOf]; omega
    · obtain rfl : i = m := by omega
      have hfu := Lib.hid (HF.out.full (by rw [← HM.out]; exact hlt))
      rw [← HMK.out] at hfu
      have hsl := Lib.hid HMO.out
      have hen : Hid (er = 0 ↔ ta = n) := Lib.hid (by rw [HN.out]; exact HEND.out)
      by_cases he : er = 0
      · have hta := hen.out.1 he
        subst hta
        have u1 : ((er : Int) == 0) = true := by rw [beq_iff_eq]; omega
        have u2 : (er : Int) = 0 := by omega
        by_cases h0 : 0 < mk
        · have u3 : (0 : Int) < (mk : Int) := by omega
          rw [if_neg (by omega), if_pos h0] at hfu
          clear he
          go_wp2_with fail
          go_ret3
          exact scan_out hfu.out (by rw [← hsl.out]; exact hl1) hl2 HR3.out HB.out (by rw [← hsl.out]; rfl)
        · have u3 : ¬ (0 : Int) < (mk : Int) := by omega
          rw [if_neg (by omega), if_neg h0] at hfu
          clear he
          go_wp2_with fail
          go_ret3
          exact scan_out hfu.out (by rw [← hsl.out]; exact hl1) hl2 HR3.out HB.out (by rw [← hsl.out]; rfl)
      · have u1 : ((er : Int) == 0) = false := by rw [beq_eq_false_iff_ne]; omega
        have u2 : ¬ (er : Int) = 0 := by omega
        rw [if_pos he] at hfu
        clear he
        go_wp2_with fail
        go_ret3
        exact scan_out hfu.out (by rw [← hsl.out]; exact hl1) hl2 HR3.out HB.out (by rw [← hsl.out]; rfl)
end Go.Proofs.Ytnclbonoenjbeaa.BatW
