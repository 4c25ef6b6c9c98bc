/-
  The walk of BatchMixed.
-/
import Derived.Test.YtnclbonoenjbeaaBatLongWalk
import Derived.Test.YtnclbonoenjbeaaBatSame
namespace Go.Proofs.Ytnclbonoenjbeaa.BatW
set_option linter.unusedVariables false
open Go.RowKit Go.Proofs Go.Proofs.Ytnclbonoenjbeaa Go.Proofs.Ytnclbonoenjbeaa.Wd Go.Proofs.Ytnclbonoenjbeaa.RecW
open Go.Proofs.Ytnclbonoenjbeaa.Rec (R flat flat_append flat_one putErr)
open Go.Proofs.Ytnclbonoenjbeaa.Bat (B cnt scan put wrong longB rowsLong long)

theorem mixed_scan {r : B} (hr : wrong r = 0) {t : Nat} (ht : t < 65536) (hne : t ≠ r.length) (more : List UInt8) : scan ((flat (rec1 r) ++ Rec.bytes ((2 : UInt8), cnt t)) ++ more) = ([], 0, 34) := by
  obtain ⟨h0, h1, h2⟩ := Bat.wrong_zero hr
  have hf : Rec.allFine (rec1 r ++ [((2 : UInt8), cnt t)]) = true := by
    have := Bat.recs_fine h2
    unfold Rec.allFine Bat.recs at this
    unfold Rec.allFine
    rw [List.all_append, Bool.and_eq_true] at this ⊢
    exact ⟨this.1, by have := (putL_end t).2; simp [this]⟩
  have e : flat (rec1 r) ++ Rec.bytes ((2 : UInt8), cnt t) = flat (rec1 r ++ [((2 : UInt8), cnt t)]) := by rw [flat_append, flat_one]
  rw [e]
  unfold Bat.scan
  rw [Rec.all_flat hf more]
  dsimp only
  rw [List.append_assoc]
  unfold rec1
  rw [Bat.run_rows _ [] 0 _ r [] 0 (by simpa using h1)]
  have hk : Bat.take ([], [] ++ r) ((2 : UInt8), cnt t) = (([], [] ++ r), false, 34) := by
    unfold Bat.take
    rw [if_neg (show ¬ (2 : UInt8) = 1 by decide), if_pos]
    right
    intro e
    exact hne ((Bat.cnt_inj (n := t) (m := r.length) ht (by omega)).1 (by simpa using e))
  simp only [List.cons_append, List.nil_append, Bat.run]
  rw [show ([], r) = (([] : List B), ([] : B) ++ r) from rfl, hk]
  simp
theorem mixed_right {r : B} (h0 : r.length ≠ 0) (h1 : r.length ≤ 20) (h : bytesOf r ≤ 500) : wrong r = 0 := long_right h0 (by omega) (by omega)
theorem same_scan {r : B} (hr : wrong r = 0) (h : B) : scan ((flat (rec1 r) ++ Rec.bytes ((2 : UInt8), cnt r.length)) ++ put h) = (r :: (if wrong h = 0 then [h] else []), (flat (rec1 r)).length + (Rec.bytes ((2 : UInt8), cnt r.length)).length + (put h).length, 0) := by
  rw [← put_ok hr, Bat.scan_put hr]
  have hl : (flat (rec1 r)).length + (Rec.bytes ((2 : UInt8), cnt r.length)).length = (put r).length := by rw [put_ok hr, List.length_append]
  rw [hl]
  by_cases hw : wrong h = 0
  · have := Bat.scan_put hw []
    rw [List.append_nil, Bat.scan_nil] at this
    rw [this, if_pos hw]
    simp
  · have : put h = [] := by unfold put; rw [if_neg hw]
    rw [this, Bat.scan_nil, if_neg hw]
    simp
set_option maxRecDepth 100000 in
set_option maxHeartbeats 8000000 in
theorem mixed_walk (A0 A2 : Option Addr) (n0 c0 n2 c2 t : Nat) (ht : t < 65536) (r h : B) (h0 : n0 = r.length) (h2 : n2 = h.length) (k0 : n0 ≤ c0) (k2 : n2 ≤ c2) (m0 : c0 ≤ maxLen) (m2 : c2 ≤ maxLen) (hfit : ∀ d ∈ r, d.length ≤ 140737488351232)
    (w : World) (hr : BRows w w.heap.size A0 r) (hh : BRows w w.heap.size A2 h) :
    Calls Try.prog 5 #[.slice A0 n0 c0, .int .u16 t, .slice A2 n2 c2] w fun e w' => e = .returned (.bool true) ∧ Below w.heap.size w w' := by
  obtain ⟨i0, hi0, hz0, hz1, hz2⟩ := info_parts infoU8
  obtain ⟨j0, hj0, hy0, hy1, hy2⟩ := info_parts infoSS
  have HR : Hid (∀ W, Below w.heap.size w W → BRows W W.heap.size A0 r) := Lib.hid fun W hW => hr.grow hW
  have HH : Hid (∀ W, Below w.heap.size w W → BRows W W.heap.size A2 h) := Lib.hid fun W hW => hh.grow hW
  have H0 := Lib.hid h0
  have H2 := Lib.hid h2
  have HFIT := Lib.hid hfit
  have HSUM := Lib.hid (bytesof_any A0 n0 c0 r h0 (by omega) w hr)
  have HSUM2 := Lib.hid (bytesof_any A2 n2 c2 h h2 (by omega) w hh)
  clear h0 h2 hr hh hfit
  go_enter Try.func5, Try.ntmps5
  by_cases g0 : n0 = 0
  · have v0 : (n0 : Int) = 0 := by omega
    clear g0 HSUM HSUM2
    go_wp2_with fail
    refine Calls.mono (awake_any w) ?_
    rintro e w1 ⟨rfl, hb⟩
    go_wp2_with fail
    go_ret
    exact ⟨rfl, hb⟩
  have v0 : ¬ (n0 : Int) = 0 := by omega
  have ub : ((n0 : Int) == 0) = false := by rw [beq_eq_false_iff_ne]; exact v0
  by_cases g1 : 20 < n0
  · have v1 : (20 : Int) < (n0 : Int) := by omega
    clear g1 HSUM HSUM2
    go_wp2_with fail
    refine Calls.mono (awake_any w) ?_
    rintro e w1 ⟨rfl, hb⟩
    go_wp2_with fail
    go_ret
    exact ⟨rfl, hb⟩
  have v1 : ¬ (20 : Int) < (n0 : Int) := by omega
  go_wp2_with fail
  refine Calls.mono HSUM.out ?_
  rintro e w' ⟨z, rfl, rfl, z1, z2, hz⟩
  have hz' := hz ⟨by have := H0.out; omega, HFIT.out⟩
  have HZ := Lib.hid hz'
  clear HSUM hz hz'
  by_cases gz : 500 < z
  · clear HSUM2
    go_wp2_with fail
    refine Calls.mono (awake_any w) ?_
    rintro e w1 ⟨rfl, hb⟩
    go_wp2_with fail
    go_ret
    exact ⟨rfl, hb⟩
  go_wp2_with fail
  refine Calls.mono HSUM2.out ?_
  rintro e w' ⟨y, rfl, rfl, y1, y2, -⟩
  clear HSUM2
  by_cases gy : 500 < y
  · go_wp2_with fail
    refine Calls.mono (awake_any w) ?_
    rintro e w1 ⟨rfl, hb⟩
    go_wp2_with fail
    go_ret
    exact ⟨rfl, hb⟩
  have HRT := Lib.hid (mixed_right (r := r) (by have := H0.out; omega) (by have := H0.out; omega) (by have := HZ.out; omega))
  have HSH : Hid (r.any long = false) := Lib.hid (Bat.wrong_zero HRT.out).2.2
  have hn1 : n0 ≤ 20 := by omega
  go_wp2_with fail
  clear gz gy v0 v1 ub z1 z2 y1 y2 HZ
  go_loopw [7, 42] (fun v i wr => ∃ (k : Nat) (l : List UInt8), k ≤ n0 ∧ i = .int .i64 k ∧ Hid (l = flat (rec1 (r.take k))) ∧ l.length ≤ k * 4105 ∧ Hid (wr.ownsRow w.heap.size 5 1 v l.length (bs l)) ∧ Hid (Below w.heap.size w wr)) (fun _ i _ => n0 - (intOf i).toNat)
  case atStart => exact ⟨0, [], Nat.zero_le _, rfl, Lib.hid rfl, Nat.le_refl _, Lib.hid (own_nil _ _ _), Lib.hid (Below.refl _ _)⟩
  case round =>
    obtain ⟨k, l, hk, rfl, hT, hll, HO, HB⟩ := hrel
    by_cases hlt : k < n0
    · have hkl : k < r.length := by have := H0.out; omega
      obtain ⟨bb, off, v0, A', c', rfl, hbb, hc, rfl, q1, q2, q3⟩ := (HR.out _ HB.out).lt hkl
      have hsh := Bat.short_get HSH.out hkl
      have HE := Lib.hid (rec1_snoc hkl)
      rw [← hT.out] at HE
      generalize r[k] = d at *
      have i1 : (0 : Int) ≤ (k : Int) := by omega
      have i2 : (k : Int) < (n0 : Int) := by omega
      have HP := put_any 1 A' c' d d.length rfl wr q3
      simp only [BatW.u1] at HP
      have E1 := Lib.hid (putL_row hsh)
      clear q3 hT
      go_wp2_with fail
      refine Calls.mono HP ?_
      rintro e w1 hw
      obtain ⟨A1, c1, rfl, hb1, h4, h5, ho1⟩ := hw.out
      rw [E1.out.1] at ho1 h4 ⊢
      rw [E1.out.2]
      have hlen : (Rec.bytes ((1 : UInt8), d)).length = d.length + 9 := Rec.bytes_length _
      have HO1 := Lib.hid (own_belowT HO.out hb1)
      have HB1 := Lib.hid (HB.out.trans (hb1.mono HB.out.size))
      have HRD := Lib.hid (own_rd ho1)
      generalize Rec.bytes ((1 : UInt8), d) = x at *
      have hxl : x.length ≤ 4105 := by omega
      clear hlen hw HP HO HB E1 ho1 hb1
      go_wp2_with (at_builtin; refine wpList_append_row _ rfl (.tmp 54) (.tmp 55) _ rfl w.heap.size 5 i0 _ 1 Try.underlying24 hi0 hz0 hz1 hz2 rfl _ l.length (bs l) rfl (by exact HO1.out) w1.heap.size A1 x.length c1 (bs x) rfl (bs_length x).symm (by exact HRD.out) (bs_one x) (by unfold maxLen; omega) (by omega) (by exact HB1.out.size) ?_)
      intro v1 w2 hown hgrow _ _
      have HB2 := Lib.hid (HB1.out.grown hgrow HB1.out.size (fun g hg => (own_row HO1.out hg).1))
      have HO2 : Hid (w2.ownsRow w.heap.size 5 1 v1 (l ++ x).length (bs (l ++ x))) := Lib.hid (by rw [List.length_append, bs_append]; exact hown)
      have HL : Hid ((l ++ x).length ≤ (k + 1) * 4105) := Lib.hid (by rw [List.length_append]; omega)
      have HT : Hid (l ++ x = flat (rec1 (r.take (k + 1)))) := Lib.hid HE.out.symm
      clear hown hgrow HRD HO1 HB1 HE
      go_wp2_with fail
      go_roundw
      case rel => exact ⟨k + 1, l ++ x, by omega, by go_num, HT, HL.out, HO2, HB2⟩
      case measure => simp [intOf]; omega
    · obtain rfl : k = n0 := by omega
      have HT : Hid (l = flat (rec1 r)) := Lib.hid (by have := hT.out; rwa [List.take_of_length_le (by have := H0.out; omega)] at this)
      obtain ⟨Al, cl, hvl⟩ := own_form HO.out
      subst hvl
      have hlc : l.length ≤ cl := own_le HO.out
      have HCN := Lib.hid (cnts t ht)
      have hba : Below wr.heap.size wr (wr.alloc (.cells #[.int .u8 ((t : Int) % 256), .int .u8 ((t : Int) / 256)] 5)) := (Below.refl _ wr).alloc (Nat.le_refl _) _
      have hbc : Bytes (wr.alloc (.cells #[.int .u8 ((t : Int) % 256), .int .u8 ((t : Int) / 256)] 5)) (wr.heap.size + 1) (some ⟨wr.heap.size, 0, none⟩) (cnt t) := Bytes.new_ wr 5 _ (0, 0) (cnt t) (by rw [HCN.out]) rfl (by omega)
      have hsz : (wr.alloc (.cells #[.int .u8 ((t : Int) % 256), .int .u8 ((t : Int) / 256)] 5)).heap.size = wr.heap.size + 1 := by simp
      have HP := put_any 2 (some ⟨wr.heap.size, 0, none⟩) 2 (cnt t) 2 rfl (wr.alloc (.cells #[.int .u8 ((t : Int) % 256), .int .u8 ((t : Int) / 256)] 5)) (by rw [hsz]; exact hbc)
      simp only [BatW.u2] at HP
      have HP := Lib.hid HP
      have HBa := Lib.hid (HB.out.trans (hba.mono HB.out.size))
      have HOa := Lib.hid (own_belowT HO.out hba)
      have HPE := Lib.hid (putL_end t)
      clear hba hbc hsz HO HB hT
      go_wp2_with fail
      refine Calls.mono HP.out ?_
      rintro e w1 hw
      obtain ⟨A1, c1, rfl, hb1, h4, h5, ho1⟩ := hw.out
      rw [HPE.out.1] at ho1 h4 ⊢
      rw [HPE.out.2]
      have hlen : (Rec.bytes ((2 : UInt8), cnt t)).length = 11 := Rec.bytes_length _
      obtain ⟨x, hx⟩ : ∃ x, x = Rec.bytes ((2 : UInt8), cnt t) := ⟨_, rfl⟩
      rw [← hx] at hlen ho1 h4 ⊢
      have HXE := Lib.hid hx
      have HXL := Lib.hid hlen
      have HB1 := Lib.hid (HBa.out.trans (hb1.mono HBa.out.size))
      have HO1 := Lib.hid (own_belowT HOa.out hb1)
      have HX1 := Lib.hid (own_base ho1 HBa.out.size)
      have HPH := Lib.hid (bput_any A2 n2 c2 h H2.out (by omega) w1 (HH.out _ HB1.out))
      have hxl : x.length ≤ 11 := by omega
      clear hw HP HBa HOa HPE hlen hx ho1 hb1
      go_wp2_with fail
      refine Calls.mono HPH.out ?_
      rintro e w2 ⟨A3, c3, rfl, hb3, h6, h7, ho3⟩
      have HB3 := Lib.hid (HB1.out.trans (hb3.mono HB1.out.size))
      have HO3 := Lib.hid (own_belowT HO1.out hb3)
      have HX3 := Lib.hid (own_belowT HX1.out hb3)
      have HAL : Hid (∀ g, (Value.slice Al l.length cl).ownBlock = some g → g < w1.heap.size) := Lib.hid fun g hg => by obtain ⟨_, cs, hb⟩ := own_row HO1.out hg; exact hb.lt
      have HM3 := Lib.hid ho3
      obtain ⟨er, her⟩ : ∃ x, x = wrong h := ⟨_, rfl⟩
      obtain ⟨pm, hpm⟩ : ∃ x, x = put h := ⟨_, rfl⟩
      rw [← her]
      rw [← hpm] at HM3 h6 ⊢
      have HER := Lib.hid her
      have HPM := Lib.hid hpm
      have hpml : pm.length ≤ 5000000 := by
        rw [hpm, Bat.put_length]
        unfold longB
        split
        · obtain ⟨_, a, b⟩ := Bat.wrong_zero (by assumption)
          have := Bat.rowsLong_le b; omega
        · omega
      have hll2 : l.length ≤ 90000 := by omega
      clear HPH hb3 ho3 HB1 HO1 HX1 her hpm
      have main : ∀ (A4 : Option Addr) (c4 : Nat), pm.length ≤ c4 → Bytes w2 w2.heap.size A4 pm → True := fun _ _ _ _ => trivial
      clear main
      by_cases he : er = 0
      · have HMK : Hid (∀ W, w2.grownBy W (Value.slice Al l.length cl).ownBlock → Bytes W W.heap.size A3 pm) := Lib.hid fun W hg => by
          refine own_rd (own_keep HM3.out fun g hg2 => ?_)
          obtain ⟨hlo, cs, hb⟩ := own_row HM3.out hg2
          exact hg.block g hb.lt (fun e => by have := HAL.out g e.symm; omega)
        have HERR : Hid (er = 0) := Lib.hid he
        subst he
        go_wp2_with (at_builtin; refine wpList_append_row _ rfl (.tmp 81) (.tmp 82) _ rfl w.heap.size 5 i0 _ 1 Try.underlying24 hi0 hz0 hz1 hz2 rfl _ l.length (bs l) rfl (by exact HO3.out) w2.heap.size A1 x.length c1 (bs x) rfl (bs_length x).symm (by exact own_rd HX3.out) (bs_one x) (by unfold maxLen; omega) (by omega) (by exact HB3.out.size) ?_)
        intro v4 w4 hown hgrow _ _
        have hb4 : Below w2.heap.size w2 w2 := Below.refl _ _
        have HB4 := Lib.hid (HB3.out.grown hgrow HB3.out.size (fun g hg => (own_row HO3.out hg).1))
        have HO4 : Hid (w4.ownsRow w.heap.size 5 1 v4 (l.length + x.length) (bs (l ++ x))) := Lib.hid (by rw [bs_append]; exact hown)
        have hM4 : Bytes w4 w4.heap.size A3 pm := HMK.out w4 hgrow
        have HM4 := Lib.hid hM4
        clear hM4
        clear hown hgrow hb4
        go_wp2_with (at_builtin; refine wpList_append_row _ rfl (.tmp 83) (.tmp 84) _ rfl w.heap.size 5 i0 _ 1 Try.underlying24 hi0 hz0 hz1 hz2 rfl _ (l.length + x.length) (bs (l ++ x)) rfl (by exact HO4.out) w4.heap.size A3 pm.length c3 (bs pm) rfl (bs_length _).symm (by exact HM4.out) (bs_one _) (by unfold maxLen; omega) (by omega) (by exact HB4.out.size) ?_)
        intro v5 w5 hown hgrow _ _
        have HB5 := Lib.hid (HB4.out.grown hgrow HB4.out.size (fun g hg => (own_row HO4.out hg).1))
        rw [← bs_append] at hown
        obtain ⟨A5, c5, rfl⟩ := own_form hown
        have hle5 := own_le hown
        have HTX := Lib.hid (own_rd hown)
        have HSC := Lib.hid (bscan_any A5 c5 ((l ++ x) ++ pm) (l.length + x.length + pm.length) (by rw [List.length_append, List.length_append]) hle5 (by omega) w5 HTX.out)
        clear hown hgrow HO4 HM4 HB4 hle5
        go_wp2_with fail
        refine Calls.mono HSC.out ?_
        rintro e w6 ⟨A6, c6, rfl, hb6, e5, e6, hr6⟩
        have HB6 := Lib.hid (HB5.out.trans (hb6.mono HB5.out.size))
        have HR6 := Lib.hid hr6
        clear HSC hb6 hr6 HB5 HTX
        by_cases htn : t = k
        rotate_left
        · have HS : Hid (scan ((l ++ x) ++ pm) = ([], 0, 34)) := Lib.hid (by rw [HT.out, HXE.out]; exact mixed_scan HRT.out ht (by rw [← H0.out]; exact htn) _)
          rw [HS.out]
          have u9 : ((t : Int) != (k : Int)) = true := by rw [bne_iff_ne]; omega
          clear htn e5
          go_wp2_with fail
          refine Calls.mono (awake_any w6) ?_
          rintro e w9 ⟨rfl, hb9⟩
          have HB9 := Lib.hid (HB6.out.trans (hb9.mono HB6.out.size))
          clear hb9
          go_wp2_with fail
          go_ret
          exact ⟨rfl, HB9.out⟩
        subst htn
        have HS : Hid (scan ((l ++ x) ++ pm) = (r :: [h], l.length + x.length + pm.length, 0)) := Lib.hid (by
          have := same_scan HRT.out h
          rw [← H0.out, ← HXE.out, ← HT.out, ← HPM.out] at this
          rw [this, if_pos (by rw [← HER.out])])
        rw [HS.out] at e5 HR6 ⊢
        dsimp only at e5 HR6 ⊢
        have hba : Below w6.heap.size w6 (w6.alloc (.cells #[.slice A0 t c0] 37)) := (Below.refl _ w6).alloc (Nat.le_refl _) _
        have q7 := Blk.new_ w6 37 #[.slice A0 t c0] rfl
        have ho7 : (w6.alloc (.cells #[.slice A0 t c0] 37)).ownsRow w6.heap.size 37 1 (.slice (some ⟨w6.heap.size, 0, none⟩) 1 1) 1 [.slice A0 t c0] := q7.own (Nat.le_refl _) 1 (Nat.le_refl _) (by simp [maxLen])
        have hbb2 : Below (w6.heap.size + 1) (w6.alloc (.cells #[.slice A0 t c0] 37)) ((w6.alloc (.cells #[.slice A0 t c0] 37)).alloc (.cells #[.slice A2 n2 c2] 37)) := (Below.refl _ _).alloc (by simp) _
        have hs7 : (w6.alloc (.cells #[.slice A0 t c0] 37)).heap.size = w6.heap.size + 1 := by simp
        have HO8 := Lib.hid (own_belowT ho7 (by rw [hs7]; exact hbb2))
        have HB8 := Lib.hid (hba.trans (hbb2.mono (by omega)))
        have HRW : Hid (Row ((w6.alloc (.cells #[.slice A0 t c0] 37)).alloc (.cells #[.slice A2 n2 c2] 37)) (w6.heap.size + 2) (some ⟨w6.heap.size + 1, 0, none⟩) [.slice A2 n2 c2]) := Lib.hid (by
          have := app1 (w := w6.alloc (.cells #[.slice A0 t c0] 37)) (t := 37) (v := .slice A2 n2 c2) (Nat.le_refl _)
          rw [hs7] at this
          exact this)
        clear hba q7 ho7 hbb2 hs7
        go_wp2_with (at_builtin; refine wpList_append_row _ rfl (.tmp 113) (.tmp 115) _ rfl w6.heap.size 37 j0 _ 24 Try.underlying22 hj0 hy0 hy1 hy2 rfl _ 1 [.slice A0 t c0] rfl (by exact HO8.out) (w6.heap.size + 2) (some ⟨w6.heap.size + 1, 0, none⟩) 1 1 [.slice A2 n2 c2] rfl rfl (by exact HRW.out) (by intro u hu; simp only [List.mem_singleton] at hu; subst hu; rfl) (by unfold maxLen; omega) (by omega) (by exact HB8.out.size) ?_)
        intro v9 w9 hown hgrow _ _
        have HB9 := Lib.hid (HB8.out.grown hgrow HB8.out.size (fun g hg => (own_row HO8.out hg).1))
        have HBF := Lib.hid (HB6.out.trans (HB9.out.mono HB6.out.size))
        obtain ⟨A9, c9, rfl, hr9⟩ := own_slice hown
        have hc9 := own_le hown
        have hm9 := RecW.own_cap hown
        have hw9 : Reads3 w9 w9.heap.size ([.slice A0 t c0] ++ [.slice A2 n2 c2]) [r, h] := (Reads3.one ⟨A0, c0, by rw [H0.out], by rw [← H0.out]; exact k0, m0, HR.out _ HBF.out⟩).append (Reads3.one ⟨A2, c2, by rw [H2.out], by rw [← H2.out]; exact k2, m2, HH.out _ HBF.out⟩)
        have HSB := samebatches_any A6 A9 c6 c9 [r, h] [r, h] 2 2 rfl rfl e5 hc9 e6 hm9 w9 (HR6.out.grow HB9.out) (BRows3.of_row hr9 hw9)
        rw [show decide (([r, h] : List B) = [r, h]) = true from decide_eq_true rfl] at HSB
        have HSB := Lib.hid HSB
        clear hown hgrow HB8 HB9 HO8 HRW hr9 hw9 hc9 hm9
        go_wp2_with fail
        refine Calls.mono HSB.out ?_
        rintro e w10 ⟨rfl, hb10⟩
        have HB10 := Lib.hid (HBF.out.trans (hb10.mono HBF.out.size))
        clear HSB hb10 HBF
        go_wp2_with fail
        refine Calls.mono (awake_any w10) ?_
        rintro e w11 ⟨rfl, hb11⟩
        have HB11 := Lib.hid (HB10.out.trans (hb11.mono HB10.out.size))
        clear hb11
        go_wp2_with fail
        go_ret
        exact ⟨rfl, HB11.out⟩

      · have hnil : pm = [] := by rw [HPM.out]; unfold put; rw [if_neg (by rw [← HER.out]; exact he)]
        subst hnil
        have HERR : Hid (er ≠ 0) := Lib.hid he
        have uer : ((er : Int) != 0) = true := by rw [bne_iff_ne]; omega
        have uer2 : ¬ (er : Int) = 0 := by omega
        have uer3 : ((er : Int) == 0) = false := by rw [beq_eq_false_iff_ne]; exact uer2
        clear he
        go_wp2_with (at_builtin; refine wpList_append_row _ rfl (.tmp 81) (.tmp 82) _ rfl w.heap.size 5 i0 _ 1 Try.underlying24 hi0 hz0 hz1 hz2 rfl _ l.length (bs l) rfl (by exact HO3.out) w2.heap.size A1 x.length c1 (bs x) rfl (bs_length x).symm (by exact own_rd HX3.out) (bs_one x) (by unfold maxLen; omega) (by omega) (by exact HB3.out.size) ?_)
        intro v4 w4 hown hgrow _ _
        have hb4 : Below w2.heap.size w2 w2 := Below.refl _ _
        have HB4 := Lib.hid (HB3.out.grown hgrow HB3.out.size (fun g hg => (own_row HO3.out hg).1))
        have HO4 : Hid (w4.ownsRow w.heap.size 5 1 v4 (l.length + x.length) (bs (l ++ x))) := Lib.hid (by rw [bs_append]; exact hown)
        have HM4 : Hid (Bytes w4 w4.heap.size none []) := Lib.hid Row.nil
        clear hown hgrow hb4
        go_wp2_with (at_builtin; refine wpList_append_row _ rfl (.tmp 83) (.tmp 84) _ rfl w.heap.size 5 i0 _ 1 Try.underlying24 hi0 hz0 hz1 hz2 rfl _ (l.length + x.length) (bs (l ++ x)) rfl (by exact HO4.out) w4.heap.size none 0 0 (bs ([] : List UInt8)) rfl rfl (by exact HM4.out) (bs_one _) (by unfold maxLen; omega) (by omega) (by exact HB4.out.size) ?_)
        intro v5 w5 hown hgrow _ _
        have HB5 := Lib.hid (HB4.out.grown hgrow HB4.out.size (fun g hg => (own_row HO4.out hg).1))
        rw [← bs_append] at hown
        obtain ⟨A5, c5, rfl⟩ := own_form hown
        have hle5 := own_le hown
        have HTX := Lib.hid (own_rd hown)
        have HSC := Lib.hid (bscan_any A5 c5 ((l ++ x) ++ ([] : List UInt8)) (l.length + x.length + 0) (by rw [List.length_append, List.length_append]; rfl) hle5 (by omega) w5 HTX.out)
        clear hown hgrow HO4 HM4 HB4 hle5
        go_wp2_with fail
        refine Calls.mono HSC.out ?_
        rintro e w6 ⟨A6, c6, rfl, hb6, e5, e6, hr6⟩
        have HB6 := Lib.hid (HB5.out.trans (hb6.mono HB5.out.size))
        have HR6 := Lib.hid hr6
        clear HSC hb6 hr6 HB5 HTX
        by_cases htn : t = k
        rotate_left
        · have HS : Hid (scan ((l ++ x) ++ ([] : List UInt8)) = ([], 0, 34)) := Lib.hid (by rw [HT.out, HXE.out]; exact mixed_scan HRT.out ht (by rw [← H0.out]; exact htn) _)
          rw [HS.out]
          have u9 : ((t : Int) != (k : Int)) = true := by rw [bne_iff_ne]; omega
          clear htn e5
          go_wp2_with fail
          refine Calls.mono (awake_any w6) ?_
          rintro e w9 ⟨rfl, hb9⟩
          have HB9 := Lib.hid (HB6.out.trans (hb9.mono HB6.out.size))
          clear hb9
          go_wp2_with fail
          go_ret
          exact ⟨rfl, HB9.out⟩
        subst htn
        have HS : Hid (scan ((l ++ x) ++ ([] : List UInt8)) = (r :: [], l.length + x.length + 0, 0)) := Lib.hid (by
          have := same_scan HRT.out h
          rw [← H0.out, ← HXE.out, ← HT.out, ← HPM.out] at this
          rw [this, if_neg (by rw [← HER.out]; exact HERR.out)]; rfl)
        rw [HS.out] at e5 HR6 ⊢
        dsimp only at e5 HR6 ⊢
        have hba : Below w6.heap.size w6 (w6.alloc (.cells #[.slice A0 t c0] 37)) := (Below.refl _ w6).alloc (Nat.le_refl _) _
        have q7 := Blk.new_ w6 37 #[.slice A0 t c0] rfl
        have HBF := Lib.hid (HB6.out.trans (hba.mono HB6.out.size))
        have HSB := samebatches_any A6 (some ⟨w6.heap.size, 0, none⟩) c6 1 [r] [r] 1 1 rfl rfl e5 (Nat.le_refl _) e6 (by simp [maxLen]) (w6.alloc (.cells #[.slice A0 t c0] 37)) (HR6.out.grow hba)
          (BRows3.of_row (Row.blk q7 q7.lt) (Reads3.one ⟨A0, c0, by rw [H0.out], by rw [← H0.out]; exact k0, m0, HR.out _ HBF.out⟩))
        rw [show decide (([r] : List B) = [r]) = true from decide_eq_true rfl] at HSB
        have HSB := Lib.hid HSB
        clear hba q7
        go_wp2_with fail
        refine Calls.mono HSB.out ?_
        rintro e w10 ⟨rfl, hb10⟩
        have HB10 := Lib.hid (HBF.out.trans (hb10.mono HBF.out.size))
        clear HSB hb10 HBF
        go_wp2_with fail
        refine Calls.mono (awake_any w10) ?_
        rintro e w11 ⟨rfl, hb11⟩
        have HB11 := Lib.hid (HB10.out.trans (hb11.mono HB10.out.size))
        clear hb11
        go_wp2_with fail
        go_ret
        exact ⟨rfl, HB11.out⟩

end Go.Proofs.Ytnclbonoenjbeaa.BatW
