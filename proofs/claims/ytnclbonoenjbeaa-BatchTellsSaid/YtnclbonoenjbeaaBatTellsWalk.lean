/-
  The walk of BatchTells.
-/
import Derived.Test.YtnclbonoenjbeaaBatRefCut
import Derived.Test.YtnclbonoenjbeaaBatAwake
namespace Go.Proofs.Ytnclbonoenjbeaa.BatW
set_option linter.unusedVariables false
open Go.RowKit Go.Proofs Go.Proofs.Ytnclbonoenjbeaa Go.Proofs.Ytnclbonoenjbeaa.Wd Go.Proofs.Ytnclbonoenjbeaa.RecW
open Go.Proofs.Ytnclbonoenjbeaa.Bat (B cnt scan put wrong longB)

set_option maxRecDepth 100000 in
set_option maxHeartbeats 8000000 in
theorem tells_walk (A0 A1 A2 : Option Addr) (n0 c0 n1 c1 n2 c2 : Nat) (r : B) (b l : List UInt8) (h0 : n0 = r.length) (h1 : n1 = b.length) (h2 : n2 = l.length) (k0 : n0 ≤ c0) (k1 : n1 ≤ c1) (k2 : n2 ≤ c2) (m0 : c0 ≤ maxLen) (m1 : c1 ≤ maxLen) (m2 : c2 ≤ maxLen)
    (w : World) (hr : BRows w w.heap.size A0 r) (hb : Bytes w w.heap.size A1 b) (hl : Bytes w w.heap.size A2 l) :
    Calls Try.prog 6 #[.slice A0 n0 c0, .slice A1 n1 c1, .slice A2 n2 c2] w fun e w' => e = .returned (.bool true) ∧ Below w.heap.size w w' := by
  have HR : Hid (∀ W, Below w.heap.size w W → BRows W W.heap.size A0 r) := Lib.hid fun W hW => hr.grow hW
  have HBt : Hid (∀ W, Below w.heap.size w W → Bytes W W.heap.size A1 b) := Lib.hid fun W hW => Bytes.grow hb hW
  have HL : Hid (∀ W, Below w.heap.size w W → Bytes W W.heap.size A2 l) := Lib.hid fun W hW => Bytes.grow hl hW
  have H0 := Lib.hid h0
  have H1 := Lib.hid h1
  have H2 := Lib.hid h2
  have HSUM := Lib.hid (bytesof_any A0 n0 c0 r h0 (by omega) w hr)
  have HPUT := Lib.hid (bput_any A0 n0 c0 r h0 (by omega) w hr)
  have hBrefl : Below w.heap.size w w := Below.refl _ _
  clear h0 h1 h2 hr hb hl
  go_enter Try.func6, Try.ntmps6
  by_cases g0 : 2000 < n0
  · have u0 : (2000 : Int) < (n0 : Int) := by omega
    clear g0 HSUM HPUT
    go_wp2_with fail
    refine Calls.mono (awake_any w) ?_
    rintro e w1 ⟨rfl, hb⟩
    go_wp2_with fail
    go_ret
    exact ⟨rfl, hb⟩
  have u0 : ¬ (2000 : Int) < (n0 : Int) := by omega
  go_wp2_with fail
  refine Calls.mono HSUM.out ?_
  rintro e w' ⟨z, rfl, rfl, z1, z2, -⟩
  clear HSUM
  by_cases gz : 9000 < z
  · clear HPUT
    go_wp2_with fail
    refine Calls.mono (awake_any w) ?_
    rintro e w1 ⟨rfl, hb⟩
    go_wp2_with fail
    go_ret
    exact ⟨rfl, hb⟩
  by_cases g1 : 9000 < n1
  · have u1 : (9000 : Int) < (n1 : Int) := by omega
    clear HPUT
    go_wp2_with fail
    refine Calls.mono (awake_any w) ?_
    rintro e w1 ⟨rfl, hb⟩
    go_wp2_with fail
    go_ret
    exact ⟨rfl, hb⟩
  have u1 : ¬ (9000 : Int) < (n1 : Int) := by omega
  by_cases g2 : 20000 < n2
  · have u2 : (20000 : Int) < (n2 : Int) := by omega
    clear HPUT
    go_wp2_with fail
    refine Calls.mono (awake_any w) ?_
    rintro e w1 ⟨rfl, hb⟩
    go_wp2_with fail
    go_ret
    exact ⟨rfl, hb⟩
  have u2 : ¬ (20000 : Int) < (n2 : Int) := by omega
  go_wp2_with fail
  clear gz u0 u1 u2 z1 z2
  obtain ⟨x, hx⟩ : ∃ x, x = wrong r := ⟨_, rfl⟩
  have HX := Lib.hid hx
  clear hx
  refine Calls.mono HPUT.out ?_
  rintro e w1 ⟨P1, d1, rfl, hb1, e1, e2, ho1⟩
  rw [← HX.out]
  have HB1 := Lib.hid hb1
  have HO1 := Lib.hid (own_rd ho1)
  have HP2 := Lib.hid (refbput_any A0 n0 c0 r H0.out (by omega) w1 (HR.out _ hb1))
  have HPL := Lib.hid (Bat.put_length r)
  clear HPUT hb1 ho1
  go_wp2_with fail
  refine Calls.mono HP2.out ?_
  rintro e w2 ⟨P2, d2, rfl, hb2, e3, e4, ho2⟩
  rw [← HX.out]
  have HB2 := Lib.hid (HB1.out.trans (hb2.mono HB1.out.size))
  have HO1b := Lib.hid (Bytes.grow HO1.out hb2)
  have HO2 := Lib.hid (own_rd ho2)
  have HLG := Lib.hid (blong_any A0 n0 c0 r H0.out (by omega) w2 (HR.out _ HB2.out))
  clear HP2 hb2 ho2 HO1 HB1
  go_wp2_with fail
  refine Calls.mono HLG.out ?_
  rintro e w' ⟨rfl, rfl⟩
  rw [← HX.out]
  rw [← HPL.out]
  have HSM := Lib.hid (same_any P1 P2 d1 d2 (put r) (put r) _ _ rfl rfl w2 HO1b.out HO2.out)
  obtain ⟨p, hp⟩ : ∃ p, p = (put r).length := ⟨_, rfl⟩
  rw [← hp] at HSM ⊢
  clear HLG hp
  have u3 : ((put r) == (put r)) = true := beq_self_eq_true _
  rw [u3] at HSM
  clear u3
  go_wp2_with fail
  refine Calls.mono HSM.out ?_
  rintro e w' ⟨rfl, rfl⟩
  have HAN := Lib.hid (anew_any A1 c1 b n1 H1.out (by have := H1.out; omega) w2 (HBt.out _ HB2.out))
  clear HSM HO1b HO2
  go_wp2_with fail
  refine Calls.mono HAN.out ?_
  rintro e w3 ⟨v3, rfl, ho3, hb3⟩
  obtain ⟨A3, c3, rfl, hc3, -, hr3⟩ := own_bytes ho3
  have HB3 := Lib.hid (HB2.out.trans (hb3.mono HB2.out.size))
  have HR3 := Lib.hid hr3
  have HSC := Lib.hid (bscan_any A3 c3 b n1 H1.out hc3 (by omega) w3 hr3)
  clear HAN ho3 hb3 HB2 hr3
  go_wp2_with fail
  refine Calls.mono HSC.out ?_
  rintro e w4 ⟨A4, c4, rfl, hb4, e5, e6, hr4⟩
  have HB4 := Lib.hid (HB3.out.trans (hb4.mono HB3.out.size))
  have HR3b := Lib.hid (Bytes.grow HR3.out hb4)
  have HR4 := Lib.hid hr4
  have HRS := Lib.hid (refscan_any A1 c1 b n1 H1.out k1 (by omega) w4 (HBt.out _ HB4.out))
  clear HSC hb4 HR3 hr4 HB3
  obtain ⟨⟨ll, te, er⟩, hsc⟩ : ∃ s, scan b = s := ⟨_, rfl⟩
  rw [hsc] at e5 HR4 ⊢
  dsimp only at e5 HR4 ⊢
  have HSCN := Lib.hid hsc
  clear hsc
  go_wp2_with fail
  refine Calls.mono HRS.out ?_
  rintro e w5 ⟨A5, c5, rfl, hb5, e7, e8, hr5⟩
  rw [HSCN.out] at e7 hr5 ⊢
  dsimp only at e7 hr5 ⊢
  have HB5 := Lib.hid (HB4.out.trans (hb5.mono HB4.out.size))
  have HR3c := Lib.hid (Bytes.grow HR3b.out hb5)
  have HR4b := Lib.hid (BRows3.grow HR4.out hb5)
  have HSB := samebatches_any A4 A5 c4 c5 ll ll _ _ rfl rfl e5 e7 e6 e8 w5 HR4b.out hr5
  rw [show decide (ll = ll) = true from decide_eq_true rfl] at HSB
  have HSB := Lib.hid HSB
  obtain ⟨q, hq⟩ : ∃ q, q = ll.length := ⟨_, rfl⟩
  rw [← hq] at HSB ⊢
  clear HRS hb5 HR3b HR4 hr5 HR4b HB4 hq e5 e7
  go_wp2_with fail
  refine Calls.mono HSB.out ?_
  rintro e w6 ⟨rfl, hb6⟩
  have HB6 := Lib.hid (HB5.out.trans (hb6.mono HB5.out.size))
  have HSM := same_any A1 A3 c1 c3 b b n1 n1 H1.out H1.out w6 (HBt.out _ HB6.out) (Bytes.grow HR3c.out hb6)
  rw [show (b == b) = true from beq_self_eq_true _] at HSM
  have HSM := Lib.hid HSM
  clear HSB hb6 HR3c HB5
  go_wp2_with fail
  refine Calls.mono HSM.out ?_
  rintro e w' ⟨rfl, rfl⟩
  have HCT := Lib.hid (cut_any A2 c2 l n2 H2.out k2 (by omega) w6 (HL.out _ HB6.out))
  clear HSM
  go_wp2_with fail
  refine Calls.mono HCT.out ?_
  rintro e w7 hcut
  obtain ⟨A7, c7, rfl, hb7, e9, e10, hr7⟩ := hcut.rows
  have HB7 := Lib.hid (HB6.out.trans (hb7.mono HB6.out.size))
  have HR7 := Lib.hid hr7
  have HRC := Lib.hid (refcut_any A2 c2 l n2 H2.out k2 (by omega) m2 w7 (HL.out _ HB7.out))
  clear HCT hb7 hr7 hcut HB6
  obtain ⟨y, hy⟩ : ∃ y, y = (cut l).length := ⟨_, rfl⟩
  have HY := Lib.hid hy
  rw [← hy] at e9 ⊢
  clear hy
  go_wp2_with fail
  refine Calls.mono HRC.out ?_
  rintro e w8 ⟨A8, c8, rfl, hb8, e11, e12, hr8⟩
  rw [← HY.out] at e11 ⊢
  have HB8 := Lib.hid (HB7.out.trans (hb8.mono HB7.out.size))
  have HSR := samerows_any A7 A8 c7 c8 (cut l) (cut l) y y HY.out HY.out e9 e11 e10 e12 w8 (HR7.out.grow hb8) hr8
  rw [show decide (cut l = cut l) = true from decide_eq_true rfl] at HSR
  have HSR := Lib.hid HSR
  clear HRC hb8 HR7 hr8 HB7
  go_wp2_with fail
  refine Calls.mono HSR.out ?_
  rintro e w9 ⟨rfl, hb9⟩
  have HB9 := Lib.hid (HB8.out.trans (hb9.mono HB8.out.size))
  clear HSR hb9 HB8
  go_wp2_with fail
  refine Calls.mono (awake_any w9) ?_
  rintro e w10 ⟨rfl, hb10⟩
  have HB10 := Lib.hid (HB9.out.trans (hb10.mono HB9.out.size))
  clear hb10 HB9
  go_wp2_with fail
  go_ret
  exact ⟨rfl, HB10.out⟩
end Go.Proofs.Ytnclbonoenjbeaa.BatW
