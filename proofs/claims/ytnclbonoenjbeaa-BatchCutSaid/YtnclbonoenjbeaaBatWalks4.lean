/-
  The walk of the reference's Put.
-/
import Derived.Test.YtnclbonoenjbeaaBatWalks3
namespace Go.Proofs.Ytnclbonoenjbeaa.BatW
set_option linter.unusedVariables false
open Go.RowKit Go.Proofs Go.Proofs.Ytnclbonoenjbeaa Go.Proofs.Ytnclbonoenjbeaa.Wd Go.Proofs.Ytnclbonoenjbeaa.RecW
open Go.Proofs.Ytnclbonoenjbeaa.Rec (R flat flat_append flat_one allFine allFine_get putErr longOf four)
open Go.Proofs.Ytnclbonoenjbeaa.Bat (B cnt long wrong recs put rowsLong longB)

theorem four_cnt (n : Nat) : (four n).take 2 = cnt n := rfl
theorem putErr_long {d : List UInt8} (h : 4096 < d.length) : putErr ((1 : UInt8), d) = 31 := by unfold putErr; rw [if_pos (show Rec.fine 1 = true from Bat.fine1), if_neg (show ¬ d.length ≤ 4096 by omega)]
set_option maxRecDepth 100000 in
set_option maxHeartbeats 2000000 in
theorem refbput_any (A : Option Addr) (n c : Nat) (b : B) (hn : n = b.length) (hnc : n ≤ maxLen) (w : World) (hI : BRows w w.heap.size A b) :
    Calls Try.prog 18 #[.slice A n c] w (PutOut w b) := by
  obtain ⟨i0, hi0, hz0, hz1, hz2⟩ := info_parts infoU8
  have HN := Lib.hid hn
  unfold maxLen at hnc
  clear hn
  by_cases hbad : n < 1 ∨ 1024 < n
  · have hw := Lib.hid (show wrong b = 34 by unfold wrong; rw [if_pos (by have := HN.out; omega)])
    have hp := Lib.hid (show put b = [] by unfold put; rw [hw.out]; rfl)
    have fin : ∀ W, W = w → PutOut w b (.returned (.tuple #[.slice none 0 0, .int .i64 34])) W := fun W e => by
      subst e
      refine ⟨none, 0, ?_, Below.refl _ _, ?_, by simp [maxLen], ?_⟩
      · rw [hp.out, hw.out]; rfl
      · rw [hp.out]; exact Nat.le_refl _
      · rw [hp.out]; exact own_nil _ _ _
    have FIN := Lib.hid fin
    clear fin hI
    by_cases h1 : n < 1
    · have u1 : (n : Int) < 1 := by omega
      clear hbad h1
      go_enter Try.func18, Try.ntmps18
      go_wp2_with fail
      go_ret2
      exact FIN.out _ rfl
    · have u1 : ¬ (n : Int) < 1 := by omega
      have u3 : (1024 : Int) < (n : Int) := by omega
      clear hbad h1
      go_enter Try.func18, Try.ntmps18
      go_wp2_with fail
      go_ret2
      exact FIN.out _ rfl
  have u1 : ¬ (n : Int) < 1 := by omega
  have u3 : ¬ (1024 : Int) < (n : Int) := by omega
  have hn1 : n ≤ 1024 := by omega
  have hn0 : 1 ≤ n := by omega
  clear hbad
  go_enter Try.func18, Try.ntmps18
  go_wp2_with fail
  go_loopw [4, 5] (fun v i wr => ∃ (k : Nat) (l : List UInt8), k ≤ n ∧ i = .int .i64 k ∧ Hid (l = flat (rec1 (b.take k))) ∧ Hid ((b.take k).any long = false) ∧ l.length ≤ k * 4105 ∧ wr.ownsRow w.heap.size 5 1 v l.length (bs l) ∧ Below w.heap.size w wr) (fun _ i _ => n - (intOf i).toNat)
  case atStart => exact ⟨0, [], Nat.zero_le _, rfl, Lib.hid rfl, Lib.hid rfl, Nat.le_refl _, own_nil _ _ _, Below.refl _ _⟩
  case round =>
    obtain ⟨k, l, hk, rfl, hT, hLg, hll, ho, hB⟩ := hrel
    by_cases hlt : k < n
    · have hkl : k < b.length := by have := HN.out; omega
      obtain ⟨bb, off, v0, A', c', rfl, hbb, hc, rfl, h1, h2, h3⟩ := hI.lt hkl
      have HE := Lib.hid (rec1_snoc hkl)
      have HA1 := Lib.hid (any_take hkl hLg.out)
      have HA2 := Lib.hid (any_get hkl)
      rw [← hT.out] at HE
      generalize b[k] = d at *
      have hc' := (hB.cell (p := ⟨bb, _, none⟩) hbb).trans hc
      have hd' : Bytes wr wr.heap.size A' d := (Row.below h3 hB).more hB.size
      have i1 : (0 : Int) ≤ (k : Int) := by omega
      have i2 : (k : Int) < (n : Int) := by omega
      have HP := refput_any 1 A' c' d d.length rfl h1 wr hd'
      simp only [BatW.u1] at HP
      clear hc h3 hd' hT
      go_wp2_with fail
      refine Calls.mono HP ?_
      rintro e w1 hw
      obtain ⟨A1, c1, rfl, hb1, h4, h5, ho1⟩ := hw.out
      by_cases hsh : d.length ≤ 4096
      · have E1 := Lib.hid (putL_row hsh)
        rw [E1.out.1] at ho1 h4 ⊢
        rw [E1.out.2]
        have hlen : (Rec.bytes ((1 : UInt8), d)).length = d.length + 9 := Rec.bytes_length _
        have ho' := own_below ho hb1
        have hB1 := hB.trans (hb1.mono hB.size)
        have HT2 := Lib.hid (HA1.out (by unfold long; exact decide_eq_false (by omega)))
        obtain ⟨A2, c2, ee, hr⟩ := own_slice ho1
        cases ee
        generalize Rec.bytes ((1 : UInt8), d) = x at *
        have hxl : x.length ≤ 4105 := by omega
        clear hlen hw HP ho E1 HA1 HA2 hLg
        go_wp2_with (at_builtin; refine wpList_append_row _ rfl (.tmp 35) (.tmp 36) _ rfl w.heap.size 5 i0 _ 1 Try.underlying24 hi0 hz0 hz1 hz2 rfl _ l.length (bs l) rfl ho' w1.heap.size A1 x.length c1 (bs x) rfl (bs_length x).symm (by exact hr) (bs_one x) (by unfold maxLen; omega) (by omega) hB1.size ?_)
        intro v1 w2 hown hgrow _ _
        have hB2 : Below w.heap.size w w2 := hB1.grown hgrow hB1.size (fun g hg => (own_row ho' hg).1)
        have HO : Hid (w2.ownsRow w.heap.size 5 1 v1 (l ++ x).length (bs (l ++ x))) := Lib.hid (by rw [List.length_append, bs_append]; exact hown)
        have HL : Hid ((l ++ x).length ≤ (k + 1) * 4105) := Lib.hid (by rw [List.length_append]; omega)
        have HT : Hid (l ++ x = flat (rec1 (b.take (k + 1)))) := Lib.hid HE.out.symm
        clear hown hgrow ho' hr ho1 HE
        go_wp2_with fail
        go_roundw
        case rel => exact ⟨k + 1, l ++ x, by omega, by go_num, HT, HT2, HL.out, HO.out, hB2⟩
        case measure => simp [intOf]; omega
      · have hw2 := Lib.hid (show wrong b = 31 by unfold wrong; rw [if_neg (by have := HN.out; omega), HA2.out (by unfold long; exact decide_eq_true (by omega))]; rfl)
        have hp := Lib.hid (show put b = [] by unfold put; rw [hw2.out]; rfl)
        have hpe : putErr ((1 : UInt8), d) = 31 := putErr_long (by omega)
        rw [hpe]
        have hB1 := hB.trans (hb1.mono hB.size)
        clear hpe HA1 HA2 hLg HE ho hw HP
        go_wp2_with fail
        go_ret2
        refine ⟨none, 0, ?_, hB1, ?_, by simp [maxLen], ?_⟩
        · rw [hp.out, hw2.out]; rfl
        · rw [hp.out]; exact Nat.le_refl _
        · rw [hp.out]; exact own_nil _ _ _
    · obtain rfl : k = n := by omega
      have HT : Hid (l = flat (rec1 b)) := Lib.hid (by have := hT.out; rwa [List.take_of_length_le (by have := HN.out; omega)] at this)
      have hA : b.any long = false := by have := hLg.out; rwa [List.take_of_length_le (by have := HN.out; omega)] at this
      have H0 := Lib.hid (show wrong b = 0 by unfold wrong; rw [if_neg (by have := HN.out; omega), hA]; rfl)
      have HOK := Lib.hid (put_ok H0.out)
      have HPE := Lib.hid (putL_end b.length)
      rw [← HN.out] at HPE HOK
      rw [← HT.out] at HOK
      have HC := fun W => reffour_any k (by omega) W
      clear hT HT hA hLg
      go_wp2_with fail
      refine Calls.mono (HC _) ?_
      rintro e w1 ⟨v4, rfl, ho4, hb4⟩
      obtain ⟨A4, c4, rfl, h4c, _, hr4⟩ := own_bytes ho4
      have hr2 : Bytes w1 w1.heap.size A4 (cnt k) := hr4.head 2
      have hBa : Below w.heap.size w w1 := hB.trans (hb4.mono hB.size)
      have hoa := own_below ho hb4
      have g1 : (2 : Int) ≤ (c4 : Int) := by omega
      have HP := refput_any 2 A4 c4 (cnt k) 2 rfl (by omega) w1 hr2
      simp only [BatW.u2] at HP
      clear HC ho4 hr4 hr2
      go_wp2_with fail
      refine Calls.mono HP ?_
      rintro e w2 hw
      obtain ⟨A1, c1, rfl, hb1, h4, h5, ho1⟩ := hw.out
      rw [HPE.out.1] at *
      rw [HPE.out.2]
      have hlen : (Rec.bytes ((2 : UInt8), cnt k)).length = 11 := Rec.bytes_length _
      have ho' := own_below hoa hb1
      have hB1 := hBa.trans (hb1.mono hBa.size)
      obtain ⟨A2, c2, ee, hr⟩ := own_slice ho1
      cases ee
      generalize Rec.bytes ((2 : UInt8), cnt k) = x at *
      have hxl : x.length ≤ 4105 := by omega
      clear hlen hw HP ho hoa
      go_wp2_with (at_builtin; refine wpList_append_row _ rfl (.tmp 47) (.tmp 48) _ rfl w.heap.size 5 i0 _ 1 Try.underlying24 hi0 hz0 hz1 hz2 rfl _ l.length (bs l) rfl ho' w2.heap.size A1 x.length c1 (bs x) rfl (bs_length x).symm (by exact hr) (bs_one x) (by unfold maxLen; omega) (by omega) hB1.size ?_)
      intro v1 w3 hown hgrow _ _
      have hB2 : Below w.heap.size w w3 := hB1.grown hgrow hB1.size (fun g hg => (own_row ho' hg).1)
      have HO : Hid (w3.ownsRow w.heap.size 5 1 v1 (l ++ x).length (bs (l ++ x))) := Lib.hid (by rw [List.length_append, bs_append]; exact hown)
      clear hown hgrow ho' hr ho1
      go_wp2_with fail
      go_ret2
      obtain ⟨A3, c3, rfl, h6, _, _⟩ := own_bytes HO.out
      have h7 := own_cap HO.out
      refine ⟨A3, c3, ?_, hB2, ?_, h7, ?_⟩
      · rw [HOK.out, H0.out]; rfl
      · rw [HOK.out]; exact h6
      · rw [HOK.out]; exact HO.out
end Go.Proofs.Ytnclbonoenjbeaa.BatW
