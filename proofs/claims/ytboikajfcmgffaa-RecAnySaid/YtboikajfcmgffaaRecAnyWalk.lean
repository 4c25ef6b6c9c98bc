/-
  The walk of the statement RecAny.
-/
import Derived.Test.YtboikajfcmgffaaRecWritten
namespace Go.Proofs.Ytboikajfcmgffaa.RecW
set_option linter.unusedVariables false
open Go.RowKit Go.Proofs Go.Proofs.Ytboikajfcmgffaa Go.Proofs.Ytboikajfcmgffaa.Wd Go.Proofs.Ytboikajfcmgffaa.CrcW
open Go.Proofs.Ytboikajfcmgffaa.Rec (R four number fine takeErr takeEnd takeRec putErr number_lt flat ends allFine weight)

set_option maxRecDepth 100000 in
set_option maxHeartbeats 8000000 in
theorem any_walk (A : Option Addr) (c : Nat) (b : List UInt8) (hbc : b.length ≤ c) (hcm : c ≤ maxLen) (Ao : Option Addr) (co : Nat) (o : List UInt8) (hoc : o.length ≤ co) (hom : co ≤ maxLen) (w : World)
    (hI : Bytes w w.heap.size A b) (hJ : Bytes w w.heap.size Ao o) :
    Calls Try.prog 5 #[.slice A b.length c, .slice Ao o.length co] w fun e w' => e = .returned (.bool true) ∧ Below w.heap.size w w' := by
  unfold maxLen at hcm hom
  by_cases h1 : 5000 < b.length
  · have h1' : decide ((5000 : Int) < (b.length : Int)) = true := by simp; omega
    go_enter Try.func5, Try.ntmps5
    go_wp2_with fail
    refine Calls.mono (awake_any _) ?_
    rintro e w7 ⟨rfl, hB7⟩
    go_wp2
    go_ret
    exact ⟨rfl, hB7⟩
  have h1' : decide ((5000 : Int) < (b.length : Int)) = false := by simp; omega
  by_cases h2 : 5000 < o.length
  · have h2' : decide ((5000 : Int) < (o.length : Int)) = true := by simp; omega
    go_enter Try.func5, Try.ntmps5
    go_wp2_with fail
    refine Calls.mono (awake_any _) ?_
    rintro e w7 ⟨rfl, hB7⟩
    go_wp2
    go_ret
    exact ⟨rfl, hB7⟩
  have h2' : decide ((5000 : Int) < (o.length : Int)) = false := by simp; omega
  obtain ⟨i0, hi0, hz0, hz1, hz2⟩ := info_parts infoU8
  obtain ⟨pf, pl, pn, pe⟩ := Rec.all_any_bytes b.length b (Nat.le_refl _)
  obtain ⟨rs, hrs⟩ : ∃ rs, rs = (Rec.all b).1 := ⟨_, rfl⟩
  obtain ⟨n, hn⟩ : ∃ n, n = (Rec.all b).2.1 := ⟨_, rfl⟩
  obtain ⟨x, hx⟩ : ∃ x, x = (Rec.all b).2.2 := ⟨_, rfl⟩
  have HALL := Lib.hid (show Rec.all b = (rs, n, x) by rw [hrs, hn, hx])
  rw [← hrs] at pf pl
  rw [← hn] at pl pn pe
  rw [← hx] at pe
  have hwt : weight rs = n := by rw [← Rec.flat_length, pl, List.length_take]; omega
  have hwl := Rec.length_le_weight rs
  have hall2 := Rec.all_flat pf o
  rw [pl] at hall2
  have hrl : rs.length ≤ 5000 := by omega
  have hfl : (flat rs).length = n := by rw [Rec.flat_length, hwt]
  have HF := Lib.hid pf
  have HL := Lib.hid pl
  have HA2 := Lib.hid hall2
  have HW := Lib.hid hwt
  have HFL := Lib.hid hfl
  have hxn : ((x : Int) == 0) = ((n : Int) == (b.length : Int)) := by
    rw [Bool.eq_iff_iff, beq_iff_eq, beq_iff_eq]; omega
  have HX := Lib.hid hxn
  have hn0 : (n : Int) ≤ (c : Int) := by omega
  clear hrs hn hx pf pl pe hwt hwl hall2 hfl hxn
  go_enter Try.func5, Try.ntmps5
  go_wp2_with fail
  refine Calls.mono (all_any A c b hbc (by omega) w hI) ?_
  rintro e W1 hw
  obtain ⟨Al, cl, rfl, hB1, hl1, hl2, hL⟩ := hw.out
  rw [HALL.out] at hl1 hL ⊢
  dsimp only at hl1 hL ⊢
  clear hw
  go_wp2_with fail
  refine Calls.mono (written_any Al cl rs _ rfl hl1 hl2 (by rw [HW.out]; omega) W1 hL) ?_
  rintro e W2 ⟨hb2, hok, _⟩
  obtain ⟨Ac, cc, Ae, ce, rfl, hoc2, hoe⟩ := hok HF.out
  have hB2 := hB1.trans (hb2.mono hB1.size)
  have hL2 := hL.grow hb2
  have hC2 := (own_bs hoc2).1
  rw [HFL.out] at hoc2 ⊢
  clear hok hb2 hL hB1 hoe hoc2
  have hP2 := ((Row.below hI hB2).more hB2.size)
  have hPn : Bytes W2 W2.heap.size A (b.take n) := Bytes.head hP2 n
  have n1 : decide ((n : Int) < 0) = false := by simp
  have n2 : decide ((b.length : Int) < (n : Int)) = false := by simp; omega
  unfold maxLen at hl2
  go_wp2_with fail
  refine Calls.mono (same_any Ac A cc c (flat rs) (b.take n) _ _ HFL.out.symm (by rw [List.length_take]; omega) _ hC2 hPn) ?_
  rintro e w' ⟨rfl, rfl⟩
  rw [show (flat rs == b.take n) = true by rw [HL.out]; simp]
  obtain ⟨bx, hbx⟩ : ∃ bx, bx = ((n : Int) == (b.length : Int)) := ⟨_, rfl⟩
  have e1 : ((x : Int) == 0) = bx := by rw [hbx]; exact HX.out
  have e2 : ((n : Int) == (b.length : Int)) = bx := hbx.symm
  clear hbx
  have hbb : (bx != bx) = false := by simp
  clear hC2
  go_wp2_with fail
  refine Calls.mono (anew_any A c (b.take n) _ (by rw [List.length_take]; omega) (by rw [List.length_take]; omega) W2 hPn) ?_
  rintro e W3 ⟨v3, rfl, ho3, hb3⟩
  have hJ3 := (Row.below hJ (hB2.trans (hb3.mono hB2.size))).more (hB2.trans (hb3.mono hB2.size)).size
  go_wp2_with (at_builtin; refine wpList_append_row _ rfl (.tmp 75) (.tmp 76) _ rfl W2.heap.size 5 i0 _ 1 Try.underlying24 hi0 hz0 hz1 hz2 rfl _ n _ rfl ho3 W3.heap.size Ao o.length co (bs o) rfl (bs_length o).symm hJ3 (bs_one _) (by unfold maxLen; omega) (by omega) hb3.size ?_)
  intro v4 W4 ho4 hgrow _ _
  have hb4 := hb3.grown hgrow hb3.size (fun j hj => (own_row ho3 hj).1)
  have hB4 := hB2.trans (hb4.mono hB2.size)
  have hL4 := hL2.grow hb4
  rw [← bs_append] at ho4
  obtain ⟨A4, c4, rfl, hc4, e4, hd4⟩ := own_bytes ho4
  have HLM := Lib.hid e4
  clear e4 hgrow ho4 ho3 hb3 hb4 hJ3 hP2 hPn hL2 hB2
  go_wp2_with fail
  refine Calls.mono (all_any' A4 c4 (b.take n ++ o) _ HLM.out (by rw [← HLM.out]; exact hc4) (by rw [← HLM.out]; omega) W4 hd4) ?_
  rintro e W5 hw
  obtain ⟨Am, cm, rfl, hb5, hm1, hm2, hM⟩ := hw.out
  rw [HA2.out] at hm1 hM ⊢
  dsimp only at hm1 hM ⊢
  generalize (Rec.all o).1 = more at *
  have hB5 := hB4.trans (hb5.mono hB4.size)
  have hL5 := hL4.grow hb5
  have hMt : Recs W5 W5.heap.size Am ((rs ++ more).take rs.length) := hM.take _
  rw [List.take_left] at hMt
  have hlm : (rs ++ more).length = rs.length + more.length := List.length_append
  have hmc : rs.length + more.length ≤ cm := by rw [← hlm]; exact hm1
  unfold maxLen at hm2
  rw [hlm]
  have m1 : decide ((rs.length : Int) ≤ ((rs.length + more.length : Nat) : Int)) = true := by simp; omega
  have m2 : (rs.length : Int) ≤ (cm : Int) := by omega
  rw [Int.natCast_add] at m1
  clear hw hb5 hL4 hd4 hB4 hM hlm hm1
  go_wp2_with fail
  refine Calls.mono (samerecs_any Am Al cm cl rs rs _ _ rfl rfl (by omega) hl1 (by unfold maxLen; omega) (by unfold maxLen; omega) _ hMt hL5) ?_
  rintro e W6 ⟨rfl, hb6⟩
  rw [show decide (rs = rs) = true by simp]
  have hB6 := hB5.trans (hb6.mono hB5.size)
  clear hMt hL5
  go_wp2_with fail
  refine Calls.mono (awake_any _) ?_
  rintro e W7 ⟨rfl, hb7⟩
  go_wp2_with fail
  go_ret
  exact ⟨rfl, hB6.trans (hb7.mono hB6.size)⟩
end Go.Proofs.Ytboikajfcmgffaa.RecW
