/-
  The walk of the statement RecCut.
-/
import Derived.Test.YtboikajfcmgffaaRecWritten
import Derived.Test.YtboikajfcmgffaaRecPlain5
namespace Go.Proofs.Ytboikajfcmgffaa.RecW
set_option linter.unusedVariables false
open Go.RowKit Go.Proofs Go.Proofs.Ytboikajfcmgffaa Go.Proofs.Ytboikajfcmgffaa.Wd Go.Proofs.Ytboikajfcmgffaa.CrcW
open Go.Proofs.Ytboikajfcmgffaa.Rec (R four number fine takeErr takeEnd takeRec putErr number_lt flat ends allFine weight cutAt)

theorem Recs.base {w : World} {A : Option Addr} {rs : List R} {w' : World} (h : Recs w w.heap.size A rs) (hb : Below w.heap.size w w') : Recs w' w'.heap.size A rs := h.grow hb
theorem bool_case (b : Bool) : (!b) = true ∨ b = true := by cases b <;> simp

set_option maxRecDepth 100000 in
set_option maxHeartbeats 8000000 in
theorem cut_walk (A : Option Addr) (c : Nat) (rs : List R) (hnc : rs.length ≤ c) (hcm : c ≤ maxLen) (hw : weight rs ≤ 100000000000) (cut : Nat) (hcut : cut < 65536) (w : World) (hI : Recs w w.heap.size A rs) :
    Calls Try.prog 3 #[.slice A rs.length c, .int .u16 cut] w fun e w' => e = .returned (.bool true) ∧ Below w.heap.size w w' := by
  unfold maxLen at hcm
  have hmx : ∀ r ∈ rs, r.2.length ≤ 1000000000000 := fun r hr => by
    have : r.2.length + 9 ≤ weight rs := Rec.le_weight hr
    omega
  have HMX := Lib.hid hmx
  clear hmx
  have hwl := Rec.length_le_weight rs
  go_enter Try.func3, Try.ntmps3
  go_wp2_with fail
  refine Calls.mono (written_any A c rs _ rfl hnc (by unfold maxLen; omega) (by omega) w hI) ?_
  rintro e W1 ⟨hB1, hok, hno⟩
  cases hf : allFine rs
  · have := hno hf
    subst this
    clear hok hno hf
    go_wp2_with fail
    refine Calls.mono (awake_any _) ?_
    rintro e w7 ⟨rfl, hB7⟩
    go_wp2
    go_ret
    exact ⟨rfl, hB1.trans (hB7.mono hB1.size)⟩
  obtain ⟨Ab, cb, Ae, ce, rfl, hob, hoe⟩ := hok hf
  have HF := Lib.hid hf
  clear hok hno hf
  have hI1 := hI.grow hB1
  go_wp2_with fail
  refine Calls.mono (short_any A c rs _ rfl hnc (by unfold maxLen; omega) W1 hI1 HMX.out) ?_
  rintro e W2 ⟨rfl, hb2⟩
  have hB2 := hB1.trans (hb2.mono hB1.size)
  have hob2 := own_below hob hb2
  have hoe2 := own_below hoe hb2
  have hI2 := hI1.grow hb2
  clear hob hoe hI1 hB1 hb2
  cases hs : shortB rs
  · go_wp2_with fail
    refine Calls.mono (awake_any _) ?_
    rintro e w7 ⟨rfl, hB7⟩
    go_wp2
    go_ret
    exact ⟨rfl, hB2.trans (hB7.mono hB2.size)⟩
  have hfl := Rec.flat_length rs
  obtain ⟨hb1, _, hb3⟩ := own_bs hob2
  obtain ⟨k, hk⟩ : ∃ k, k = cut % ((flat rs).length + 1) := ⟨_, rfl⟩
  have hkl : k ≤ (flat rs).length := by rw [hk]; have := Nat.mod_lt cut (show 0 < (flat rs).length + 1 by omega); omega
  have hcut2 := Rec.all_cut HF.out hkl
  have hFl : (flat rs).length ≤ 100000000000 := by omega
  have HK := Lib.hid (show ((cut : Int) % (((flat rs).length : Int) + 1)) = (k : Int) by rw [hk]; first | exact (Int.natCast_emod _ _).symm | exact (Int.ofNat_emod _ _).symm | rfl)
  have HC := Lib.hid hcut2.1
  have hcl := hcut2.2
  have HFR := Lib.hid hfl
  clear hcut2 hk hfl hs hwl
  go_wp2_with fail
  rw [HK.out]
  clear HK
  have hel : ∀ j, j < rs.length → (ends 0 rs)[j]? = some (flat (rs.take (j + 1))).length := fun j hj => by
    rw [List.getElem?_eq_getElem (by rw [Rec.ends_length]; exact hj), Rec.ends_get rs j hj]
  have hee : ∀ j, j < rs.length → (ends 0 rs).take (j + 1) = (ends 0 rs).take j ++ [(flat (rs.take (j + 1))).length] := fun j hj => by
    rw [List.take_succ_eq_append_getElem (by rw [Rec.ends_length]; exact hj), Rec.ends_get rs j hj]
  have hle : ∀ j, (flat (rs.take j)).length ≤ 100000000000 := fun j => by rw [Rec.flat_length]; exact Nat.le_trans (Rec.weight_take rs j) hw
  have HEL := Lib.hid hel
  have HEE := Lib.hid hee
  have HLE := Lib.hid hle
  clear hel hee hle
  go_loopw [9, 10, 38] (fun a t i wr => ∃ j : Nat, j ≤ rs.length ∧ i = .int .i64 j ∧ a = .int .i64 ((cutAt k ((ends 0 rs).take j)).1 : Nat) ∧ t = .int .i64 ((cutAt k ((ends 0 rs).take j)).2 : Nat) ∧ RowKit.Hid ((cutAt k ((ends 0 rs).take j)).1 ≤ j) ∧ W2 = wr) (fun _ _ i _ => rs.length - (intOf i).toNat)
  case atStart => exact ⟨0, Nat.zero_le _, rfl, rfl, rfl, Lib.hid (Nat.le_refl _), rfl⟩
  case round =>
    obtain ⟨j, hj, rfl, rfl, rfl, hJ, rfl⟩ := hrel
    by_cases hlt : j < rs.length
    · obtain ⟨g, cap, hv, hgb, hgc, hgm, hO⟩ := Own1.of_own hoe2 (by omega)
      cases hv
      have hjl : j < (ns (ends 0 rs)).length := by rw [ns_length, Rec.ends_length]; exact hlt
      have oc := hO.cell hjl
      rw [ns_get, Rec.ends_get rs j hlt] at oc
      have H1 := Lib.hid (HEE.out j hlt)
      have hbd := HLE.out (j + 1)
      have H2 : Hid (cutAt k ((ends 0 rs).take (j + 1)) = if (flat (rs.take (j + 1))).length ≤ k then ((cutAt k ((ends 0 rs).take j)).1 + 1, (flat (rs.take (j + 1))).length) else cutAt k ((ends 0 rs).take j)) := Lib.hid (by rw [H1.out, Rec.cutAt_snoc])
      clear H1 hO
      generalize (flat (rs.take (j + 1))).length = E at *
      by_cases hE : E ≤ k
      · have hE' : ((E : Int) ≤ (k : Int)) := by omega
        have H3 : Hid (cutAt k ((ends 0 rs).take (j + 1)) = ((cutAt k ((ends 0 rs).take j)).1 + 1, E)) := Lib.hid (by rw [H2.out, if_pos hE])
        clear H2
        have hb := hJ.out
        generalize cutAt k ((ends 0 rs).take j) = p at *
        obtain ⟨p1, p2⟩ := p
        dsimp only at *
        go_wp2_with fail
        go_roundw
        case rel => exact ⟨j + 1, by omega, by go_num, by rw [H3.out]; go_num, by rw [H3.out], Lib.hid (by rw [H3.out]; dsimp only; omega), trivial⟩
        case measure => simp [intOf]; omega
      · have hE' : ¬ ((E : Int) ≤ (k : Int)) := by omega
        have H3 : Hid (cutAt k ((ends 0 rs).take (j + 1)) = cutAt k ((ends 0 rs).take j)) := Lib.hid (by rw [H2.out, if_neg hE])
        clear H2
        have hb := hJ.out
        go_wp2_with fail
        go_roundw
        case rel => exact ⟨j + 1, by omega, by go_num, by rw [H3.out], by rw [H3.out], Lib.hid (by rw [H3.out]; omega), trivial⟩
        case measure => simp [intOf]; omega
    · obtain rfl : j = rs.length := by omega
      have hte : (ends 0 rs).take rs.length = ends 0 rs := List.take_of_length_le (by rw [Rec.ends_length]; omega)
      rw [hte] at hJ ⊢
      clear hte HEE HEL HLE hoe2
      go_wp2_with fail
      obtain ⟨⟨Wn, at_⟩, hp⟩ : ∃ p, p = cutAt k (ends 0 rs) := ⟨_, rfl⟩
      rw [← hp] at hJ hcl ⊢
      have hC2 : Rec.all ((flat rs).take k) = (rs.take Wn, at_, if at_ = k then 0 else 32) := by have := HC.out; rw [← hp] at this; exact this
      have hx : ∃ x, Rec.all ((flat rs).take k) = (rs.take Wn, at_, x) ∧ ((x = 0 ∧ at_ = k) ∨ (x = 32 ∧ at_ ≠ k)) := by
        by_cases he : at_ = k
        · exact ⟨0, by rw [hC2, if_pos he], .inl ⟨rfl, he⟩⟩
        · exact ⟨32, by rw [hC2, if_neg he], .inr ⟨rfl, he⟩⟩
      obtain ⟨x, hC3, hxx⟩ := hx
      have hC := Lib.hid hC3
      dsimp only at hJ hcl ⊢
      clear HC hp hJ hC2 hC3
      have hbk : Bytes W2 W2.heap.size Ab ((flat rs).take k) := hb1.head k
      refine Calls.mono (all_any' Ab cb ((flat rs).take k) k (by rw [List.length_take]; omega) (by rw [List.length_take]; omega) (by rw [List.length_take]; omega) W2 hbk) ?_
      rintro e W3 hw3
      obtain ⟨Ag, cg, rfl, hb3', hg1, hg2, hG⟩ := hw3.out
      rw [hC.out] at hg1 hG ⊢
      dsimp only at hg1 hG ⊢
      have hB3 := hB2.trans (hb3'.mono hB2.size)
      have hI3 := hI2.grow hb3'
      have hIt : Recs W3 W3.heap.size A (rs.take Wn) := hI3.take Wn
      have hlt : (rs.take Wn).length = Wn := by rw [List.length_take]; omega
      have HLT := Lib.hid hlt
      rw [hlt] at hg1 ⊢
      have n1 : (Wn : Int) ≤ (c : Int) := by omega
      clear hw3 hb3' hI3 hI2 hlt hob2 hbk hb1 hC
      rcases hxx with ⟨rfl, rfl⟩ | ⟨rfl, he⟩
      · go_wp2_with fail
        refine Calls.mono (samerecs_any Ag A cg c (rs.take Wn) (rs.take Wn) Wn Wn HLT.out.symm HLT.out.symm hg1 (by omega) hg2 (by unfold maxLen; omega) _ hG hIt) ?_
        rintro e W4 ⟨rfl, hb4⟩
        rw [show decide (rs.take Wn = rs.take Wn) = true by simp]
        have hB4 := hB3.trans (hb4.mono hB3.size)
        clear hG hIt
        go_wp2_with fail
        refine Calls.mono (awake_any _) ?_
        rintro e W7 ⟨rfl, hb7⟩
        go_wp2_with fail
        go_ret
        exact ⟨rfl, hB4.trans (hb7.mono hB4.size)⟩
      · have e1 : ((at_ : Int) == (k : Int)) = false := by rw [beq_eq_false_iff_ne]; omega
        clear he
        go_wp2_with fail
        refine Calls.mono (samerecs_any Ag A cg c (rs.take Wn) (rs.take Wn) Wn Wn HLT.out.symm HLT.out.symm hg1 (by omega) hg2 (by unfold maxLen; omega) _ hG hIt) ?_
        rintro e W4 ⟨rfl, hb4⟩
        rw [show decide (rs.take Wn = rs.take Wn) = true by simp]
        have hB4 := hB3.trans (hb4.mono hB3.size)
        clear hG hIt
        go_wp2_with fail
        refine Calls.mono (awake_any _) ?_
        rintro e W7 ⟨rfl, hb7⟩
        go_wp2_with fail
        go_ret
        exact ⟨rfl, hB4.trans (hb7.mono hB4.size)⟩
end Go.Proofs.Ytboikajfcmgffaa.RecW
