/-
  The walk of the statement RecTurned.
-/
import Derived.Test.YtboikajfcmgffaaRecWritten
import Derived.Test.YtboikajfcmgffaaRecPlain6
namespace Go.Proofs.Ytboikajfcmgffaa.RecW
set_option linter.unusedVariables false
open Go.RowKit Go.Proofs Go.Proofs.Ytboikajfcmgffaa Go.Proofs.Ytboikajfcmgffaa.Wd Go.Proofs.Ytboikajfcmgffaa.CrcW
open Go.Proofs.Ytboikajfcmgffaa.Rec (R four number fine takeErr takeEnd takeRec putErr number_lt flat ends allFine weight cutAt)
open Go.Proofs.Ytboikajfcmgffaa.Crc (turn)

set_option maxRecDepth 100000 in
set_option maxHeartbeats 8000000 in
theorem turned_walk (A : Option Addr) (c : Nat) (rs : List R) (hnc : rs.length ≤ c) (hcm : c ≤ maxLen) (hw : weight rs ≤ 100000000000) (at_ : Nat) (hat : at_ < 65536) (bit : Nat) (hbit : bit < 256) (w : World) (hI : Recs w w.heap.size A rs) :
    Calls Try.prog 4 #[.slice A rs.length c, .int .u16 at_, .int .u8 bit] w fun e w' => e = .returned (.bool true) ∧ Below w.heap.size w w' := by
  unfold maxLen at hcm
  have hmx : ∀ r ∈ rs, r.2.length ≤ 1000000000000 := fun r hr => by
    have : r.2.length + 9 ≤ weight rs := Rec.le_weight hr
    omega
  have HMX := Lib.hid hmx
  clear hmx
  have hwl := Rec.length_le_weight rs
  go_enter Try.func4, Try.ntmps4
  go_wp2_with fail
  refine Calls.mono (written_any A c rs _ rfl hnc (by unfold maxLen; omega) (by omega) w hI) ?_
  rintro e W1 ⟨hB1, hok, hno⟩
  cases hf : allFine rs
  · have := hno hf
    subst this
    clear hok hno hf
    go_wp2_with fail
    refine Calls.mono (awake_any _) ?_
    rintro e w7 ⟨rfl, hB7⟩
    go_wp2
    go_ret
    exact ⟨rfl, hB1.trans (hB7.mono hB1.size)⟩
  obtain ⟨Ab, cb, Ae, ce, rfl, hob, hoe⟩ := hok hf
  have HF := Lib.hid hf
  clear hok hno hf
  have hI1 := hI.grow hB1
  go_wp2_with fail
  refine Calls.mono (short_any A c rs _ rfl hnc (by unfold maxLen; omega) W1 hI1 HMX.out) ?_
  rintro e W2 ⟨rfl, hb2⟩
  have hB2 := hB1.trans (hb2.mono hB1.size)
  have hob2 := own_below hob hb2
  have hoe2 := own_below hoe hb2
  have hI2 := hI1.grow hb2
  clear hob hoe hI1 hB1 hb2
  cases hs : shortB rs
  · go_wp2_with fail
    refine Calls.mono (awake_any _) ?_
    rintro e w7 ⟨rfl, hB7⟩
    go_wp2
    go_ret
    exact ⟨rfl, hB2.trans (hB7.mono hB2.size)⟩
  by_cases hr0 : rs.length = 0
  · have e0 : (((rs.length : Nat) : Int) == 0) = true := by rw [hr0]; rfl
    go_wp2_with fail
    refine Calls.mono (awake_any _) ?_
    rintro e w7 ⟨rfl, hB7⟩
    go_wp2
    go_ret
    exact ⟨rfl, hB2.trans (hB7.mono hB2.size)⟩
  have e0 : (((rs.length : Nat) : Int) == 0) = false := by rw [beq_eq_false_iff_ne]; omega
  have hfl := Rec.flat_length rs
  have hrb : rs.length ≤ 100000000000 := by omega
  obtain ⟨hb1, _, hb3⟩ := own_bs hob2
  obtain ⟨k, hk⟩ : ∃ k, k = at_ % (flat rs).length := ⟨_, rfl⟩
  have hF9 : 9 ≤ (flat rs).length := by omega
  have hkl : k < (flat rs).length := by rw [hk]; exact Nat.mod_lt _ (by omega)
  obtain ⟨r, hr⟩ : ∃ r, r = bit % 8 := ⟨_, rfl⟩
  have hrl : r < 8 := by omega
  have hFl : (flat rs).length ≤ 100000000000 := by omega
  have HK := Lib.hid (show ((at_ : Int) % ((flat rs).length : Int)) = (k : Int) by rw [hk]; first | exact (Int.natCast_emod _ _).symm | exact (Int.ofNat_emod _ _).symm | rfl)
  have hre : (bit : Int) % 8 = (r : Int) := by omega
  have e9 : decide (((flat rs).length : Int) < 9) = false := by simp; omega
  clear hk hfl hs hwl hr
  obtain ⟨g, cap, hv, hgb, hgc, hgm, hO⟩ := Own1.of_own hob2 (by omega)
  cases hv
  have hjl : k < (bs (flat rs)).length := by rw [bs_length]; exact hkl
  have oc := hO.cell hjl
  rw [bs_get] at oc
  have of := hO.frozen k
  unfold maxLen at hgm
  have hHK := HK.out
  go_wp2_with fail
  rw [HK.out]
  clear hHK HK
  have hp2 : 2 ^ r < 256 := Nat.lt_of_lt_of_le (Nat.pow_lt_pow_right (by omega) hrl) (by decide)
  have hpw : ((2 : Int) ^ r % 256) = ((2 ^ r : Nat) : Int) := by
    rw [← (show ((2 ^ r : Nat) : Int) = (2 : Int) ^ r by norm_cast)]
    exact (show ∀ x : Nat, x < 256 → ((x : Int) % 256) = x by omega) _ hp2
  have hxx : bits .xor .u8 ((((flat rs)[k]'hkl).toNat : Nat) : Int) ((2 : Int) ^ r % 256) = ((((flat rs)[k]'hkl ^^^ UInt8.ofNat (2 ^ r)).toNat : Nat) : Int) := by
    rw [hpw, UInt8.toNat_xor, UInt8.toNat_ofNat_of_lt' (by simpa [UInt8.size] using hp2)]; exact u8_xor_nat _ _ (UInt8.toNat_lt _) hp2
  rw [hxx]
  have hp8 : (8 * k + r) / 8 = k := by omega
  have hpm : (8 * k + r) % 8 = r := by omega
  have hst := (hob2.stored k (.int .u8 ((((flat rs)[k]'hkl ^^^ UInt8.ofNat (2 ^ r)).toNat : Nat) : Int))).1
  have hturn : (bs (flat rs)).set k (.int .u8 ((((flat rs)[k]'hkl ^^^ UInt8.ofNat (2 ^ r)).toNat : Nat) : Int)) = bs (turn (flat rs) (8 * k + r)) := by
    rw [bs_set, Rec.turn_set, hp8, hpm]; congr 2
    simp [hkl]
  rw [hturn] at hst
  have hgblk := hO.size.choose_spec.1
  have hoe3 := own_far hoe2 (p := ⟨g, k, none⟩) (own_blk_ne hoe2 hgblk (by decide)) (.int .u8 ((((flat rs)[k]'hkl ^^^ UInt8.ofNat (2 ^ r)).toNat : Nat) : Int))
  have hB3 := hB2.setCell (p := ⟨g, k, none⟩) hgb (.int .u8 ((((flat rs)[k]'hkl ^^^ UInt8.ofNat (2 ^ r)).toNat : Nat) : Int))
  have hI3 : Recs (W2.setCell ⟨g, k, none⟩ (.int .u8 ((((flat rs)[k]'hkl ^^^ UInt8.ofNat (2 ^ r)).toNat : Nat) : Int))) w.heap.size A rs := hI.below hB3
  have hb3' := (own_bs hst).1
  have hlt3 : (turn (flat rs) (8 * k + r)).length = (flat rs).length := Crc.turn_length _ _
  have HT := Lib.hid (fun hno => Rec.all_turned HF.out (p := 8 * k + r) (by rw [hp8]; exact hkl) hno)
  have HT2 : Hid (¬ (5 ≤ k - (cutAt k (ends 0 rs)).2 ∧ k - (cutAt k (ends 0 rs)).2 < 9) → ∃ m x, Rec.all (turn (flat rs) (8 * k + r)) = (rs.take (cutAt k (ends 0 rs)).1, m, x) ∧ x ≠ 0 ∧ m ≤ (flat rs).length ∧ (cutAt k (ends 0 rs)).1 ≤ rs.length) := Lib.hid (by have := HT.out; rw [hp8] at this; exact this)
  have HSP := Lib.hid (Rec.cutAt_spec (rs := rs) k (by omega))
  have HL3 := Lib.hid hlt3
  generalize (W2.setCell ⟨g, k, none⟩ (.int .u8 ((((flat rs)[k]'hkl ^^^ UInt8.ofNat (2 ^ r)).toNat : Nat) : Int))) = W3 at *
  generalize turn (flat rs) (8 * k + r) = T at *
  clear hst hob2 hoe2 hI2 hgblk hO oc of HT hxx hpw hturn hb1 hB2 hp8 hpm hp2 hlt3
  have hel : ∀ j, j < rs.length → (ends 0 rs)[j]? = some (flat (rs.take (j + 1))).length := fun j hj => by
    rw [List.getElem?_eq_getElem (by rw [Rec.ends_length]; exact hj), Rec.ends_get rs j hj]
  have hee : ∀ j, j < rs.length → (ends 0 rs).take (j + 1) = (ends 0 rs).take j ++ [(flat (rs.take (j + 1))).length] := fun j hj => by
    rw [List.take_succ_eq_append_getElem (by rw [Rec.ends_length]; exact hj), Rec.ends_get rs j hj]
  have hle : ∀ j, (flat (rs.take j)).length ≤ 100000000000 := fun j => by rw [Rec.flat_length]; exact Nat.le_trans (Rec.weight_take rs j) hw
  have HEL := Lib.hid hel
  have HEE := Lib.hid hee
  have HLE := Lib.hid hle
  clear hel hee hle
  go_loopw [11, 12, 56] (fun a t i wr => ∃ j : Nat, j ≤ rs.length ∧ i = .int .i64 j ∧ a = .int .i64 ((cutAt k ((ends 0 rs).take j)).1 : Nat) ∧ t = .int .i64 ((cutAt k ((ends 0 rs).take j)).2 : Nat) ∧ RowKit.Hid ((cutAt k ((ends 0 rs).take j)).1 ≤ j) ∧ W3 = wr) (fun _ _ i _ => rs.length - (intOf i).toNat)
  case atStart => exact ⟨0, Nat.zero_le _, rfl, rfl, rfl, Lib.hid (Nat.le_refl _), rfl⟩
  case round =>
    obtain ⟨j, hj, rfl, rfl, rfl, hJ, rfl⟩ := hrel
    by_cases hlt : j < rs.length
    · obtain ⟨g2, cap, hv, hgb, hgc, hgm, hO⟩ := Own1.of_own hoe3 (by omega)
      cases hv
      have hjl : j < (ns (ends 0 rs)).length := by rw [ns_length, Rec.ends_length]; exact hlt
      have oc := hO.cell hjl
      rw [ns_get, Rec.ends_get rs j hlt] at oc
      have H1 := Lib.hid (HEE.out j hlt)
      have hbd := HLE.out (j + 1)
      have H2 : Hid (cutAt k ((ends 0 rs).take (j + 1)) = if (flat (rs.take (j + 1))).length ≤ k then ((cutAt k ((ends 0 rs).take j)).1 + 1, (flat (rs.take (j + 1))).length) else cutAt k ((ends 0 rs).take j)) := Lib.hid (by rw [H1.out, Rec.cutAt_snoc])
      clear H1 hO
      generalize (flat (rs.take (j + 1))).length = E at *
      by_cases hE : E ≤ k
      · have hE' : ((E : Int) ≤ (k : Int)) := by omega
        have H3 : Hid (cutAt k ((ends 0 rs).take (j + 1)) = ((cutAt k ((ends 0 rs).take j)).1 + 1, E)) := Lib.hid (by rw [H2.out, if_pos hE])
        clear H2
        have hb := hJ.out
        generalize cutAt k ((ends 0 rs).take j) = p at *
        obtain ⟨p1, p2⟩ := p
        dsimp only at *
        go_wp2_with fail
        go_roundw
        case rel => exact ⟨j + 1, by omega, by go_num, by rw [H3.out]; go_num, by rw [H3.out], Lib.hid (by rw [H3.out]; dsimp only; omega), trivial⟩
        case measure => simp [intOf]; omega
      · have hE' : ¬ ((E : Int) ≤ (k : Int)) := by omega
        have H3 : Hid (cutAt k ((ends 0 rs).take (j + 1)) = cutAt k ((ends 0 rs).take j)) := Lib.hid (by rw [H2.out, if_neg hE])
        clear H2
        have hb := hJ.out
        go_wp2_with fail
        go_roundw
        case rel => exact ⟨j + 1, by omega, by go_num, by rw [H3.out], by rw [H3.out], Lib.hid (by rw [H3.out]; omega), trivial⟩
        case measure => simp [intOf]; omega
    · obtain rfl : j = rs.length := by omega
      have hte : (ends 0 rs).take rs.length = ends 0 rs := List.take_of_length_le (by rw [Rec.ends_length]; omega)
      rw [hte] at hJ ⊢
      clear hte HEE HEL HLE hoe3
      obtain ⟨⟨Wn, at2⟩, hp⟩ : ∃ p, p = cutAt k (ends 0 rs) := ⟨_, rfl⟩
      have hsp := HSP.out
      rw [← hp] at hJ hsp ⊢
      have HT3 := HT2.out
      rw [← hp] at HT3
      obtain ⟨Wx, _, hpx, hle2, _⟩ := hsp
      have hle3 : at2 ≤ k := by cases hpx; exact hle2
      dsimp only at hJ HT3 ⊢
      clear hp hJ HT2 HSP hle2 hpx
      by_cases h5 : 5 ≤ k - at2 ∧ k - at2 < 9
      · have t1 : decide ((5 : Int) ≤ (k : Int) - (at2 : Int)) = true := by simp; omega
        have t2 : decide ((k : Int) - (at2 : Int) < 9) = true := by simp; omega
        clear h5 HT3
        go_wp2_with fail
        refine Calls.mono (awake_any _) ?_
        rintro e W7 ⟨rfl, hb7⟩
        go_wp2_with fail
        go_ret
        exact ⟨rfl, hB3.trans (hb7.mono hB3.size)⟩
      obtain ⟨m, x, hall, hx0, hm, hWn⟩ := HT3 h5
      have hC := Lib.hid hall
      have hxne : ((x : Int) != 0) = true := by rw [bne_iff_ne]; omega
      clear HT3 hall
      have fin : ((k : Int) - (at2 : Int) < 5) ∨ (¬ ((k : Int) - (at2 : Int) < 5) ∧ ¬ ((k : Int) - (at2 : Int) < 9)) := by omega
      clear h5
      have n1 : (Wn : Int) ≤ (c : Int) := by omega
      rcases fin with t1 | ⟨t1, t2⟩
      · have u1 : decide ((5 : Int) ≤ (k : Int) - (at2 : Int)) = false := by simp; omega
        go_wp2_with fail
        refine Calls.mono (all_any' (some ⟨g, 0, none⟩) cb T _ HL3.out.symm (by rw [HL3.out]; exact hb3) (by rw [HL3.out]; omega) W3 hb3') ?_
        rintro e W4 hw3
        obtain ⟨Ag, cg, rfl, hb4, hg1, hg2, hG⟩ := hw3.out
        rw [hC.out] at hg1 hG ⊢
        dsimp only at hg1 hG ⊢
        have hB4 := hB3.trans (hb4.mono hB3.size)
        have hIt : Recs W4 W4.heap.size A (rs.take Wn) := ((hI.below hB4).more hB4.size).take Wn
        have hlt : (rs.take Wn).length = Wn := by rw [List.length_take]; omega
        have HLT := Lib.hid hlt
        rw [hlt] at hg1 ⊢
        clear hw3 hb4 hlt hC
        go_wp2_with fail
        refine Calls.mono (samerecs_any Ag A cg c (rs.take Wn) (rs.take Wn) Wn Wn HLT.out.symm HLT.out.symm hg1 (by omega) hg2 (by unfold maxLen; omega) _ hG hIt) ?_
        rintro e W5 ⟨rfl, hb5⟩
        rw [show decide (rs.take Wn = rs.take Wn) = true by simp]
        have hB5 := hB4.trans (hb5.mono hB4.size)
        clear hG hIt
        go_wp2_with fail
        refine Calls.mono (awake_any _) ?_
        rintro e W7 ⟨rfl, hb7⟩
        go_wp2_with fail
        go_ret
        exact ⟨rfl, hB5.trans (hb7.mono hB5.size)⟩
      · have u1 : decide ((5 : Int) ≤ (k : Int) - (at2 : Int)) = true := by simp; omega
        have u2 : decide ((k : Int) - (at2 : Int) < 9) = false := by simp; omega
        go_wp2_with fail
        refine Calls.mono (all_any' (some ⟨g, 0, none⟩) cb T _ HL3.out.symm (by rw [HL3.out]; exact hb3) (by rw [HL3.out]; omega) W3 hb3') ?_
        rintro e W4 hw3
        obtain ⟨Ag, cg, rfl, hb4, hg1, hg2, hG⟩ := hw3.out
        rw [hC.out] at hg1 hG ⊢
        dsimp only at hg1 hG ⊢
        have hB4 := hB3.trans (hb4.mono hB3.size)
        have hIt : Recs W4 W4.heap.size A (rs.take Wn) := ((hI.below hB4).more hB4.size).take Wn
        have hlt : (rs.take Wn).length = Wn := by rw [List.length_take]; omega
        have HLT := Lib.hid hlt
        rw [hlt] at hg1 ⊢
        clear hw3 hb4 hlt hC
        go_wp2_with fail
        refine Calls.mono (samerecs_any Ag A cg c (rs.take Wn) (rs.take Wn) Wn Wn HLT.out.symm HLT.out.symm hg1 (by omega) hg2 (by unfold maxLen; omega) _ hG hIt) ?_
        rintro e W5 ⟨rfl, hb5⟩
        rw [show decide (rs.take Wn = rs.take Wn) = true by simp]
        have hB5 := hB4.trans (hb5.mono hB4.size)
        clear hG hIt
        go_wp2_with fail
        refine Calls.mono (awake_any _) ?_
        rintro e W7 ⟨rfl, hb7⟩
        go_wp2_with fail
        go_ret
        exact ⟨rfl, hB5.trans (hb7.mono hB5.size)⟩
end Go.Proofs.Ytboikajfcmgffaa.RecW
