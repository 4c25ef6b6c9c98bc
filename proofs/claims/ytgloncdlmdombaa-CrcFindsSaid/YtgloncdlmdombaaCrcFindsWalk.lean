/-
  The walk of the statement CrcFinds.
-/
import Derived.Test.YtgloncdlmdombaaCrcTellsWalk
import Derived.Test.YtgloncdlmdombaaCrcPlain3
import Derived.BigQuiet
import Derived.Deep.QuietTactic
namespace Go.Proofs.Ytgloncdlmdombaa.CrcW
open Go.RowKit Go.Proofs Go.Proofs.Ytgloncdlmdombaa Go.Proofs.Ytgloncdlmdombaa.Wd
open Go.Proofs.Ytgloncdlmdombaa.Crc (sumB sumB_lt sumB_snoc sumB_append fl tn xorAt turn)

theorem sum_kk (A : Option Addr) (cap : Nat) (zs : List UInt8) (k : Nat) (hk : k = zs.length) (hreach : zs.length ≤ 140737488351232) (w : World) (hI : Bytes w w.heap.size A zs) :
    Calls Try.prog 13 #[.slice A k cap] w fun e W' => e = .returned (.int .u32 (sumB zs : Nat)) ∧ Below w.heap.size w W' := by
  subst hk; exact sum_any A cap zs hreach w hI
theorem info33 : (Try.prog.info? 33).map (·.size) = some 4 := by kernel_rfl
set_option maxRecDepth 100000 in
set_option maxHeartbeats 2000000 in
theorem finds_walk (A : Option Addr) (ca : Nat) (b : List UInt8) (at' one two : Nat) (by4 : Array Value) (x : Nat → UInt8) (h4 : by4.size = 4) (hx : ∀ k (h : k < 4), by4[k]'(by omega) = .int .u8 ((x k).toNat : Nat)) (hat : at' < 65536) (hone : one < 65536) (htwo : two < 65536) (w : World) (hA : Bytes w w.heap.size A b) :
    Calls Try.prog 6 #[.slice A b.length ca, .int .u16 at', .agg by4, .int .u16 one, .int .u16 two] w fun e w' => e = .returned (.bool true) ∧ Below w.heap.size w w' := by
  by_cases h0 : b.length = 0
  · have hz : ((b.length : Int) == 0) = true := by simp [h0]
    go_enter Try.func6, Try.ntmps6
    go_wp2_with fail
    refine Calls.mono (awake_any _) ?_
    rintro e w7 ⟨rfl, hB7⟩
    go_wp2
    go_ret
    exact ⟨rfl, ((Below.refl _ w).alloc (Nat.le_refl _) _).trans (hB7.mono (by simp))⟩
  have hz : ((b.length : Int) == 0) = false := beq_eq_false_iff_ne.2 (by omega)
  by_cases h3 : 300 < b.length
  · go_enter Try.func6, Try.ntmps6
    go_wp2_with fail
    refine Calls.mono (awake_any _) ?_
    rintro e w7 ⟨rfl, hB7⟩
    go_wp2
    go_ret
    exact ⟨rfl, ((Below.refl _ w).alloc (Nat.le_refl _) _).trans (hB7.mono (by simp))⟩
  obtain ⟨i0, hi0, hz0, hz1, hz2⟩ := info_parts infoU8
  have HX := Lib.hid hx
  clear hx
  have hB0 : Below w.heap.size w (w.alloc (.cells by4 33)) := (Below.refl _ w).alloc (Nat.le_refl _) _
  have hbx : Blk (w.alloc (.cells by4 33)) w.heap.size 33 by4 := Blk.new_ w _ _ rfl
  have hbxl : w.heap.size < (w.alloc (.cells by4 33)).heap.size := by simp
  go_enter Try.func6, Try.ntmps6
  go_wp2_with fail
  generalize w.alloc (.cells by4 33) = w0 at hB0 hbx hbxl
  have hA0 := (hA.below hB0).more hB0.size
  refine Calls.mono (sum_any A ca b (by omega) _ hA0) ?_
  rintro e w1 ⟨rfl, hb1⟩
  have hB1 := hB0.trans (hb1.mono hB0.size)
  have hA1 := (hA0.below hb1).more hb1.size
  have hbx1 := hbx.below hb1 hbx.lt
  clear hB0 hA0 hbx hb1
  go_wp2_with (at_builtin; refine wpList_append_row _ rfl (.tmp 31) (.tmp 32) _ rfl w1.heap.size 5 i0 _ 1 Try.underlying23 hi0 hz0 hz1 hz2 rfl _ 0 [] rfl (by exact own_empty _ _ (Nat.le_refl _)) w1.heap.size A b.length ca (bs b) rfl (bs_length b).symm (by exact hA1.alloc (Nat.le_refl _) _) (bs_one b) (by unfold maxLen; omega) (by omega) (by simp) ?_)
  intro v2 w2 hown2 hgrow2 _ _
  have hB2' : Below w1.heap.size w1 w2 := ((Below.refl _ w1).alloc (Nat.le_refl _) _).grown hgrow2 (by simp) (by simp [Value.ownBlock])
  have hB2 := hB1.trans (hB2'.mono hB1.size)
  have hbx2 := hbx1.below hB2' hbx1.lt
  obtain ⟨g, cap, rfl, hg, hcap, hcm, hc2⟩ := Own1.of_own hown2 (by omega)
  have hgw : w.heap.size < g := by have := hB1.size; have := hbx1.lt; omega
  clear hown2 hgrow2 hB2' hA1 hbx1 hB1 hg
  go_wp2_with (refine wpList_load_row rfl 33 _ rfl w.heap.size rfl _ by4 _ _ hbx2 Try.underlying33 rfl (by rw [info33, h4]) ?_)
  have hn1 : 1 ≤ b.length := by omega
  obtain ⟨p0, hp0'⟩ : ∃ p0, p0 = at' % b.length := ⟨_, rfl⟩
  have hp0l : p0 < b.length := by rw [hp0']; exact Nat.mod_lt _ (by omega)
  have hp0 : (at' : Int) % (b.length : Int) = (p0 : Int) := by rw [hp0']; exact (Int.natCast_emod at' b.length).symm
  clear hp0' hbx2
  go_loopw [13, 35] (fun t i wr => ∃ k : Nat, k ≤ 4 ∧ i = .int .i64 k ∧ t = .bool (tn b.length p0 x k) ∧ Own1 wr g 5 (bs (fl b p0 x k)) ∧ Below w.heap.size w wr) (fun _ i _ => 4 - (intOf i).toNat)
  case atStart => exact ⟨0, Nat.zero_le _, rfl, rfl, hc2, hB2⟩
  case round =>
    clear hc2 hB2
    obtain ⟨k, hk, rfl, rfl, hc, hB⟩ := hrel
    by_cases hlt : k < 4
    · have hidx := run_index_agg (P := Try.prog) 33 5 4 by4 k _ .i64 .u8 i0 Try.underlying33 hi0 hz1 Try.underlying5 hlt ((Array.getElem?_eq_getElem (by omega)).trans (congrArg some (HX.out k hlt)))
      have HF := Lib.hid (show fl b p0 x (k + 1) = xorAt (fl b p0 x k) (p0 + k) (x k) from rfl)
      have HT := Lib.hid (show tn b.length p0 x (k + 1) = (tn b.length p0 x k || (decide (p0 + k < b.length) && x k != 0)) from rfl)
      have hfl := Crc.fl_length b p0 x k
      by_cases hin : p0 + k < b.length
      · by_cases hx0 : x k = 0
        · have ht1 : ((((x k).toNat : Nat) : Int) != 0) = false := by rw [hx0]; rfl
          have ht2 : (p0 : Int) + (k : Int) < (b.length : Int) := by omega
          have h5 : fl b p0 x (k + 1) = fl b p0 x k := by rw [HF.out, hx0]; exact Crc.xorAt_zero _ _
          have h6 : tn b.length p0 x (k + 1) = tn b.length p0 x k := by rw [HT.out, hx0]; simp
          have H5 := Lib.hid h5
          have H6 := Lib.hid h6
          clear h5 h6 hfl
          go_wp2
          go_roundw
          case rel => exact ⟨k + 1, by omega, by go_num, by rw [H6.out], by rw [H5.out]; exact hc, hB⟩
          case measure => simp [intOf]; omega
        · have ht1 : ((((x k).toNat : Nat) : Int) != 0) = true := by
            rw [bne_iff_ne]
            intro h
            exact hx0 (UInt8.toNat_inj.1 (by simpa using h))
          have ht2 : (p0 : Int) + (k : Int) < (b.length : Int) := by omega
          have ht3 : (0 : Int) ≤ (p0 : Int) + (k : Int) := by omega
          have hlen : p0 + k < (bs (fl b p0 x k)).length := by rw [bs_length, hfl]; exact hin
          have hcell := hc.cell hlen
          have hfz := hc.frozen (p0 + k)
          rw [bs_get] at hcell
          have hxx : bits .xor .u8 ((((fl b p0 x k)[p0 + k]'(by omega)).toNat : Nat) : Int) (((x k).toNat : Nat) : Int) = ((((fl b p0 x k)[p0 + k]'(by omega) ^^^ x k).toNat : Nat) : Int) := by
            rw [UInt8.toNat_xor]; exact u8_xor_nat _ _ (UInt8.toNat_lt _) (UInt8.toNat_lt _)
          have h5 : bs (fl b p0 x (k + 1)) = (bs (fl b p0 x k)).set (p0 + k) (.int .u8 ((((fl b p0 x k)[p0 + k]'(by omega) ^^^ x k).toNat : Nat) : Int)) := by
            rw [HF.out, bs_set]; unfold xorAt; congr 2
            simp [show p0 + k < (fl b p0 x k).length by omega]
          have h6 : tn b.length p0 x (k + 1) = true := by rw [HT.out]; simp [hin, hx0]
          have H5 := Lib.hid h5
          have H6 := Lib.hid h6
          generalize hfx : ((fl b p0 x k)[p0 + k]'(by omega)) = fx at hcell hxx H5
          clear h5 h6 hfl hfx hlen
          have HXX := Lib.hid hxx
          clear hxx
          go_wp2
          go_roundw
          case rel => exact ⟨k + 1, by omega, by go_num, by rw [H6.out], by rw [H5.out, HXX.out]; exact hc.set_ _ _, hB.setCell (p := ⟨g, p0 + k, none⟩) (by show w.heap.size ≤ g; omega) _⟩
          case measure => simp [intOf]; omega
      · have ht2 : ¬ ((p0 : Int) + (k : Int) < (b.length : Int)) := by omega
        have h5 : fl b p0 x (k + 1) = fl b p0 x k := by rw [HF.out]; exact Crc.xorAt_out _ _ _ (by omega)
        have h6 : tn b.length p0 x (k + 1) = tn b.length p0 x k := by rw [HT.out]; simp [hin]
        have H5 := Lib.hid h5
        have H6 := Lib.hid h6
        clear h5 h6 hfl
        go_wp2
        go_roundw
        case rel => exact ⟨k + 1, by omega, by go_num, by rw [H6.out], by rw [H5.out]; exact hc, hB⟩
        case measure => simp [intOf]; omega
    · obtain rfl : k = 4 := by omega
      have hfl4 := Crc.fl_length b p0 x 4
      go_wp2_with fail
      refine Calls.mono (sum_kk _ cap (fl b p0 x 4) b.length hfl4.symm (by omega) _ (by exact hc.row hc.lt)) ?_
      rintro e w3 ⟨rfl, hb3⟩
      have hB3 := hB.trans (hb3.mono hB.size)
      have hA3 := (hA.below hB3).more hB3.size
      clear hb3 hB hc HX
      have h44 := Crc.fl_four b p0 x hp0l
      have hneq : (((sumB (fl b p0 x 4) : Nat) : Int) != ((sumB b : Nat) : Int)) = tn b.length p0 x 4 := by
        cases ht : tn b.length p0 x 4
        · rw [h44.2 ht]; simp
        · rw [bne_iff_ne]; intro he
          have := h44.1 (by omega)
          rw [ht] at this; cases this
      clear h44
      go_wp2_with (at_builtin; refine wpList_append_row _ rfl (.tmp 68) (.tmp 69) _ rfl w3.heap.size 5 i0 _ 1 Try.underlying23 hi0 hz0 hz1 hz2 rfl _ 0 [] rfl (by exact own_empty _ _ (Nat.le_refl _)) w3.heap.size A b.length ca (bs b) rfl (bs_length b).symm (by exact hA3.alloc (Nat.le_refl _) _) (bs_one b) (by unfold maxLen; omega) (by omega) (by simp) ?_)
      intro v4 w4 hown4 hgrow4 _ _
      have hB4' : Below w3.heap.size w3 w4 := ((Below.refl _ w3).alloc (Nat.le_refl _) _).grown hgrow4 (by simp) (by simp [Value.ownBlock])
      have hB4 := hB3.trans (hB4'.mono hB3.size)
      obtain ⟨g4, cap4, rfl, hg4, hcap4, hcm4, hc4⟩ := Own1.of_own hown4 (by omega)
      have hgw4 : w.heap.size ≤ g4 := by have := hB3.size; omega
      clear hown4 hgrow4 hB4' hA3 hB3 hg4
      obtain ⟨p, hpq⟩ : ∃ p, p = one % (8 * b.length) := ⟨_, rfl⟩
      obtain ⟨q, hqq⟩ : ∃ q, q = two % (8 * b.length) := ⟨_, rfl⟩
      have hpl : p < 8 * b.length := by rw [hpq]; exact Nat.mod_lt _ (by omega)
      have hql : q < 8 * b.length := by rw [hqq]; exact Nat.mod_lt _ (by omega)
      have hpe : (one : Int) % (8 * (b.length : Int)) = (p : Int) := by rw [hpq]; exact (Int.natCast_emod one (8 * b.length)).symm
      have hqe : (two : Int) % (8 * (b.length : Int)) = (q : Int) := by rw [hqq]; exact (Int.natCast_emod two (8 * b.length)).symm
      have h8 : (1 : Int) ≤ 8 * (b.length : Int) := by omega
      clear hpq hqq hneq hp0
      go_wp2_with fail
      go_quiet (fail)
      rw [hpe, hqe]
      clear hpe hqe
      have hc5 := hc4.drewN nq
      have hB5 : Below w.heap.size w (w4.drewN nq) := hB4.trans ⟨rfl, rfl, rfl, Nat.le_refl _, fun _ _ => rfl⟩
      generalize w4.drewN nq = w5 at hc5 hB5
      clear hc4 hB4
      obtain ⟨d, hd⟩ : ∃ d, d = p / 8 := ⟨_, rfl⟩
      obtain ⟨r, hr⟩ : ∃ r, r = p % 8 := ⟨_, rfl⟩
      have hde : IntKind.i64.wrap ((p : Int) / 8) = (d : Int) := by rw [IntKind.wrap_i64]; omega
      have hre : (p : Int).tmod 8 = (r : Int) := by rw [Int.tmod_eq_emod_of_nonneg (by omega)]; omega
      have hdl : d < b.length := by omega
      have hrl : r < 8 := by omega
      have hlen : d < (bs b).length := by rw [bs_length]; exact hdl
      have hcell := hc5.cell hlen
      have hfz := hc5.frozen d
      rw [bs_get] at hcell
      have hp2 : 2 ^ r < 256 := Nat.lt_of_lt_of_le (Nat.pow_lt_pow_right (by omega) hrl) (by decide)
      have hpw : IntKind.u8.wrap (2 ^ r) = ((2 ^ r : Nat) : Int) := by
        rw [IntKind.wrap_u8', ← (show ((2 ^ r : Nat) : Int) = (2 : Int) ^ r by norm_cast)]
        exact (show ∀ x : Nat, x < 256 → ((x : Int) % 256) = x by omega) _ hp2
      have hxx : bits .xor .u8 (((b[d]'hdl).toNat : Nat) : Int) (IntKind.u8.wrap (2 ^ r)) = (((b[d]'hdl ^^^ UInt8.ofNat (2 ^ r)).toNat : Nat) : Int) := by
        rw [hpw, UInt8.toNat_xor, UInt8.toNat_ofNat_of_lt' (by simpa [UInt8.size] using hp2)]; exact u8_xor_nat _ _ (UInt8.toNat_lt _) hp2
      have hturn : bs (turn b p) = (bs b).set d (.int .u8 (((b[d]'hdl ^^^ UInt8.ofNat (2 ^ r)).toNat : Nat) : Int)) := by
        rw [bs_set]; unfold turn; subst hd hr; congr 2
        simp [hdl]
      have HD := Lib.hid hd
      have HTU := Lib.hid hturn
      clear hd hr hturn hpw
      generalize hbd : (b[d]'hdl ^^^ UInt8.ofNat (2 ^ r)) = bd at hxx HTU
      clear hbd
      go_wp2_with fail
      go_still_tail 10, (by kernel_rfl)
      change wpList _ _ _ _ _ w5.drew
      have hc6 : Own1 (w5.setCell ⟨g4, d, none⟩ (.int .u8 (bd.toNat : Nat))).drew g4 5 (bs (turn b p)) := by rw [HTU.out]; exact hc5.drew.set_ d (.int .u8 (bd.toNat : Nat))
      have hB6 : Below w.heap.size w (w5.setCell ⟨g4, d, none⟩ (.int .u8 (bd.toNat : Nat))).drew := (hB5.setCell (p := ⟨g4, d, none⟩) hgw4 (.int .u8 (bd.toNat : Nat))).drew
      have hcell' : w5.drew.cell? ⟨g4, d, none⟩ = some (.int .u8 (((b[d]'hdl).toNat : Nat) : Int)) := hcell
      have hfz' : w5.drew.frozen? ⟨g4, d, none⟩ = false := hfz
      clear hc5 hB5 hcell hfz
      go_wp2_with fail
      clear hcell' hfz'
      generalize (w5.setCell ⟨g4, d, none⟩ (.int .u8 (bd.toNat : Nat))).drew = w6 at hc6 hB6
      have htl := Crc.turn_length b p
      refine Calls.mono (sum_kk _ cap4 (turn b p) b.length htl.symm (by omega) _ (by exact hc6.row hc6.lt)) ?_
      rintro e w7 ⟨rfl, hb7⟩
      have hB7 := hB6.trans (hb7.mono hB6.size)
      have hc7 := hc6.below hb7 hc6.lt
      clear hb7 hB6 hc6 HTU hre hde HD
      have hne : (((sumB (turn b p) : Nat) : Int) == ((sumB b : Nat) : Int)) = false := by
        rw [beq_eq_false_iff_ne]
        intro h
        exact Crc.turn_sum hpl (by omega)
      generalize hb2 : turn b p = b2 at hc7 htl hne
      obtain ⟨d, hd⟩ : ∃ d, d = q / 8 := ⟨_, rfl⟩
      obtain ⟨r, hr⟩ : ∃ r, r = q % 8 := ⟨_, rfl⟩
      have hde : IntKind.i64.wrap ((q : Int) / 8) = (d : Int) := by rw [IntKind.wrap_i64]; omega
      have hre : (q : Int).tmod 8 = (r : Int) := by rw [Int.tmod_eq_emod_of_nonneg (by omega)]; omega
      have hdl : d < b.length := by omega
      have hdl2 : d < b2.length := by omega
      have hrl : r < 8 := by omega
      have hlen : d < (bs b2).length := by rw [bs_length]; exact hdl2
      have hcell := hc7.cell hlen
      have hfz := hc7.frozen d
      rw [bs_get] at hcell
      have hp2 : 2 ^ r < 256 := Nat.lt_of_lt_of_le (Nat.pow_lt_pow_right (by omega) hrl) (by decide)
      have hpw : IntKind.u8.wrap (2 ^ r) = ((2 ^ r : Nat) : Int) := by
        rw [IntKind.wrap_u8', ← (show ((2 ^ r : Nat) : Int) = (2 : Int) ^ r by norm_cast)]
        exact (show ∀ x : Nat, x < 256 → ((x : Int) % 256) = x by omega) _ hp2
      have hxx : bits .xor .u8 (((b2[d]'hdl2).toNat : Nat) : Int) (IntKind.u8.wrap (2 ^ r)) = (((b2[d]'hdl2 ^^^ UInt8.ofNat (2 ^ r)).toNat : Nat) : Int) := by
        rw [hpw, UInt8.toNat_xor, UInt8.toNat_ofNat_of_lt' (by simpa [UInt8.size] using hp2)]; exact u8_xor_nat _ _ (UInt8.toNat_lt _) hp2
      have hturn : bs (turn b2 q) = (bs b2).set d (.int .u8 (((b2[d]'hdl2 ^^^ UInt8.ofNat (2 ^ r)).toNat : Nat) : Int)) := by
        rw [bs_set]; unfold turn; subst hd hr; congr 2
        simp [hdl2]
      have HD := Lib.hid hd
      have HTU := Lib.hid hturn
      have HB2 := Lib.hid hb2
      clear hd hr hturn hpw hb2 htl
      generalize hbd : (b2[d]'hdl2 ^^^ UInt8.ofNat (2 ^ r)) = bd at hxx HTU
      clear hbd
      go_wp2_with fail
      go_still_tail 10, (by kernel_rfl)
      change wpList _ _ _ _ _ w7.drew
      have hc8 : Own1 (w7.setCell ⟨g4, d, none⟩ (.int .u8 (bd.toNat : Nat))).drew g4 5 (bs (turn b2 q)) := by rw [HTU.out]; exact hc7.drew.set_ d (.int .u8 (bd.toNat : Nat))
      have hB8 : Below w.heap.size w (w7.setCell ⟨g4, d, none⟩ (.int .u8 (bd.toNat : Nat))).drew := (hB7.setCell (p := ⟨g4, d, none⟩) hgw4 (.int .u8 (bd.toNat : Nat))).drew
      have hcell' : w7.drew.cell? ⟨g4, d, none⟩ = some (.int .u8 (((b2[d]'hdl2).toNat : Nat) : Int)) := hcell
      have hfz' : w7.drew.frozen? ⟨g4, d, none⟩ = false := hfz
      clear hc7 hB7 hcell hfz
      go_wp2_with fail
      clear hcell' hfz'
      generalize (w7.setCell ⟨g4, d, none⟩ (.int .u8 (bd.toNat : Nat))).drew = w8 at hc8 hB8
      have htl2 : (turn b2 q).length = b.length := by rw [Crc.turn_length, ← HB2.out, Crc.turn_length]
      refine Calls.mono (sum_kk _ cap4 (turn b2 q) b.length htl2.symm (by omega) _ (by exact hc8.row hc8.lt)) ?_
      rintro e w9 ⟨rfl, hb9⟩
      have hB9 := hB8.trans (hb9.mono hB8.size)
      clear hb9 hB8 hc8 HTU hre hde HD
      have htt : sumB (turn b2 q) = sumB b ↔ p = q := by rw [← HB2.out]; exact Crc.turn_turn (by omega) hpl hql
      by_cases hpq : p = q
      · have g1 : (((sumB (turn b2 q) : Nat) : Int) == ((sumB b : Nat) : Int)) = true := by rw [htt.2 hpq]; simp
        have g2 : ((p : Int) == (q : Int)) = true := by rw [hpq]; simp
        clear htt hpq
        go_wp2_with fail
        refine Calls.mono (awake_any _) ?_
        rintro e w10 ⟨rfl, hb10⟩
        go_wp2
        go_ret
        exact ⟨rfl, hB9.trans (hb10.mono hB9.size)⟩
      · have g1 : (((sumB (turn b2 q) : Nat) : Int) == ((sumB b : Nat) : Int)) = false := by
          rw [beq_eq_false_iff_ne]
          intro h
          exact hpq (htt.1 (by omega))
        have g2 : ((p : Int) == (q : Int)) = false := by rw [beq_eq_false_iff_ne]; omega
        clear htt hpq
        go_wp2_with fail
        refine Calls.mono (awake_any _) ?_
        rintro e w10 ⟨rfl, hb10⟩
        go_wp2
        go_ret
        exact ⟨rfl, hB9.trans (hb10.mono hB9.size)⟩
end Go.Proofs.Ytgloncdlmdombaa.CrcW
