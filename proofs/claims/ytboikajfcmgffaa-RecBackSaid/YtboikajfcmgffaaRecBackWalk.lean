/-
  The walk of the statement RecBack.
-/
import Derived.Test.YtboikajfcmgffaaRecTellsWalk
import Derived.Test.YtboikajfcmgffaaRecPlain3
namespace Go.Proofs.Ytboikajfcmgffaa.RecW
set_option linter.unusedVariables false
open Go.RowKit Go.Proofs Go.Proofs.Ytboikajfcmgffaa Go.Proofs.Ytboikajfcmgffaa.Wd Go.Proofs.Ytboikajfcmgffaa.CrcW
open Go.Proofs.Ytboikajfcmgffaa.Rec (R four number fine takeErr takeEnd takeRec putErr number_lt)

structure BackKept (w : World) (r s : R) (A A' : Option Addr) (c c' : Nat) (W : World) : Prop where
  hb : Below w.heap.size w W
  hr : Blk W w.heap.size 39 #[.int .u8 (r.1.toNat : Nat), .slice A r.2.length c]
  hs : Blk W (w.heap.size + 1) 39 #[.int .u8 (s.1.toNat : Nat), .slice A' s.2.length c']
theorem BackKept.next {w W W' : World} {r s : R} {A A' : Option Addr} {c c' : Nat} (h : BackKept w r s A A' c c' W) (hb : Below W.heap.size W W') : BackKept w r s A A' c c' W' :=
  ⟨h.hb.trans (hb.mono h.hb.size), h.hr.below hb h.hr.lt, h.hs.below hb h.hs.lt⟩
theorem BackKept.alloc {w W : World} {r s : R} {A A' : Option Addr} {c c' : Nat} (h : BackKept w r s A A' c c' W) (o : Obj) : BackKept w r s A A' c c' (W.alloc o) :=
  h.next ((Below.refl _ W).alloc (Nat.le_refl _) _)

theorem bump8 (x : UInt8) : Value.int .u8 (((x.toNat : Int) + 1) % 256) = .int .u8 (((x + 1).toNat : Nat) : Int) := by
  have h : (x + 1).toNat = (x.toNat + 1) % 256 := by rw [UInt8.toNat_add]; rfl
  rw [h]
  congr 1
set_option maxRecDepth 100000 in
set_option maxHeartbeats 8000000 in
theorem back_walk (k : UInt8) (A : Option Addr) (c : Nat) (d : List UInt8) (hdc : d.length ≤ c) (hcm : c ≤ maxLen) (k' : UInt8) (A' : Option Addr) (c' : Nat) (d' : List UInt8) (hdc' : d'.length ≤ c') (hcm' : c' ≤ maxLen)
    (Am : Option Addr) (cm : Nat) (m : List UInt8) (hmc : m.length ≤ cm) (hmm : cm ≤ maxLen) (w : World)
    (hI : Bytes w w.heap.size A d) (hJ : Bytes w w.heap.size A' d') (hM : Bytes w w.heap.size Am m) :
    Calls Try.prog 7 #[.agg #[.int .u8 (k.toNat : Nat), .slice A d.length c], .agg #[.int .u8 (k'.toNat : Nat), .slice A' d'.length c'], .slice Am m.length cm] w fun e w' => e = .returned (.bool true) ∧ Below w.heap.size w w' := by
  unfold maxLen at hcm hcm' hmm
  have hz := Blk.new_ w 39 #[.int .u8 (k.toNat : Nat), .slice A d.length c] rfl
  have hz2 := Blk.new_ (w.alloc (.cells #[.int .u8 (k.toNat : Nat), .slice A d.length c] 39)) 39 #[.int .u8 (k'.toNat : Nat), .slice A' d'.length c'] (n := w.heap.size + 1) (by simp)
  have K0 : BackKept w (k, d) (k', d') A A' c c' ((w.alloc (.cells #[.int .u8 (k.toNat : Nat), .slice A d.length c] 39)).alloc (.cells #[.int .u8 (k'.toNat : Nat), .slice A' d'.length c'] 39)) :=
    ⟨((Below.refl _ w).alloc (Nat.le_refl _) _).alloc (by simp) _, hz.alloc _, hz2⟩
  clear hz hz2
  by_cases h1 : 5000 < d.length
  · have h1' : decide ((5000 : Int) < (d.length : Int)) = true := by simp; omega
    go_enter Try.func7, Try.ntmps7
    go_wp2_with fail
    refine Calls.mono (awake_any _) ?_
    rintro e w7 ⟨rfl, hB7⟩
    go_wp2
    go_ret
    exact ⟨rfl, K0.hb.trans (hB7.mono K0.hb.size)⟩
  have h1' : decide ((5000 : Int) < (d.length : Int)) = false := by simp; omega
  by_cases h2 : 5000 < d'.length
  · have h2' : decide ((5000 : Int) < (d'.length : Int)) = true := by simp; omega
    go_enter Try.func7, Try.ntmps7
    go_wp2_with fail
    refine Calls.mono (awake_any _) ?_
    rintro e w7 ⟨rfl, hB7⟩
    go_wp2
    go_ret
    exact ⟨rfl, K0.hb.trans (hB7.mono K0.hb.size)⟩
  have h2' : decide ((5000 : Int) < (d'.length : Int)) = false := by simp; omega
  by_cases h3 : 100 < m.length
  · have h3' : decide ((100 : Int) < (m.length : Int)) = true := by simp; omega
    go_enter Try.func7, Try.ntmps7
    go_wp2_with fail
    refine Calls.mono (awake_any _) ?_
    rintro e w7 ⟨rfl, hB7⟩
    go_wp2
    go_ret
    exact ⟨rfl, K0.hb.trans (hB7.mono K0.hb.size)⟩
  have h3' : decide ((100 : Int) < (m.length : Int)) = false := by simp; omega
  obtain ⟨i0, hi0, hz0, hz1, hz2⟩ := info_parts infoU8
  go_enter Try.func7, Try.ntmps7
  go_wp2_with fail
  generalize (w.alloc (.cells #[.int .u8 (k.toNat : Nat), .slice A d.length c] 39)).alloc (.cells #[.int .u8 (k'.toNat : Nat), .slice A' d'.length c'] 39) = W0 at *
  refine Calls.mono (put_any k A c d _ rfl W0 ((Row.below hI K0.hb).more K0.hb.size)) ?_
  rintro e W1 hw
  obtain ⟨Ax, cx, rfl, hb1, hx1, hx2, ho1⟩ := hw.out
  have K1 := K0.next hb1
  clear hw K0 hb1
  have s0 : W1.cell? ⟨w.heap.size + 1, 0, none⟩ = some (.int .u8 (k'.toNat : Nat)) := Blk.at_ K1.hs 0 rfl
  have s1 : W1.cell? ⟨w.heap.size + 1, 1, none⟩ = some (.slice A' d'.length c') := Blk.at_ K1.hs 1 rfl
  go_wp2_with fail
  refine Calls.mono (put_any k' A' c' d' _ rfl W1 ((Row.below hJ K1.hb).more K1.hb.size)) ?_
  clear s0 s1
  rintro e W2 hw
  obtain ⟨Ay, cy, rfl, hb2, hy1, hy2, ho2⟩ := hw.out
  have K2 := K1.next hb2
  have ho1' := own_base (own_below ho1 hb2) (Nat.zero_le _)
  have ho2' := own_base ho2 (Nat.zero_le _)
  clear hw K1 hb2 ho1 ho2
  have r0 : W2.cell? ⟨w.heap.size, 0, none⟩ = some (.int .u8 (k.toNat : Nat)) := Blk.at_ K2.hr 0 rfl
  have r1 : W2.cell? ⟨w.heap.size, 1, none⟩ = some (.slice A d.length c) := Blk.at_ K2.hr 1 rfl
  unfold maxLen at hx2 hy2
  by_cases he : putErr (k, d) = 0
  case neg =>
    have hL : putL (k, d) = [] := by unfold putL; rw [if_neg he]
    rw [hL]
    have e1 : (((putErr (k, d) : Nat) : Int) == 0) = false := by rw [beq_eq_false_iff_ne]; omega
    have e2 : (((putErr (k, d) : Nat) : Int) != 0) = true := by rw [bne_iff_ne]; omega
    have hne : k.toNat < 1 ∨ (1 ≤ k.toNat ∧ 2 < k.toNat) ∨ (1 ≤ k.toNat ∧ k.toNat ≤ 2 ∧ 4096 < d.length) := by
      by_cases t1 : k.toNat < 1
      · exact .inl t1
      by_cases t2 : 2 < k.toNat
      · exact .inr (.inl ⟨by omega, t2⟩)
      by_cases t3 : 4096 < d.length
      · exact .inr (.inr ⟨by omega, by omega, t3⟩)
      have hf : fine k = true := by unfold fine; simp; omega
      exact absurd (by unfold putErr; rw [if_pos hf, if_pos (by dsimp only; omega)]) he
    clear he hL hx1 ho1' ho2'
    rcases hne with t1 | ⟨t1, t2⟩ | ⟨t1, t2, t3⟩
    · have u1 : decide ((1 : Int) ≤ (k.toNat : Int)) = false := by simp; omega
      go_wp2_with fail
      refine Calls.mono (awake_any _) ?_
      rintro e w7 ⟨rfl, hB7⟩
      go_wp2
      go_ret
      exact ⟨rfl, K2.hb.trans (hB7.mono K2.hb.size)⟩
    · have u1 : decide ((1 : Int) ≤ (k.toNat : Int)) = true := by simp; omega
      have u2 : decide ((k.toNat : Int) ≤ 2) = false := by simp; omega
      go_wp2_with fail
      refine Calls.mono (awake_any _) ?_
      rintro e w7 ⟨rfl, hB7⟩
      go_wp2
      go_ret
      exact ⟨rfl, K2.hb.trans (hB7.mono K2.hb.size)⟩
    · have u1 : decide ((1 : Int) ≤ (k.toNat : Int)) = true := by simp; omega
      have u2 : decide ((k.toNat : Int) ≤ 2) = true := by simp; omega
      have u3 : decide ((d.length : Int) ≤ 4096) = false := by simp; omega
      go_wp2_with fail
      refine Calls.mono (awake_any _) ?_
      rintro e w7 ⟨rfl, hB7⟩
      go_wp2
      go_ret
      exact ⟨rfl, K2.hb.trans (hB7.mono K2.hb.size)⟩
  obtain ⟨hf, hl4⟩ := Rec.putErr_zero he
  have hkk : 1 ≤ k.toNat ∧ k.toNat ≤ 2 := by unfold fine at hf; simpa using hf
  have u1 : decide ((1 : Int) ≤ (k.toNat : Int)) = true := by simp; omega
  have u2 : decide ((k.toNat : Int) ≤ 2) = true := by simp; omega
  have u3 : decide ((d.length : Int) ≤ 4096) = true := by simp; dsimp only at hl4; omega
  have hL : putL (k, d) = Rec.bytes (k, d) := by unfold putL; rw [if_pos he]
  rw [hL] at hx1 ho1' ⊢
  obtain ⟨L, hLe⟩ : ∃ L, L = Rec.bytes (k, d) := ⟨_, rfl⟩
  have HL := Lib.hid hLe
  have hLl : L.length ≤ 4105 := by rw [hLe, Rec.bytes_length]; dsimp only at hl4 ⊢; omega
  have HE := Lib.hid he
  rw [← hLe] at hx1 ho1' ⊢
  rw [he]
  clear hLe hL he hf
  go_wp2_with fail
  have hB2 := (own_bytes2 ho1').1
  refine Calls.mono (anew_any Ax cx L _ rfl (by omega) W2 hB2) ?_
  rintro e W3 ⟨v3, rfl, ho3, hb3⟩
  have hM3 := (Row.below hM (K2.hb.trans (hb3.mono K2.hb.size))).more (K2.hb.trans (hb3.mono K2.hb.size)).size
  go_wp2_with (at_builtin; refine wpList_append_row _ rfl (.tmp 77) (.tmp 78) _ rfl W2.heap.size 5 i0 _ 1 Try.underlying24 hi0 hz0 hz1 hz2 rfl _ L.length _ rfl ho3 W3.heap.size Am m.length cm (bs m) rfl (bs_length m).symm hM3 (bs_one _) (by unfold maxLen; omega) (by omega) hb3.size ?_)
  intro v4 W4 ho4 hgrow _ _
  have hb4 := hb3.grown hgrow hb3.size (fun j hj => (own_row ho3 hj).1)
  have K4 := K2.next hb4
  have ho14 := own_below ho1' hb4
  have ho24 := own_below ho2' hb4
  rw [← bs_append] at ho4
  have hlm : (L ++ m).length = L.length + m.length := List.length_append
  have HLM := Lib.hid hlm
  obtain ⟨A4, c4, rfl, hc4, e4, hd4⟩ := own_bytes ho4
  clear e4 hgrow ho4 ho3 hb3 hb4 hM3 hB2 ho1' ho2' K2 r0 r1 hlm
  go_wp2_with fail
  have htk := Lib.hid (Rec.take_bytes HE.out m)
  rw [← HL.out] at htk
  refine Calls.mono (take_ok A4 c4 (L ++ m) _ HLM.out.symm (by rw [HLM.out]; exact hc4) (by rw [HLM.out]; omega) _ hd4 htk.out.1 k d L.length htk.out.2.1 htk.out.2.2) ?_
  rintro e W5 ⟨A5, c5, rfl, hb5, ho5⟩
  have hbx := (Below.refl _ W5).alloc (Nat.le_refl _) (.cells #[.int .u8 (k.toNat : Nat), .slice A5 d.length c5] 39)
  have hB46 := hb5.trans (hbx.mono hb5.size)
  have bx := Blk.new_ W5 39 #[.int .u8 (k.toNat : Nat), .slice A5 d.length c5] rfl
  have ho6 := own_below ho5 hbx
  have K6 := K4.next hB46
  clear hd4 ho5 hb5 hbx htk
  have r0 := Blk.at_ K6.hr 0 rfl
  have r1 := Blk.at_ K6.hr 1 rfl
  have x0 := Blk.at_ bx 0 rfl
  have x1 := Blk.at_ bx 1 rfl
  simp only [List.getElem_toArray, List.getElem_cons_zero, List.getElem_cons_succ] at r0 r1 x0 x1
  go_wp2_with fail
  generalize hgx : W5.heap.size = gx at *
  generalize W5.alloc (.cells #[.int .u8 (k.toNat : Nat), .slice A5 d.length c5] 39) = W6 at *
  clear hgx
  have hlong : Rec.longOf (d.length : Int) = (L.length : Int) := by rw [HL.out]; exact Rec.long_bytes HE.out
  have HLO := Lib.hid hlong
  clear hlong
  refine Calls.mono (long_any (d.length : Int) (by omega) (by omega) _) ?_
  rintro e W' ⟨rfl, rfl⟩
  rw [HLO.out]
  go_wp2_with fail
  refine Calls.mono (samerec_any A5 A c5 c (k, d) (k, d) _ (own_bytes2 ho6).1 ((Row.below hI K6.hb).more K6.hb.size)) ?_
  rintro e W7 ⟨rfl, hb7⟩
  rw [show sameB (k, d) (k, d) = true by simp [sameB]]
  have hB47 := hB46.trans (hb7.mono hB46.size)
  have bx7 := bx.below hb7 bx.lt
  have ho7 := own_below ho6 hb7
  have hlt7 := bx7.lt
  clear r0 r1 x0 x1 bx ho6 hB46 K6 hb7
  have x1 := Blk.at_ bx7 1 rfl
  simp only [List.getElem_toArray, List.getElem_cons_zero, List.getElem_cons_succ] at x1
  go_wp2_with fail
  go_loopw [109] (fun i wr => ∃ (j : Nat) (L' : List UInt8), j ≤ d.length ∧ i = .int .i64 j ∧ RowKit.Hid (L'.length = d.length) ∧ wr.ownsRow W4.heap.size 5 1 (.slice A5 d.length c5) d.length (bs L') ∧ Blk wr gx 39 #[.int .u8 (k.toNat : Nat), .slice A5 d.length c5] ∧ Below W4.heap.size W4 wr) (fun i _ => d.length - (intOf i).toNat)
  case atStart => exact ⟨0, d, Nat.zero_le _, rfl, Lib.hid rfl, ho7, bx7, hB47⟩
  case round =>
    clear ho7 bx7 hB47 x1 hlt7
    obtain ⟨j, L', hj, rfl, hLl', ho, bx, hB⟩ := hrel
    have x1 := Blk.at_ bx 1 rfl
    simp only [List.getElem_toArray, List.getElem_cons_zero, List.getElem_cons_succ] at x1
    by_cases hlt : j < d.length
    · obtain ⟨g, cap, hv, hgb, hgc, hgm, hO⟩ := Own1.of_own ho (by omega)
      cases hv
      have hjl : j < (bs L').length := by rw [bs_length, hLl'.out]; exact hlt
      have oc := hO.cell hjl
      rw [bs_get] at oc
      have of := hO.frozen j
      have hjL : j < L'.length := by rw [hLl'.out]; exact hlt
      have hst := (ho.stored j (.int .u8 ((((L'[j]'hjL).toNat : Int) + 1) % 256))).1
      have hst2 : World.ownsRow (wr.setCell ⟨g, j, none⟩ (.int .u8 ((((L'[j]'hjL).toNat : Int) + 1) % 256))) W4.heap.size 5 1 (.slice (some ⟨g, 0, none⟩) d.length c5) d.length (bs (L'.set j (L'[j] + 1))) := by
        rw [bump8, bs_set] at hst; rw [bump8]; exact hst
      have hne : gx ≠ g := by
        have := Blk.ne_ (t := 39) (t' := 5) bx hO.size.choose_spec.1 (by decide); exact this
      have bx' := bx.farN (b := g) (o := j) hne (.int .u8 ((((L'[j]'hjL).toNat : Int) + 1) % 256))
      have hB' := hB.setCell (p := ⟨g, j, none⟩) hgb (.int .u8 ((((L'[j]'hjL).toNat : Int) + 1) % 256))
      have hL2 := Lib.hid (show (L'.set j (L'[j] + 1)).length = d.length by rw [List.length_set]; exact hLl'.out)
      clear hst ho bx hB hO
      go_wp2_with fail
      go_roundw
      case rel => exact ⟨j + 1, L'.set j (L'[j] + 1), by omega, by go_num, hL2, hst2, bx', hB'⟩
      case measure => simp [intOf]; omega
    · obtain rfl : j = d.length := by omega
      obtain ⟨W8, rfl⟩ : ∃ W8 : World, W8 = wr := ⟨_, rfl⟩
      have K8 := K4.next hB
      have hl8 := (own_bytes2 (own_below ho14 hB)).1
      clear ho hLl' x1
      go_wp2_with fail
      have htk := Lib.hid (Rec.take_bytes HE.out [])
      rw [← HL.out, List.append_nil] at htk
      refine Calls.mono (take_ok Ax cx L _ rfl hx1 (by omega) _ hl8 htk.out.1 k d L.length htk.out.2.1 htk.out.2.2) ?_
      rintro e W9 ⟨A9, c9, rfl, hb9, ho9⟩
      have hbx := (Below.refl _ W9).alloc (Nat.le_refl _) (.cells #[.int .u8 (k.toNat : Nat), .slice A9 d.length c9] 39)
      have by10 := Blk.new_ W9 39 #[.int .u8 (k.toNat : Nat), .slice A9 d.length c9] rfl
      have ho10 := own_below ho9 hbx
      have hB10 := hb9.trans (hbx.mono hb9.size)
      have hl10 := hl8.grow hB10
      clear ho9 hb9 hbx
      go_wp2_with fail
      generalize hgy : W9.heap.size = gy at *
      generalize W9.alloc (.cells #[.int .u8 (k.toNat : Nat), .slice A9 d.length c9] 39) = W10 at *
      clear hgy
      refine Calls.mono (take_ok Ax cx L _ rfl hx1 (by omega) _ hl10 htk.out.1 k d L.length htk.out.2.1 htk.out.2.2) ?_
      rintro e W11 ⟨A11, c11, rfl, hb11, ho11⟩
      have hbx := (Below.refl _ W11).alloc (Nat.le_refl _) (.cells #[.int .u8 (k.toNat : Nat), .slice A11 d.length c11] 39)
      have bz := Blk.new_ W11 39 #[.int .u8 (k.toNat : Nat), .slice A11 d.length c11] rfl
      have hB12 := hb11.trans (hbx.mono hb11.size)
      have ho12 := own_below ho11 hbx
      have ho10' := own_below ho10 hB12
      have by12 := by10.below hB12 by10.lt
      have hylt := by10.lt
      have hBB := hB10.trans (hB12.mono hB10.size)
      have hylt2 : ∀ g, (Value.slice A9 d.length c9).ownBlock = some g → g < W10.heap.size := fun g hg => (ho10.lt g hg).2
      have hz11 := hb11.size
      have y1 := Blk.at_ by12 1 rfl
      simp only [List.getElem_toArray, List.getElem_cons_zero, List.getElem_cons_succ] at y1
      clear ho11 hb11 hbx ho10 by10 hl10 hB10 htk
      go_wp2_with fail
      generalize hgz : W11.heap.size = gz at *
      generalize W11.alloc (.cells #[.int .u8 (k.toNat : Nat), .slice A11 d.length c11] 39) = W12 at *
      have hzy : gy ≠ gz := by omega
      clear hgz
      have hBw : Below W8.heap.size W8 W12 := hBB
      clear y1 hBB hB12
      have HY := Lib.hid hylt2
      clear hylt2 hylt hz11
      go_loopw [135] (fun i wr => ∃ (j : Nat) (L' : List UInt8), j ≤ d.length ∧ i = .int .i64 j ∧ RowKit.Hid (L'.length = d.length) ∧ wr.ownsRow W8.heap.size 5 1 (.slice A9 d.length c9) d.length (bs L') ∧ Blk wr gy 39 #[.int .u8 (k.toNat : Nat), .slice A9 d.length c9] ∧
        Blk wr gz 39 #[.int .u8 (k.toNat : Nat), .slice A11 d.length c11] ∧ wr.ownsRow W10.heap.size 5 1 (.slice A11 d.length c11) d.length (bs d) ∧ Below W8.heap.size W8 wr) (fun i _ => d.length - (intOf i).toNat)
      case atStart => exact ⟨0, d, Nat.zero_le _, rfl, Lib.hid rfl, ho10', by12, bz, ho12, hBw⟩
      case round =>
        clear ho10' by12 bz ho12 hBw
        obtain ⟨j, L', hj, rfl, hLl', ho, bx, bz, hoz, hBw⟩ := hrel
        have x1 := Blk.at_ bx 1 rfl
        simp only [List.getElem_toArray, List.getElem_cons_zero, List.getElem_cons_succ] at x1
        by_cases hlt : j < d.length
        · obtain ⟨g, cap, hv, hgb, hgc, hgm, hO⟩ := Own1.of_own ho (by omega)
          cases hv
          have hjl : j < (bs L').length := by rw [bs_length, hLl'.out]; exact hlt
          have oc := hO.cell hjl
          rw [bs_get] at oc
          have of := hO.frozen j
          have hjL : j < L'.length := by rw [hLl'.out]; exact hlt
          have hst := (ho.stored j (.int .u8 ((((L'[j]'hjL).toNat : Int) + 1) % 256))).1
          have hst2 : World.ownsRow (wr.setCell ⟨g, j, none⟩ (.int .u8 ((((L'[j]'hjL).toNat : Int) + 1) % 256))) W8.heap.size 5 1 (.slice (some ⟨g, 0, none⟩) d.length c9) d.length (bs (L'.set j (L'[j] + 1))) := by
            rw [bump8, bs_set] at hst; rw [bump8]; exact hst
          have hne : gy ≠ g := Blk.ne_ (t := 39) (t' := 5) bx hO.size.choose_spec.1 (by decide)
          have hnz : gz ≠ g := Blk.ne_ (t := 39) (t' := 5) bz hO.size.choose_spec.1 (by decide)
          have hgl := HY.out g rfl
          have hoz' := own_far hoz (p := ⟨g, j, none⟩) (fun h => by have := (own_row hoz h).1; dsimp only at this; omega) (.int .u8 ((((L'[j]'hjL).toNat : Int) + 1) % 256))
          have bx' := bx.farN (b := g) (o := j) hne (.int .u8 ((((L'[j]'hjL).toNat : Int) + 1) % 256))
          have bz' := bz.farN (b := g) (o := j) hnz (.int .u8 ((((L'[j]'hjL).toNat : Int) + 1) % 256))
          have hB' := hBw.setCell (p := ⟨g, j, none⟩) hgb (.int .u8 ((((L'[j]'hjL).toNat : Int) + 1) % 256))
          have hL2 := Lib.hid (show (L'.set j (L'[j] + 1)).length = d.length by rw [List.length_set]; exact hLl'.out)
          clear hst ho bx hBw hO hgl bz hoz
          go_wp2_with fail
          go_roundw
          case rel => exact ⟨j + 1, L'.set j (L'[j] + 1), by omega, by go_num, hL2, hst2, bx', bz', hoz', hB'⟩
          case measure => simp [intOf]; omega
        · obtain rfl : j = d.length := by omega
          obtain ⟨W13, rfl⟩ : ∃ W13 : World, W13 = wr := ⟨_, rfl⟩
          have K13 := K8.next hBw
          have hB13 := hB.trans (hBw.mono hB.size)
          have o1 := own_below ho14 hB13
          have o2 := own_below ho24 hB13
          clear ho hLl' x1 bx K8 K4 ho14 ho24 hB hBw hB13 hl8 HY
          go_wp2_with fail
          have HZ0 := Lib.hid (fun W (hW : Below W13.heap.size W13 W) => Blk.at_ (v := .int .u8 (k.toNat : Nat)) (bz.below hW bz.lt) 0 rfl)
          have HZ1 := Lib.hid (fun W (hW : Below W13.heap.size W13 W) => Blk.at_ (v := .slice A11 d.length c11) (bz.below hW bz.lt) 1 rfl)
          have HR0 := Lib.hid (fun W (hW : Below W13.heap.size W13 W) => Blk.at_ (v := .int .u8 (k.toNat : Nat)) (K13.hr.below hW K13.hr.lt) 0 rfl)
          have HR1 := Lib.hid (fun W (hW : Below W13.heap.size W13 W) => Blk.at_ (v := .slice A d.length c) (K13.hr.below hW K13.hr.lt) 1 rfl)
          have HS0 := Lib.hid (fun W (hW : Below W13.heap.size W13 W) => Blk.at_ (v := .int .u8 (k'.toNat : Nat)) (K13.hs.below hW K13.hs.lt) 0 rfl)
          have HS1 := Lib.hid (fun W (hW : Below W13.heap.size W13 W) => Blk.at_ (v := .slice A' d'.length c') (K13.hs.below hW K13.hs.lt) 1 rfl)
          have HBZ := Lib.hid (fun W (hW : Below W13.heap.size W13 W) => (own_bytes2 (own_below hoz hW)).1)
          have HBD := Lib.hid (fun W (hW : Below W13.heap.size W13 W) => (Row.below hI (K13.hb.trans (hW.mono K13.hb.size))).more (K13.hb.trans (hW.mono K13.hb.size)).size)
          have HBD' := Lib.hid (fun W (hW : Below W13.heap.size W13 W) => (Row.below hJ (K13.hb.trans (hW.mono K13.hb.size))).more (K13.hb.trans (hW.mono K13.hb.size)).size)
          have HO1 := Lib.hid (fun W (hW : Below W13.heap.size W13 W) => (own_bytes2 (own_below o1 hW)).1)
          have HO2 := Lib.hid (fun W (hW : Below W13.heap.size W13 W) => (own_bytes2 (own_below o2 hW)).1)
          have hS := (Below.refl W13.heap.size W13).drew
          by_cases he2 : putErr (k', d') = 0
          · have HEQ : Hid ((L == putL (k', d')) = sameB (k, d) (k', d')) := Lib.hid (by
              rw [HL.out]; unfold putL; rw [if_pos he2, sameB_eq, Bool.eq_iff_iff]
              simp only [beq_iff_eq, decide_eq_true_iff]
              exact Rec.bytes_inj HE.out he2)
            rw [he2]
            clear he2
            refine wp_region_heldG [] (fun _ W => Below W13.heap.size W13 W) (by kernel_rfl) ?_
            change wpAnyG _ _ _ _ _ _ 24 _ _ W13.drew
            refine g_take (i := 0) rfl rfl (by kernel_rfl) (by kernel_rfl) (by kernel_rfl) (by kernel_rfl) (by kernel_rfl) (fun _ _ _ h => h) hS (fun L W hL hW => by go_simp; rfl) ?_
            refine g_take (i := 1) rfl rfl (by kernel_rfl) (by kernel_rfl) (by kernel_rfl) (by kernel_rfl) (by kernel_rfl) (fun _ _ _ h => h) hS (fun L W hL hW => by go_simp; rfl) ?_
            refine g_take (i := 2) rfl rfl (by kernel_rfl) (by kernel_rfl) (by kernel_rfl) (by kernel_rfl) (by kernel_rfl) (fun _ _ _ h => h) hS (fun L W hL hW => by go_simp; rfl) ?_
            refine g_takeG (i := 3) rfl (by simp only [Region.wanted, yielded]; go_simp) (by kernel_rfl) (by kernel_rfl) (by kernel_rfl) (by kernel_rfl) (by kernel_rfl) (fun _ _ _ h => h) hS (fun L W hL hW => by have z0 := HZ0.out W hW; have z1 := HZ1.out W hW; have r0 := HR0.out W hW; have r1 := HR1.out W hW; have s0 := HS0.out W hW; have s1 := HS1.out W hW; go_simp; rfl) ?_
            refine g_takeG (i := 4) rfl (by simp only [Region.wanted, yielded]; go_simp) (by kernel_rfl) (by kernel_rfl) (by kernel_rfl) (by kernel_rfl) (by kernel_rfl) (fun _ _ _ h => h) hS (fun L W hL hW => by have z0 := HZ0.out W hW; have z1 := HZ1.out W hW; have r0 := HR0.out W hW; have r1 := HR1.out W hW; have s0 := HS0.out W hW; have s1 := HS1.out W hW; go_simp; rfl) ?_
            refine g_one (i := 5) rfl (by simp only [Region.wanted, yielded]; go_simp) (by kernel_rfl) fun K hK => ?_
            go_simp
            refine Calls.mono (samerec_any A11 A c11 c (k, d) (k, d) _ (HBZ.out _ hS) (HBD.out _ hS)) ?_
            rintro e W14 ⟨rfl, hb14⟩
            rw [show sameB (k, d) (k, d) = true by simp [sameB]]
            have hS2 := hS.trans (hb14.mono hS.size)
            refine hK _ _ hS2 ?_
            clear hK K
            refine g_take (i := 6) rfl rfl (by kernel_rfl) (by kernel_rfl) (by kernel_rfl) (by kernel_rfl) (by kernel_rfl) (fun _ _ _ h => h) hS2 (fun L W hL hW => by go_simp; rfl) ?_
            refine g_take (i := 7) rfl rfl (by kernel_rfl) (by kernel_rfl) (by kernel_rfl) (by kernel_rfl) (by kernel_rfl) (fun _ _ _ h => h) hS2 (fun L W hL hW => by go_simp; rfl) ?_
            refine g_takeG (i := 8) rfl (by simp only [Region.wanted, yielded]; go_simp) (by kernel_rfl) (by kernel_rfl) (by kernel_rfl) (by kernel_rfl) (by kernel_rfl) (fun _ _ _ h => h) hS2 (fun L W hL hW => by go_simp; rfl) ?_
            refine g_takeG (i := 9) rfl (by simp only [Region.wanted, yielded]; go_simp) (by kernel_rfl) (by kernel_rfl) (by kernel_rfl) (by kernel_rfl) (by kernel_rfl) (fun _ _ _ h => h) hS2 (fun L W hL hW => by go_simp; rfl) ?_
            refine g_takeG (i := 10) rfl (by simp only [Region.wanted, yielded]; go_simp) (by kernel_rfl) (by kernel_rfl) (by kernel_rfl) (by kernel_rfl) (by kernel_rfl) (fun _ _ _ h => h) hS2 (fun L W hL hW => by go_simp; rfl) ?_
            refine g_takeG (i := 11) rfl (by simp only [Region.wanted, yielded]; go_simp) (by kernel_rfl) (by kernel_rfl) (by kernel_rfl) (by kernel_rfl) (by kernel_rfl) (fun _ _ _ h => h) hS2 (fun L W hL hW => by go_simp; rfl) ?_
            refine g_takeG (i := 12) rfl (by simp only [Region.wanted, yielded]; go_simp) (by kernel_rfl) (by kernel_rfl) (by kernel_rfl) (by kernel_rfl) (by kernel_rfl) (fun _ _ _ h => h) hS2 (fun L W hL hW => by go_simp; rfl) ?_
            refine g_takeG (i := 14) rfl (by simp only [Region.wanted, yielded]; go_simp) (by kernel_rfl) (by kernel_rfl) (by kernel_rfl) (by kernel_rfl) (by kernel_rfl) (fun _ _ _ h => h) hS2 (fun L W hL hW => by have z0 := HZ0.out W hW; have z1 := HZ1.out W hW; have r0 := HR0.out W hW; have r1 := HR1.out W hW; have s0 := HS0.out W hW; have s1 := HS1.out W hW; go_simp; rfl) ?_
            refine g_takeG (i := 15) rfl (by simp only [Region.wanted, yielded]; go_simp) (by kernel_rfl) (by kernel_rfl) (by kernel_rfl) (by kernel_rfl) (by kernel_rfl) (fun _ _ _ h => h) hS2 (fun L W hL hW => by have z0 := HZ0.out W hW; have z1 := HZ1.out W hW; have r0 := HR0.out W hW; have r1 := HR1.out W hW; have s0 := HS0.out W hW; have s1 := HS1.out W hW; go_simp; rfl) ?_
            refine g_one (i := 13) rfl (by simp only [Region.wanted, yielded]; go_simp) (by kernel_rfl) fun K hK => ?_
            go_simp
            refine Calls.mono (same_any Ax Ay cx cy L (putL (k', d')) _ _ rfl rfl _ (HO1.out _ hS2) (HO2.out _ hS2)) ?_
            rintro e W' ⟨rfl, rfl⟩
            rw [HEQ.out]
            refine hK _ _ hS2 ?_
            clear hK K
            refine g_one (i := 16) rfl (by simp only [Region.wanted, yielded]; go_simp) (by kernel_rfl) fun K hK => ?_
            go_simp
            refine Calls.mono (samerec_any A A' c c' (k, d) (k', d') _ (HBD.out _ hS2) (HBD'.out _ hS2)) ?_
            rintro e W15 ⟨rfl, hb15⟩
            have hS3 := hS2.trans (hb15.mono hS2.size)
            refine hK _ _ hS3 ?_
            clear hK K
            refine g_takeG (i := 17) rfl (by simp only [Region.wanted, yielded]; go_simp) (by kernel_rfl) (by kernel_rfl) (by kernel_rfl) (by kernel_rfl) (by kernel_rfl) (fun _ _ _ h => h) hS3 (fun L W hL hW => by go_simp; rfl) ?_
            refine g_takeG (i := 18) rfl (by simp only [Region.wanted, yielded]; go_simp) (by kernel_rfl) (by kernel_rfl) (by kernel_rfl) (by kernel_rfl) (by kernel_rfl) (fun _ _ _ h => h) hS3 (fun L W hL hW => by go_simp; rfl) ?_
            refine g_take (i := 19) rfl rfl (by kernel_rfl) (by kernel_rfl) (by kernel_rfl) (by kernel_rfl) (by kernel_rfl) (fun _ _ _ h => h) hS3 (fun L W hL hW => by go_simp; rfl) ?_
            refine g_take (i := 20) rfl rfl (by kernel_rfl) (by kernel_rfl) (by kernel_rfl) (by kernel_rfl) (by kernel_rfl) (fun _ _ _ h => h) hS3 (fun L W hL hW => by go_simp; rfl) ?_
            refine g_one (i := 21) rfl (by simp only [Region.wanted, yielded]; go_simp) (by kernel_rfl) fun K hK => ?_
            go_simp
            refine Calls.mono (awake_any _) ?_
            rintro e W17 ⟨rfl, hb17⟩
            have hSE := hS3.trans (hb17.mono hS3.size)
            refine hK _ _ hSE ?_
            clear hK K
            refine g_take (i := 22) rfl rfl (by kernel_rfl) (by kernel_rfl) (by kernel_rfl) (by kernel_rfl) (by kernel_rfl) (fun _ _ _ h => h) hSE (fun L W hL hW => by go_simp; rfl) ?_
            refine g_take (i := 23) rfl rfl (by kernel_rfl) (by kernel_rfl) (by kernel_rfl) (by kernel_rfl) (by kernel_rfl) (fun _ _ _ h => h) hSE (fun L W hL hW => by go_simp; rfl) ?_
            refine wpAnyG_done (by kernel_rfl) ?_ _
            go_wp2_with fail
            go_ret
            exact ⟨rfl, K13.hb.trans (hSE.mono K13.hb.size)⟩
          · have e2 : (((putErr (k', d') : Nat) : Int) != 0) = true := by rw [bne_iff_ne]; omega
            clear he2
            refine wp_region_heldG [] (fun _ W => Below W13.heap.size W13 W) (by kernel_rfl) ?_
            change wpAnyG _ _ _ _ _ _ 24 _ _ W13.drew
            refine g_take (i := 0) rfl rfl (by kernel_rfl) (by kernel_rfl) (by kernel_rfl) (by kernel_rfl) (by kernel_rfl) (fun _ _ _ h => h) hS (fun L W hL hW => by go_simp; rfl) ?_
            refine g_take (i := 1) rfl rfl (by kernel_rfl) (by kernel_rfl) (by kernel_rfl) (by kernel_rfl) (by kernel_rfl) (fun _ _ _ h => h) hS (fun L W hL hW => by go_simp; rfl) ?_
            refine g_take (i := 2) rfl rfl (by kernel_rfl) (by kernel_rfl) (by kernel_rfl) (by kernel_rfl) (by kernel_rfl) (fun _ _ _ h => h) hS (fun L W hL hW => by go_simp; rfl) ?_
            refine g_takeG (i := 3) rfl (by simp only [Region.wanted, yielded]; go_simp) (by kernel_rfl) (by kernel_rfl) (by kernel_rfl) (by kernel_rfl) (by kernel_rfl) (fun _ _ _ h => h) hS (fun L W hL hW => by have z0 := HZ0.out W hW; have z1 := HZ1.out W hW; have r0 := HR0.out W hW; have r1 := HR1.out W hW; have s0 := HS0.out W hW; have s1 := HS1.out W hW; go_simp; rfl) ?_
            refine g_takeG (i := 4) rfl (by simp only [Region.wanted, yielded]; go_simp) (by kernel_rfl) (by kernel_rfl) (by kernel_rfl) (by kernel_rfl) (by kernel_rfl) (fun _ _ _ h => h) hS (fun L W hL hW => by have z0 := HZ0.out W hW; have z1 := HZ1.out W hW; have r0 := HR0.out W hW; have r1 := HR1.out W hW; have s0 := HS0.out W hW; have s1 := HS1.out W hW; go_simp; rfl) ?_
            refine g_one (i := 5) rfl (by simp only [Region.wanted, yielded]; go_simp) (by kernel_rfl) fun K hK => ?_
            go_simp
            refine Calls.mono (samerec_any A11 A c11 c (k, d) (k, d) _ (HBZ.out _ hS) (HBD.out _ hS)) ?_
            rintro e W14 ⟨rfl, hb14⟩
            rw [show sameB (k, d) (k, d) = true by simp [sameB]]
            have hS2 := hS.trans (hb14.mono hS.size)
            refine hK _ _ hS2 ?_
            clear hK K
            refine g_take (i := 6) rfl rfl (by kernel_rfl) (by kernel_rfl) (by kernel_rfl) (by kernel_rfl) (by kernel_rfl) (fun _ _ _ h => h) hS2 (fun L W hL hW => by go_simp; rfl) ?_
            refine g_take (i := 7) rfl rfl (by kernel_rfl) (by kernel_rfl) (by kernel_rfl) (by kernel_rfl) (by kernel_rfl) (fun _ _ _ h => h) hS2 (fun L W hL hW => by go_simp; rfl) ?_
            refine g_takeG (i := 8) rfl (by simp only [Region.wanted, yielded]; go_simp) (by kernel_rfl) (by kernel_rfl) (by kernel_rfl) (by kernel_rfl) (by kernel_rfl) (fun _ _ _ h => h) hS2 (fun L W hL hW => by go_simp; rfl) ?_
            refine g_takeG (i := 9) rfl (by simp only [Region.wanted, yielded]; go_simp) (by kernel_rfl) (by kernel_rfl) (by kernel_rfl) (by kernel_rfl) (by kernel_rfl) (fun _ _ _ h => h) hS2 (fun L W hL hW => by go_simp; rfl) ?_
            refine g_takeG (i := 10) rfl (by simp only [Region.wanted, yielded]; go_simp) (by kernel_rfl) (by kernel_rfl) (by kernel_rfl) (by kernel_rfl) (by kernel_rfl) (fun _ _ _ h => h) hS2 (fun L W hL hW => by go_simp; rfl) ?_
            refine g_skip (i := 11) rfl (by simp only [Region.wanted, yielded]; go_simp) (by kernel_rfl) (by kernel_rfl) (by kernel_rfl) (by kernel_rfl) (by kernel_rfl) (fun _ _ _ h => h) hS2 ?_
            refine g_skip (i := 12) rfl (by simp only [Region.wanted, yielded]; go_simp) (by kernel_rfl) (by kernel_rfl) (by kernel_rfl) (by kernel_rfl) (by kernel_rfl) (fun _ _ _ h => h) hS2 ?_
            refine g_skip (i := 13) rfl (by simp only [Region.wanted, yielded]; go_simp) (by kernel_rfl) (by kernel_rfl) (by kernel_rfl) (by kernel_rfl) (by kernel_rfl) (fun _ _ _ h => h) hS2 ?_
            refine g_skip (i := 14) rfl (by simp only [Region.wanted, yielded]; go_simp) (by kernel_rfl) (by kernel_rfl) (by kernel_rfl) (by kernel_rfl) (by kernel_rfl) (fun _ _ _ h => h) hS2 ?_
            refine g_skip (i := 15) rfl (by simp only [Region.wanted, yielded]; go_simp) (by kernel_rfl) (by kernel_rfl) (by kernel_rfl) (by kernel_rfl) (by kernel_rfl) (fun _ _ _ h => h) hS2 ?_
            refine g_skip (i := 16) rfl (by simp only [Region.wanted, yielded]; go_simp) (by kernel_rfl) (by kernel_rfl) (by kernel_rfl) (by kernel_rfl) (by kernel_rfl) (fun _ _ _ h => h) hS2 ?_
            refine g_skip (i := 17) rfl (by simp only [Region.wanted, yielded]; go_simp) (by kernel_rfl) (by kernel_rfl) (by kernel_rfl) (by kernel_rfl) (by kernel_rfl) (fun _ _ _ h => h) hS2 ?_
            refine g_takeG (i := 18) rfl (by simp only [Region.wanted, yielded]; go_simp) (by kernel_rfl) (by kernel_rfl) (by kernel_rfl) (by kernel_rfl) (by kernel_rfl) (fun _ _ _ h => h) hS2 (fun L W hL hW => by go_simp; rfl) ?_
            refine g_take (i := 19) rfl rfl (by kernel_rfl) (by kernel_rfl) (by kernel_rfl) (by kernel_rfl) (by kernel_rfl) (fun _ _ _ h => h) hS2 (fun L W hL hW => by go_simp; rfl) ?_
            refine g_take (i := 20) rfl rfl (by kernel_rfl) (by kernel_rfl) (by kernel_rfl) (by kernel_rfl) (by kernel_rfl) (fun _ _ _ h => h) hS2 (fun L W hL hW => by go_simp; rfl) ?_
            refine g_one (i := 21) rfl (by simp only [Region.wanted, yielded]; go_simp) (by kernel_rfl) fun K hK => ?_
            go_simp
            refine Calls.mono (awake_any _) ?_
            rintro e W17 ⟨rfl, hb17⟩
            have hSE := hS2.trans (hb17.mono hS2.size)
            refine hK _ _ hSE ?_
            clear hK K
            refine g_take (i := 22) rfl rfl (by kernel_rfl) (by kernel_rfl) (by kernel_rfl) (by kernel_rfl) (by kernel_rfl) (fun _ _ _ h => h) hSE (fun L W hL hW => by go_simp; rfl) ?_
            refine g_take (i := 23) rfl rfl (by kernel_rfl) (by kernel_rfl) (by kernel_rfl) (by kernel_rfl) (by kernel_rfl) (fun _ _ _ h => h) hSE (fun L W hL hW => by go_simp; rfl) ?_
            refine wpAnyG_done (by kernel_rfl) ?_ _
            go_wp2_with fail
            go_ret
            exact ⟨rfl, K13.hb.trans (hSE.mono K13.hb.size)⟩
end Go.Proofs.Ytboikajfcmgffaa.RecW
