/-
  The walk of Scan.
-/
import Derived.Test.YtnclbonoenjbeaaBatTake
namespace Go.Proofs.Ytnclbonoenjbeaa.BatW
set_option linter.unusedVariables false
open Go.RowKit Go.Proofs Go.Proofs.Ytnclbonoenjbeaa Go.Proofs.Ytnclbonoenjbeaa.Wd Go.Proofs.Ytnclbonoenjbeaa.RecW
open Go.Proofs.Ytnclbonoenjbeaa.Rec (R takeErr takeEnd takeRec)
open Go.Proofs.Ytnclbonoenjbeaa.Bat (B cnt St So scan)

theorem take_all {w : World} {base gs : Nat} {vo vk vd : Value} {s : St} {k : UInt8} {d : List UInt8} (h : TS w base gs vo vk s) (hd : w.ownsRow base 5 1 vd d.length (bs d)) (hm : s.2.length ≤ 1024) (hmo : s.1.length ≤ 1000000000000) (hdl : d.length ≤ 1000000) (hbase : base ≤ w.heap.size) :
    Calls Try.prog 28 #[.pointer (some ⟨gs, 0, none⟩), .agg #[.int .u8 (k.toNat : Nat), vd]] w (TakeOut w base gs s (k, d)) := by
  by_cases hk : k = 1
  · subst hk; exact take1_any h hd hm hbase
  · exact take2_any hk h hd hm hmo hdl hbase
theorem take_bad {s : St} {r : R} (h : (Bat.take s r).2.2 ≠ 0) : (Bat.take s r).1 = s := by
  unfold Bat.take at h ⊢
  split
  · split
    · rfl
    · rename_i h1 h2; rw [if_pos h1, if_neg h2] at h; exact absurd rfl h
  · split
    · rfl
    · rename_i h1 h2; rw [if_neg h1, if_neg h2] at h; exact absurd rfl h
theorem take_err (s : St) (r : R) : (Bat.take s r).2.2 = 0 ∨ (Bat.take s r).2.2 = 34 := by
  unfold Bat.take
  split <;> split <;> simp
theorem rec_short {b : List UInt8} (h : takeErr b = 0) : (takeRec b).2.length ≤ 4096 := by
  have h1 := (Rec.takeEnd_le h)
  have h2 := Bat.takeEnd_rec h
  have : takeEnd b = 9 + Rec.number (b.drop 5) := rfl
  omega
/-- What Scan answers. -/
def ScanOut (w : World) (b : List UInt8) (e : Ending) (w' : World) : Prop :=
  ∃ A c, e = .returned (.tuple #[.slice A (scan b).1.length c, .int .i64 ((scan b).2.1 : Nat), .int .i64 ((scan b).2.2 : Nat)]) ∧ Below w.heap.size w w' ∧ (scan b).1.length ≤ c ∧ c ≤ maxLen ∧ BRows3 w' w'.heap.size A (scan b).1
theorem scan_out {w w' : World} {b : List UInt8} {ll : List B} {te er : Nat} (h : scan b = (ll, te, er)) {A : Option Addr} {c : Nat} (hl : ll.length ≤ c) (hc : c ≤ maxLen) (hr : BRows3 w' w'.heap.size A ll) (hB : Below w.heap.size w w') {e : Ending} (he : e = .returned (.tuple #[.slice A ll.length c, .int .i64 (te : Nat), .int .i64 (er : Nat)])) : ScanOut w b e w' := by
  unfold ScanOut; rw [h]; exact ⟨A, c, he, hB, hl, hc, hr⟩

set_option maxRecDepth 100000 in
set_option maxHeartbeats 4000000 in
theorem bscan_any (A : Option Addr) (c : Nat) (b : List UInt8) (n : Nat) (hn : n = b.length) (hbc : n ≤ c) (hreach : n ≤ 1000000000000) (w : World) (hI : Bytes w w.heap.size A b) :
    Calls Try.prog 12 #[.slice A n c] w (ScanOut w b) := by
  have HN := Lib.hid hn
  clear hn
  have g2 : (n : Int) ≤ (c : Int) := by omega
  have infoR : (Try.prog.info? 42).map (·.size) = some 2 := by kernel_rfl
  have hg := Blk.new_ w 57 #[.slice none 0 0, .slice none 0 0] rfl
  have hbw : Below w.heap.size w (w.alloc (.cells #[.slice none 0 0, .slice none 0 0] 57)) := (Below.refl _ w).alloc (Nat.le_refl _) _
  have hT : TS (w.alloc (.cells #[.slice none 0 0, .slice none 0 0] 57)) w.heap.size w.heap.size (.slice none 0 0) (.slice none 0 0) ([], []) := ⟨Nat.le_refl _, hg, Kept.nil _ _, Outs.nil _ _ _⟩
  have HT0 := Lib.hid hT
  have HB0 := Lib.hid hbw
  clear hg hbw hT
  go_enter Try.func12, Try.ntmps12
  go_wp2
  go_loopw [6, 7] (fun e i wr => ∃ (k te : Nat) (s : St) (vo vk : Value), k ≤ n ∧ te ≤ n ∧ i = .int .i64 k ∧ e = .int .i64 te ∧ Hid (So b s k te) ∧ Hid (TS wr w.heap.size w.heap.size vo vk s) ∧ Hid (Below w.heap.size w wr) ∧ Hid (s.2.length ≤ 1024) ∧ Hid (s.1.length ≤ k)) (fun _ i _ => n - (intOf i).toNat)
  case atStart => exact ⟨0, 0, ([], []), _, _, Nat.zero_le _, Nat.zero_le _, rfl, rfl, Lib.hid (So.start b), HT0, HB0, Lib.hid (Nat.zero_le _), Lib.hid (Nat.zero_le _)⟩
  case round =>
    clear HT0 HB0
    obtain ⟨k, te, s, vo, vk, hk, hto, rfl, rfl, HS, HT, HB, HM, HO⟩ := hrel
    by_cases hlt : k < n
    · have hkl : k < b.length := by have := HN.out; omega
      obtain ⟨bb, off, rfl, hbb, -⟩ := hI.at_ hkl
      have hcd : Bytes w w.heap.size (some ⟨bb, off + k, none⟩) (b.drop k) := by
        unfold Bytes; rw [show bs (b.drop k) = (bs b).drop k by simp [bs, List.map_drop]]
        exact Row.drop hI (fun _ _ _ h => by cases h; rfl)
      have HK := Lib.hid hkl
      have HTK := Lib.hid (take_any (some ⟨bb, off + k, none⟩) (c - k) (b.drop k) (n - k) (by have := HN.out; simp; omega) (by have := HN.out; simp; omega) (by have := HN.out; simp; omega) wr (by exact (hcd.below HB.out).more HB.out.size))
      have g4 : ¬ c = k := by omega
      have g5 : (k : Int) ≤ (n : Int) := by omega
      clear hcd hkl
      go_wp2_with fail
      refine Calls.mono HTK.out ?_
      rintro e w1 hw
      obtain ⟨A1, c1, rfl, hb1, h4, h5, hown⟩ := hw.out
      clear HTK hw
      have HB1 := Lib.hid (HB.out.trans (hb1.mono HB.out.size))
      have HT1 := Lib.hid (HT.out.below hb1)
      obtain ⟨⟨rk, rd⟩, hr⟩ : ∃ r, tkRec (b.drop k) = r := ⟨_, rfl⟩
      obtain ⟨er, her⟩ : ∃ r, takeErr (b.drop k) = r := ⟨_, rfl⟩
      obtain ⟨m, hme⟩ : ∃ r, tkEnd (b.drop k) = r := ⟨_, rfl⟩
      rw [hr] at hown h4 ⊢
      rw [her, hme]
      dsimp only at hown h4 ⊢
      have HOW := Lib.hid (own_base hown HB.out.size)
      have HR := Lib.hid hr
      have HE := Lib.hid her
      have HME := Lib.hid hme
      clear HB HT hown hb1 hr her hme
      have hzr := Blk.new_ w1 42 #[.int .u8 0, .slice none 0 0] rfl
      have hb2 : Below w1.heap.size w1 ((w1.alloc (.cells #[.int .u8 0, .slice none 0 0] 42)).setRow w1.heap.size #[.int .u8 (rk.toNat : Nat), .slice A1 rd.length c1]) := below_setRow ((Below.refl _ w1).alloc (Nat.le_refl _) _) (Nat.le_refl _) _
      have HL1 : Hid (w.heap.size < w1.heap.size) := Lib.hid HT1.out.blk.lt
      have HB2 := Lib.hid (HB1.out.trans (hb2.mono HB1.out.size))
      have HT2 := Lib.hid (HT1.out.below hb2)
      have HOW2 := Lib.hid (own_belowT HOW.out hb2)
      clear hb2 HB1 HT1 HOW
      by_cases he : er = 0
      · have E0 := Lib.hid (HE.out.trans he)
        have hm1 : m = takeEnd (b.drop k) := by rw [← HME.out]; unfold tkEnd; rw [if_pos E0.out]
        have HRC : Hid (takeRec (b.drop k) = (rk, rd)) := Lib.hid (by rw [← HR.out]; unfold tkRec; rw [if_pos E0.out])
        have hle : k + m ≤ n ∧ 9 ≤ m := by
          have h1 := (Rec.takeEnd_le E0.out).2.1
          rw [List.length_drop, ← hm1] at h1
          have h2 := HN.out
          have h9 : 9 ≤ takeEnd (b.drop k) := by unfold takeEnd; omega
          omega
        have HM1 := Lib.hid hm1
        have hrd : rd.length ≤ 4096 := by have := rec_short E0.out; rw [HRC.out] at this; exact this
        obtain ⟨hle1, hle2⟩ := hle
        subst he
        have HTA := Lib.hid (take_all (k := rk) HT2.out HOW2.out HM.out (by have := HO.out; omega) (by omega) (by have := HB2.out.size; exact this))
        clear hm1
        go_wp2_with (first | (refine wpList_put_row rfl rfl 42 _ _ rfl w1.heap.size rfl 42 _ #[.int .u8 (rk.toNat : Nat), .slice A1 rd.length c1] rfl hzr (by rw [infoR]; rfl) rfl (by intro u hu; simp at hu; rcases hu with rfl | rfl <;> rfl) ?_) | (refine wpList_load_row rfl 42 (.tmp 8) rfl w1.heap.size rfl 42 #[.int .u8 (rk.toNat : Nat), .slice A1 rd.length c1] _ _ (hzr.row _) Try.underlying42 rfl (by rw [infoR]; rfl) ?_))
        refine Calls.mono HTA.out ?_
        rintro e w2 ⟨rfl, hb3, vo2, vk2, hT3⟩
        clear HTA hzr HT2 HOW2
        have HB3 := Lib.hid (HB2.out.trans hb3)
        obtain ⟨⟨⟨q1, q2⟩, qw, qe⟩, hq⟩ : ∃ q, Bat.take s (rk, rd) = q := ⟨_, rfl⟩
        rw [hq] at hT3 ⊢
        dsimp only at hT3 ⊢
        have HQ : Hid (Bat.take s (takeRec (b.drop k)) = ((q1, q2), qw, qe)) := Lib.hid (by rw [HRC.out, hq])
        have HT3 := Lib.hid hT3
        obtain ⟨Ao, co, hvo, hl1, hl2, hr3⟩ := hT3.outs.out
        subst hvo
        have HR3 := Lib.hid hr3
        have f0 := Blk.at_ hT3.blk 0 rfl
        clear hb3 hT3 hq hr3 HB2
        by_cases hqe : qe = 0
        · subst hqe
          have HNX := Lib.hid (HS.out.next E0.out HQ.out rfl)
          have HM2 : Hid (q2.length ≤ 1024) := Lib.hid (by have := Bat.take_kept (s := s) (r := takeRec (b.drop k)) HM.out; rw [HQ.out] at this; exact this)
          have HO2 : Hid (q1.length ≤ k + m) := Lib.hid (by have := Bat.take_bound (s := s) (r := takeRec (b.drop k)) HO.out; rw [HQ.out] at this; dsimp only at this; omega)
          rw [← HM1.out] at HNX
          dsimp only at HNX
          clear f0 HR3 HQ HRC HM1 HS HM HO E0 HE HME HR
          cases qw
          · go_wp2_with fail
            go_roundw
            case rel => exact ⟨k + m, te, (q1, q2), _, _, hle1, hto, by go_num, rfl, HNX, HT3, HB3, HM2, HO2⟩
            case measure => simp [intOf]; omega
          · go_wp2_with fail
            go_roundw
            case rel => exact ⟨k + m, k + m, (q1, q2), _, _, hle1, hle1, by go_num, by go_num, HNX, HT3, HB3, HM2, HO2⟩
            case measure => simp [intOf]; omega
        · have hqe2 : qe = 34 := by
            have := take_err s (takeRec (b.drop k)); rw [HQ.out] at this; exact this.resolve_left hqe
          subst hqe2
          have HST := Lib.hid (HS.out.bad E0.out HQ.out (show (34 : Nat) ≠ 0 by decide))
          have HSS : Hid (q1 = s.1) := Lib.hid (by have := take_bad (s := s) (r := takeRec (b.drop k)) (by rw [HQ.out]; show (34 : Nat) ≠ 0; decide); rw [HQ.out] at this; dsimp only at this; rw [← this])
          rw [← HSS.out] at HST
          clear HQ HRC HM1 HS HM HO E0 HE HME HR hqe
          go_wp2_with fail
          go_ret3
          exact scan_out HST.out hl1 hl2 HR3.out HB3.out rfl
      · have hst := Lib.hid (HS.out.stop HK.out (by rw [HE.out]; exact he))
        rw [HE.out] at hst
        obtain ⟨Ao, co, hvo, hl1, hl2, hr3⟩ := HT2.out.outs.out
        subst hvo
        have HR3 := Lib.hid hr3
        have f0 := Blk.at_ HT2.out.blk 0 rfl
        have hne : ((er : Int) != 0) = true := by rw [bne_iff_ne]; omega
        have hgg : ¬ w.heap.size = w1.heap.size := by have := HL1.out; omega
        clear hr3 he HS HM HO HE HME HR HOW2 HT2
        go_wp2_with (refine wpList_put_row rfl rfl 42 _ _ rfl w1.heap.size rfl 42 _ #[.int .u8 (rk.toNat : Nat), .slice A1 rd.length c1] rfl hzr (by rw [infoR]; rfl) rfl (by intro u hu; simp at hu; rcases hu with rfl | rfl <;> rfl) ?_)
        go_ret3
        exact scan_out hst.out hl1 hl2 HR3.out HB2.out rfl
    · obtain rfl : k = n := by omega
      have hfu := Lib.hid (HS.out.full (by have := HN.out; omega))
      obtain ⟨Ao, co, hvo, hl1, hl2, hr3⟩ := HT.out.outs.out
      obtain ⟨Ak, ck, hvk, hk1, hk2, hrk⟩ := HT.out.kept.reads
      subst hvo hvk
      have HR3 := Lib.hid hr3
      have f0 := Blk.at_ HT.out.blk 0 rfl
      have f1 := Blk.at_ HT.out.blk 1 rfl
      clear hr3 HS HT hrk
      obtain ⟨nk, hnk⟩ : ∃ x, x = s.2.length := ⟨_, rfl⟩
      rw [← hnk] at f1 hfu hk1
      clear hnk
      by_cases h0 : 0 < nk
      · have u1 : (0 : Int) < (nk : Int) := by omega
        rw [if_pos h0] at hfu
        go_wp2_with fail
        go_ret3
        exact scan_out hfu.out hl1 hl2 HR3.out HB.out rfl
      · have u1 : ¬ (0 : Int) < (nk : Int) := by omega
        rw [if_neg h0] at hfu
        go_wp2_with fail
        go_ret3
        exact scan_out hfu.out hl1 hl2 HR3.out HB.out rfl
end Go.Proofs.Ytnclbonoenjbeaa.BatW
