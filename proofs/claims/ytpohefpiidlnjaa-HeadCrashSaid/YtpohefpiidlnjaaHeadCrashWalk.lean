/-
  The walk of HeadCrash.
-/
import Derived.Test.YtpohefpiidlnjaaHeadAwake
import Derived.Test.YtpohefpiidlnjaaHeadPl2
import Derived.Test.YtpohefpiidlnjaaHeadArg2
namespace Go.Proofs.Ytpohefpiidlnjaa.HdW
set_option linter.unusedVariables false
open Go Go.RowKit Go.Shelf Go.Proofs Go.Proofs.Ytpohefpiidlnjaa Go.Proofs.Ytpohefpiidlnjaa.Wd Go.Proofs.Ytpohefpiidlnjaa.Dk Go.Proofs.Ytpohefpiidlnjaa.Hd

/-- What a crash keeps. -/
def kf (k : Nat) : Nat → Int := fun i => if i < 2 then 0 else k
set_option maxRecDepth 100000 in
set_option maxHeartbeats 8000000 in
theorem crash_walk (A : Option Addr) (n cp : Nat) (l : List H) (hn : n = l.length) (hnc : n ≤ cp) (hwf : ∀ h ∈ l, Wf h) (calls kp : Nat) (hcalls : calls < 256) (hkp : kp < 256) (w : World) (hI : Heads w w.heap.size A l) :
    Calls Try.prog 7 #[.slice A n cp, .int .u8 calls, .int .u8 kp] w fun e w' => e = .returned (.bool true) ∧ Below w.heap.size w w' := by
  have HN := Lib.hid hn
  have HWF := Lib.hid hwf
  have HI : Hid (∀ W, Below w.heap.size w W → Heads W w.heap.size A l) := Lib.hid fun W hW => hI.below hW
  have Y2 : Hid (IntKind.i64.wrap (kp : Int) = (kp : Int)) := Lib.hid (IntWalk.i64_in _ (by omega))
  clear hn hwf hI
  go_enter Try.func7, Try.ntmps7
  go_wp2_with fail
  refine Calls.mono (new_any 0 (by decide) w) ?_
  rintro en w2 ⟨rfl, hA, hB⟩
  obtain ⟨F, hFF⟩ : ∃ F : Nat → Prop, F = (fun j => j = w.heap.size) := ⟨_, rfl⟩
  obtain ⟨gd, hgd⟩ : ∃ g, g = w.heap.size := ⟨_, rfl⟩
  rw [← hFF, ← hgd] at hA
  rw [← hgd]
  have hgb : w.heap.size ≤ gd := by omega
  clear hFF hgd
  go_upto_region 2 with fail
  by_cases h20 : n ≤ 20
  rotate_left
  · clear hA hnc
    have u2 : (20 : Int) < (n : Int) := by omega
    clear h20
    go_wp2_with fail
    refine Calls.mono (awake_any _) ?_
    rintro e wz ⟨rfl, hb⟩
    have hB2 := hB.trans (hb.mono hB.size)
    go_wp2_with fail
    go_ret
    exact ⟨rfl, hB2⟩
  have u2 : ¬ (20 : Int) < (n : Int) := by omega
  have q9 := Blk.new_ w2 24 #[.int .u64 0, .int .u64 0, .int .u8 0] rfl
  have nq9 : ¬ F w2.heap.size := fun h => by have := (hA.lt h).2; omega
  have Gq9 := Lib.hid hB.size
  have hb := (Below.refl w2.heap.size w2).alloc (Nat.le_refl _) (.cells #[.int .u64 0, .int .u64 0, .int .u8 0] 24)
  have hA' := hA.below hb
  have hB' := hB.trans (hb.mono hB.size)
  clear hA hB hb
  have hA := hA'
  have hB := hB'
  clear hA' hB'
  go_upto_region 5 with fail
  clear u2
  generalize w2.alloc (.cells #[.int .u64 0, .int .u64 0, .int .u8 0] 24) = w3 at *
  generalize w2.heap.size = g9 at *
  go_wp2_with fail
  go_loopw [44] (fun ix wr => ∃ (i E V : Nat) (F : Nat → Prop) (s : DS), i ≤ n ∧ ix = .int .i64 i ∧ At wr gd F gd s ∧ Hid (CI s i ⟨i, E, V⟩) ∧ ¬ F g9 ∧ Blk wr g9 24 #[.int .u64 (i : Nat), .int .u64 (E : Nat), .int .u8 (V : Nat)] ∧ Below w.heap.size w wr) (fun ix _ => n - (intOf ix).toNat)
  case atStart => exact ⟨0, 0, 0, F, newD 0, by omega, rfl, hA, Lib.hid (CI.new 0), nq9, q9, hB⟩
  case round =>
    clear q9 hB hA nq9
    obtain ⟨i, E, V, F, s, hi, rfl, hA, HT, nq9, q9, hB⟩ := hrel
    by_cases hlt : i < n
    · have hil : i < l.length := by rw [← HN.out]; exact hlt
      obtain ⟨b, off, rfl, -, c0, c1, c2⟩ := HI.out _ hB i hil
      have hwf := HWF.out _ (List.getElem_mem hil)
      obtain ⟨⟨a, e, v⟩, hh⟩ : ∃ h, l[i] = h := ⟨_, rfl⟩
      rw [hh] at c0 c1 c2 hwf
      obtain ⟨wa, we, wv⟩ : a < 18446744073709551616 ∧ e < 18446744073709551616 ∧ v < 256 := ⟨hwf.serial, hwf.epoch, hwf.live⟩
      obtain ⟨x, hx⟩ : ∃ x, x = v % 2 := ⟨_, rfl⟩
      have i1 : (0 : Int) ≤ (i : Int) := by omega
      have i2 : (i : Int) < (n : Int) := by omega
      have T1 : Hid ((v : Int).tmod 2 = (x : Int)) := Lib.hid (by rw [Int.tmod_eq_emod_of_nonneg (Int.natCast_nonneg _)]; omega)
      have T2 : Hid (IntKind.u8.wrap (x : Int) = (x : Int)) := Lib.hid (by rw [IntKind.wrap_u8]; omega)
      have hx2 : x < 2 := by omega
      clear hh hwf hil hx wv
      have q11 := Blk.new_ wr 24 #[.int .u64 (a : Nat), .int .u64 (e : Nat), .int .u8 (v : Nat)] rfl
      have nq11 : ¬ F wr.heap.size := fun h => by have := (hA.lt h).2; omega
      have Gq11 : Hid (w.heap.size ≤ wr.heap.size) := Lib.hid hB.size
      have ne_q9_q11 : ¬ g9 = wr.heap.size := Nat.ne_of_lt q9.lt
      have hb := (Below.refl wr.heap.size wr).alloc (Nat.le_refl _) (.cells #[.int .u64 (a : Nat), .int .u64 (e : Nat), .int .u8 (v : Nat)] 24)
      have q9' := q9.below hb q9.lt
      have hA' := hA.below hb
      have hB' := hB.trans (hb.mono hB.size)
      clear q9 hA hB hb
      have q9 := q9'
      have hA := hA'
      have hB := hB'
      clear q9' hA' hB'
      go_upto_region 8 with fail
      generalize wr.alloc (.cells #[.int .u64 (a : Nat), .int .u64 (e : Nat), .int .u8 (v : Nat)] 24) = w4 at *
      generalize wr.heap.size = g11 at *
      clear c0 c1 c2 i1 i2
      have f0 := Blk.at_ q11 0 (v := .int .u64 (a : Nat)) rfl
      have f1 := Blk.at_ q11 1 (v := .int .u64 (e : Nat)) rfl
      have f2 := Blk.at_ q11 2 (v := .int .u8 (v : Nat)) rfl
      have d0 := Blk.at_ q9 0 (v := .int .u64 (i : Nat)) rfl
      have t1 := T1.out
      have t2 := T2.out
      have zf := q11.frozen
      have hfs : Fr (fun j => j = g11) w4 ((w4.setCell ⟨g11, 0, none⟩ (.int .u64 (i : Nat))).setCell ⟨g11, 2, none⟩ (.int .u8 (x : Nat))) := ((Fr.setCell (F := fun j => j = g11) (p := ⟨g11, 0, none⟩) (Fr.refl _ w4) (.inl rfl) (.int .u64 (i : Nat))).setCell (p := ⟨g11, 2, none⟩) (.inl rfl) (.int .u8 (x : Nat)))
      have q11' : Blk ((w4.setCell ⟨g11, 0, none⟩ (.int .u64 (i : Nat))).setCell ⟨g11, 2, none⟩ (.int .u8 (x : Nat))) g11 24 #[.int .u64 (i : Nat), .int .u64 (e : Nat), .int .u8 (x : Nat)] := ((q11.set_ 0 (.int .u64 (i : Nat))).set_ 2 (.int .u8 (x : Nat)))
      have q9' := q9.fr hfs ne_q9_q11
      have hA' := hA.fr hfs (fun k hk e => nq11 (e ▸ hk))
      have hB' := hB.trans (hfs.below hB.size fun k hk => by rw [hk]; exact Gq11.out)
      have Q := Lib.hid (And.intro q11' (And.intro q9' (And.intro hA' hB')))
      clear hfs q11 q11' hA hA' hB hB' q9 q9'
      go_upto_region 9 with fail
      clear f0 f1 f2 d0 t1 t2 zf T1 T2
      obtain ⟨q11, q9, hA, hB⟩ := Q.out
      clear Q
      generalize ((w4.setCell ⟨g11, 0, none⟩ (.int .u64 (i : Nat))).setCell ⟨g11, 2, none⟩ (.int .u8 (x : Nat))) = w5 at *
      obtain ⟨j, hj⟩ : ∃ j, j = i + 1 := ⟨_, rfl⟩
      have hr : right ⟨j, e, x⟩ = true := right_of (by show 0 < j; omega) hx2
      have hS := save_any hA i e x j (by omega) (by omega) we (by omega)
      rw [save_al HT.out.al hr] at hS
      simp only [hv] at hS
      have hK : ∀ m, m < 4 → -9223372036854775808 ≤ kf kp m ∧ kf kp m ≤ 9223372036854775807 := fun m _ => by unfold kf; split <;> omega
      have HC := Lib.hid (HT.out.next (kf kp) (h := ⟨j, e, x⟩) hj ⟨by show j < _; omega, we, by show x < 256; omega⟩ hx2)
      have HJ := Lib.hid hj
      have HK := Lib.hid hK
      have y1 : IntKind.u64.wrap ((i : Int) + 1) = (j : Int) := by rw [IntKind.wrap_u64]; omega
      have hjn : j ≤ n := by omega
      have Y1 := Lib.hid y1
      clear hr hj hK HT y1
      have f0 := Blk.at_ q11 0 (v := .int .u64 (i : Nat)) rfl
      have f1 := Blk.at_ q11 1 (v := .int .u64 (e : Nat)) rfl
      have f2 := Blk.at_ q11 2 (v := .int .u8 (x : Nat)) rfl
      go_wp2_with fail
      refine Calls.mono hS ?_
      rintro en w6 ⟨rfl, F2, hA2, hfr, hF2⟩
      clear hS
      have q9' := q9.fr hfr nq9
      have nq9' : ¬ F2 g9 := fun h => (hF2 _ h).elim nq9 (fun h => by have := q9.lt; omega)
      have q11' := q11.fr hfr nq11
      have nq11' : ¬ F2 g11 := fun h => (hF2 _ h).elim nq11 (fun h => by have := q11.lt; omega)
      have hA' : At w6 gd F2 gd (savedD ⟨j, e, x⟩ s) := hA2
      have hB' := hB.trans (hfr.below hB.size fun k hk => Nat.le_trans hgb (hA.lt hk).1)
      clear q9 nq9 q11 nq11 hA hB hfr hF2 hA2
      have q9 := q9'
      have nq9 := nq9'
      have q11 := q11'
      have nq11 := nq11'
      have hA := hA'
      have hB := hB'
      clear q9' nq9' q11' nq11' hA' hB'
      clear f0 f1 f2
      have q12 := Blk.new_ w6 24 #[.int .u64 (j : Nat), .int .u64 (e : Nat), .int .u8 (x : Nat)] rfl
      have nq12 : ¬ F2 w6.heap.size := fun h => by have := (hA.lt h).2; omega
      have hb := (Below.refl w6.heap.size w6).alloc (Nat.le_refl _) (.cells #[.int .u64 (j : Nat), .int .u64 (e : Nat), .int .u8 (x : Nat)] 24)
      have q9' := q9.below hb q9.lt
      have q11' := q11.below hb q11.lt
      have hA' := hA.below hb
      have hB' := hB.trans (hb.mono hB.size)
      clear q9 q11 hA hB hb
      have q9 := q9'
      have q11 := q11'
      have hA := hA'
      have hB := hB'
      clear q9' q11' hA' hB'
      go_upto_region 10 with fail
      generalize w6.alloc (.cells #[.int .u64 (j : Nat), .int .u64 (e : Nat), .int .u8 (x : Nat)] 24) = w7 at *
      generalize w6.heap.size = g12 at *
      have f0 := Blk.at_ q11 0 (v := .int .u64 (i : Nat)) rfl
      have f1 := Blk.at_ q11 1 (v := .int .u64 (e : Nat)) rfl
      have f2 := Blk.at_ q11 2 (v := .int .u8 (x : Nat)) rfl
      have p0 := Blk.at_ q12 0 (v := .int .u64 (j : Nat)) rfl
      have p1 := Blk.at_ q12 1 (v := .int .u64 (e : Nat)) rfl
      have p2 := Blk.at_ q12 2 (v := .int .u8 (x : Nat)) rfl
      have d0 := Blk.at_ q9 0 (v := .int .u64 (i : Nat)) rfl
      have d1 := Blk.at_ q9 1 (v := .int .u64 (E : Nat)) rfl
      have d2 := Blk.at_ q9 2 (v := .int .u8 (V : Nat)) rfl
      have y1 := Y1.out
      go_upto_region 12 with fail
      clear y1 Y1 f0 f1 f2 q11 nq11
      have zf := q9.frozen
      have hfs : Fr (fun j => j = g9) w7 (((w7.setCell ⟨g9, 0, none⟩ (.int .u64 (j : Nat))).setCell ⟨g9, 1, none⟩ (.int .u64 (e : Nat))).setCell ⟨g9, 2, none⟩ (.int .u8 (x : Nat))) := (((Fr.setCell (F := fun j => j = g9) (p := ⟨g9, 0, none⟩) (Fr.refl _ w7) (.inl rfl) (.int .u64 (j : Nat))).setCell (p := ⟨g9, 1, none⟩) (.inl rfl) (.int .u64 (e : Nat))).setCell (p := ⟨g9, 2, none⟩) (.inl rfl) (.int .u8 (x : Nat)))
      have q9' : Blk (((w7.setCell ⟨g9, 0, none⟩ (.int .u64 (j : Nat))).setCell ⟨g9, 1, none⟩ (.int .u64 (e : Nat))).setCell ⟨g9, 2, none⟩ (.int .u8 (x : Nat))) g9 24 #[.int .u64 (j : Nat), .int .u64 (e : Nat), .int .u8 (x : Nat)] := (((q9.set_ 0 (.int .u64 (j : Nat))).set_ 1 (.int .u64 (e : Nat))).set_ 2 (.int .u8 (x : Nat)))
      have hA' := hA.fr hfs (fun k hk e => nq9 (e ▸ hk))
      have hB' := hB.trans (hfs.below hB.size fun k hk => by rw [hk]; exact Gq9.out)
      have Q := Lib.hid (And.intro q9' (And.intro hA' hB'))
      clear hfs q9 q9' hA hA' hB hB'
      go_upto_region 13 with fail
      clear d0 d1 d2 p0 p1 p2 zf q12 nq12
      obtain ⟨q9, hA, hB⟩ := Q.out
      clear Q
      generalize (((w7.setCell ⟨g9, 0, none⟩ (.int .u64 (j : Nat))).setCell ⟨g9, 1, none⟩ (.int .u64 (e : Nat))).setCell ⟨g9, 2, none⟩ (.int .u8 (x : Nat))) = w8 at *
      have hS := crash_any hA (kf kp) HK.out
      have y2 := Y2.out
      go_wp2_with fail
      refine Calls.mono hS ?_
      rintro en w9 ⟨⟨vv, rfl⟩, F3, hA2, hfr, hF2⟩
      clear hS
      have q9' := q9.fr hfr nq9
      have nq9' : ¬ F3 g9 := fun h => (hF2 _ h).elim nq9 (fun h => by have := q9.lt; omega)
      have hA' : At w9 gd F3 gd (crashD (kf kp) (savedD ⟨j, e, x⟩ s)) := hA2
      have hB' := hB.trans (hfr.below hB.size fun k hk => Nat.le_trans hgb (hA.lt hk).1)
      clear q9 nq9 hA hB hfr hF2 hA2
      have q9 := q9'
      have nq9 := nq9'
      have hA := hA'
      have hB := hB'
      clear q9' nq9' hA' hB'
      clear y2
      have hS := load_any hA
      rw [HC.out.2] at hS
      simp only [hv] at hS
      go_wp2_with fail
      refine Calls.mono hS ?_
      rintro en w10 ⟨rfl, F4, hA2, hfr, hF2⟩
      clear hS
      have q9' := q9.fr hfr nq9
      have nq9' : ¬ F4 g9 := fun h => (hF2 _ h).elim nq9 (fun h => by have := q9.lt; omega)
      have hA' : At w10 gd F4 gd (crashD (kf kp) (savedD ⟨j, e, x⟩ s)) := hA2
      have hB' := hB.trans (hfr.below hB.size fun k hk => Nat.le_trans hgb (hA.lt hk).1)
      clear q9 nq9 hA hB hfr hF2 hA2
      have q9 := q9'
      have nq9 := nq9'
      have hA := hA'
      have hB := hB'
      clear q9' nq9' hA' hB'
      have q14 := Blk.new_ w10 24 #[.int .u64 (j : Nat), .int .u64 (e : Nat), .int .u8 (x : Nat)] rfl
      have nq14 : ¬ F4 w10.heap.size := fun h => by have := (hA.lt h).2; omega
      have hb := (Below.refl w10.heap.size w10).alloc (Nat.le_refl _) (.cells #[.int .u64 (j : Nat), .int .u64 (e : Nat), .int .u8 (x : Nat)] 24)
      have q9' := q9.below hb q9.lt
      have hA' := hA.below hb
      have hB' := hB.trans (hb.mono hB.size)
      clear q9 hA hB hb
      have q9 := q9'
      have hA := hA'
      have hB := hB'
      clear q9' hA' hB'
      go_upto_region 15 with fail
      generalize w10.alloc (.cells #[.int .u64 (j : Nat), .int .u64 (e : Nat), .int .u8 (x : Nat)] 24) = w11 at *
      generalize w10.heap.size = g14 at *
      have p0 := Blk.at_ q14 0 (v := .int .u64 (j : Nat)) rfl
      have p1 := Blk.at_ q14 1 (v := .int .u64 (e : Nat)) rfl
      have p2 := Blk.at_ q14 2 (v := .int .u8 (x : Nat)) rfl
      have d0 := Blk.at_ q9 0 (v := .int .u64 (j : Nat)) rfl
      have d1 := Blk.at_ q9 1 (v := .int .u64 (e : Nat)) rfl
      have d2 := Blk.at_ q9 2 (v := .int .u8 (x : Nat)) rfl
      go_wp2_with fail
      go_roundw
      case rel => exact ⟨j, e, x, F4, _, hjn, by rw [HJ.out]; go_num, hA, Lib.hid (by rw [HJ.out]; exact HJ.out ▸ HC.out.1), nq9, q9, hB⟩
      case measure => simp [intOf]; omega
    · obtain rfl : n = i := by omega
      clear hlt hi
      obtain ⟨E7, hE7⟩ : ∃ x, x = (E + 7) % 18446744073709551616 := ⟨_, rfl⟩
      have hV2 : V < 2 := HT.out.lv
      have hE64 : E < 18446744073709551616 := HT.out.wf.epoch
      obtain ⟨V1, hV⟩ : ∃ x, x = 1 - V := ⟨_, rfl⟩
      have hV1 : V1 < 2 := by omega
      obtain ⟨c, hc⟩ : ∃ x, x = calls % 3 := ⟨_, rfl⟩
      have hc3 : c < 3 := by omega
      obtain ⟨k40, hk40⟩ : ∃ x, x = kp % 40 := ⟨_, rfl⟩
      obtain ⟨j, hj⟩ : ∃ j, j = n + 1 := ⟨_, rfl⟩
      have hE7' : E7 < 18446744073709551616 := by omega
      have U1 : Hid (IntKind.u64.wrap ((E : Int) + 7) = (E7 : Int)) := Lib.hid (by rw [IntKind.wrap_u64]; omega)
      have U2 : Hid (IntKind.u8.wrap (1 - (V : Int)) = (V1 : Int)) := Lib.hid (by rw [IntKind.wrap_u8]; omega)
      have t3 : (calls : Int).tmod 3 = (c : Int) := by rw [Int.tmod_eq_emod_of_nonneg (Int.natCast_nonneg _)]; omega
      have y3 : IntKind.u8.wrap (c : Int) = (c : Int) := by rw [IntKind.wrap_u8]; omega
      have b3 : IntKind.i64.wrap (c : Int) = (c : Int) := IntWalk.i64_in _ (by omega)
      have T4 : Hid ((kp : Int).tmod 40 = (k40 : Int)) := Lib.hid (by rw [Int.tmod_eq_emod_of_nonneg (Int.natCast_nonneg _)]; omega)
      have Y4 : Hid (IntKind.u8.wrap (k40 : Int) = (k40 : Int)) := Lib.hid (by rw [IntKind.wrap_u8]; omega)
      have Y5 : Hid (IntKind.i64.wrap (k40 : Int) = (k40 : Int)) := Lib.hid (IntWalk.i64_in _ (by omega))
      have Y1 : Hid (IntKind.u64.wrap ((n : Int) + 1) = (j : Int)) := Lib.hid (by rw [IntKind.wrap_u64]; omega)
      have HJ := Lib.hid hj
      have hj64 : j < 18446744073709551616 := by omega
      have hk40' : k40 < 40 := by omega
      have X3 := Lib.hid t3
      have X4 := Lib.hid y3
      have X5 := Lib.hid b3
      clear hE7 hV hc hk40 hj t3 y3 b3
      have u1 := U1.out
      have u2 := U2.out
      have d0 := Blk.at_ q9 0 (v := .int .u64 (n : Nat)) rfl
      have d1 := Blk.at_ q9 1 (v := .int .u64 (E : Nat)) rfl
      have d2 := Blk.at_ q9 2 (v := .int .u8 (V : Nat)) rfl
      have q16 := Blk.new_ wr 24 #[.int .u64 (n : Nat), .int .u64 (E7 : Nat), .int .u8 (V1 : Nat)] rfl
      have nq16 : ¬ F wr.heap.size := fun h => by have := (hA.lt h).2; omega
      have Gq16 : Hid (w.heap.size ≤ wr.heap.size) := Lib.hid hB.size
      have NE9 : Hid (¬ g9 = wr.heap.size) := Lib.hid (Nat.ne_of_lt q9.lt)
      have hb := (Below.refl wr.heap.size wr).alloc (Nat.le_refl _) (.cells #[.int .u64 (n : Nat), .int .u64 (E7 : Nat), .int .u8 (V1 : Nat)] 24)
      have q9' := q9.below hb q9.lt
      have hA' := hA.below hb
      have hB' := hB.trans (hb.mono hB.size)
      clear q9 hA hB hb
      have q9 := q9'
      have hA := hA'
      have hB := hB'
      clear q9' hA' hB'
      go_upto_region 19 with fail
      clear d0 d1 d2 u1 u2 U1 U2
      generalize wr.alloc (.cells #[.int .u64 (n : Nat), .int .u64 (E7 : Nat), .int .u8 (V1 : Nat)] 24) = w4 at *
      generalize wr.heap.size = g16 at *
      have t3 := X3.out
      have y3 := X4.out
      have b3 := X5.out
      have hS := fuse_any hA (c : Int) 0 (by omega) (by decide)
      go_wp2_with fail
      refine Calls.mono hS ?_
      rintro en w5 ⟨⟨vv, rfl⟩, F2, hA2, hfr, hF2⟩
      clear hS
      have q9' := q9.fr hfr nq9
      have nq9' : ¬ F2 g9 := fun h => (hF2 _ h).elim nq9 (fun h => by have := q9.lt; omega)
      have q16' := q16.fr hfr nq16
      have nq16' : ¬ F2 g16 := fun h => (hF2 _ h).elim nq16 (fun h => by have := q16.lt; omega)
      have hA' : At w5 gd F2 gd (fuseD (c : Int) 0 s) := hA2
      have hB' := hB.trans (hfr.below hB.size fun k hk => Nat.le_trans hgb (hA.lt hk).1)
      clear q9 nq9 q16 nq16 hA hB hfr hF2 hA2
      have q9 := q9'
      have nq9 := nq9'
      have q16 := q16'
      have nq16 := nq16'
      have hA := hA'
      have hB := hB'
      clear q9' nq9' q16' nq16' hA' hB'
      obtain ⟨⟨⟨⟨x0, x1, x2⟩, cd⟩, s1⟩, hr⟩ : ∃ r, saveR (fuseD (c : Int) 0 s) ⟨j, E7, V1⟩ = r := ⟨_, rfl⟩
      have hS := save_any hA n E7 V1 j (by have := HJ.out; omega) (by omega) hE7' (by omega)
      rw [hr] at hS
      simp only [hv] at hS
      have LAW := Lib.hid (crash_law HT.out (kf k40) (h := ⟨j, E7, V1⟩) HJ.out ⟨hj64, hE7', by show V1 < 256; omega⟩ hV1 hc3 hr)
      clear hr t3 y3 b3
      have d0 := Blk.at_ q16 0 (v := .int .u64 (n : Nat)) rfl
      have d1 := Blk.at_ q16 1 (v := .int .u64 (E7 : Nat)) rfl
      have d2 := Blk.at_ q16 2 (v := .int .u8 (V1 : Nat)) rfl
      go_wp2_with fail
      refine Calls.mono hS ?_
      rintro en w6 ⟨rfl, F3, hA2, hfr, hF2⟩
      clear hS
      have q9' := q9.fr hfr nq9
      have nq9' : ¬ F3 g9 := fun h => (hF2 _ h).elim nq9 (fun h => by have := q9.lt; omega)
      have q16' := q16.fr hfr nq16
      have nq16' : ¬ F3 g16 := fun h => (hF2 _ h).elim nq16 (fun h => by have := q16.lt; omega)
      have hA' : At w6 gd F3 gd s1 := hA2
      have hB' := hB.trans (hfr.below hB.size fun k hk => Nat.le_trans hgb (hA.lt hk).1)
      clear q9 nq9 q16 nq16 hA hB hfr hF2 hA2
      have q9 := q9'
      have nq9 := nq9'
      have q16 := q16'
      have nq16 := nq16'
      have hA := hA'
      have hB := hB'
      clear q9' nq9' q16' nq16' hA' hB'
      clear d0 d1 d2
      have HU2 : Hid (g16 < w6.heap.size) := Lib.hid q16.lt
      have NE17 : Hid (¬ g16 = w6.heap.size) := Lib.hid (Nat.ne_of_lt q16.lt)
      have q17 := Blk.new_ w6 24 #[.int .u64 (x0 : Nat), .int .u64 (x1 : Nat), .int .u8 (x2 : Nat)] rfl
      have nq17 : ¬ F3 w6.heap.size := fun h => by have := (hA.lt h).2; omega
      have hb := (Below.refl w6.heap.size w6).alloc (Nat.le_refl _) (.cells #[.int .u64 (x0 : Nat), .int .u64 (x1 : Nat), .int .u8 (x2 : Nat)] 24)
      have q9' := q9.below hb q9.lt
      have q16' := q16.below hb q16.lt
      have hA' := hA.below hb
      have hB' := hB.trans (hb.mono hB.size)
      clear q9 q16 hA hB hb
      have q9 := q9'
      have q16 := q16'
      have hA := hA'
      have hB := hB'
      clear q9' q16' hA' hB'
      go_upto_region 21 with fail
      generalize w6.alloc (.cells #[.int .u64 (x0 : Nat), .int .u64 (x1 : Nat), .int .u8 (x2 : Nat)] 24) = w7 at *
      generalize w6.heap.size = g17 at *
      have t3 := X3.out
      have y3 := X4.out
      have b3 := X5.out
      clear X3 X4 X5
      have HL16 : Hid (g16 < w7.heap.size) := Lib.hid q16.lt
      obtain ⟨s2, hs2⟩ : ∃ t, t = crashD (kf k40) s1 := ⟨_, rfl⟩
      rcases LAW.out with ⟨hk2, h1, h2, h3⟩ | ⟨hk2, h1, h2⟩
      · cases h1
        subst hk2
        rw [← hs2] at h2 h3
        have HL := Lib.hid h2
        have HGD := Lib.hid h3
        clear h2 h3 LAW
        have f0 := Blk.at_ q17 0 (v := .int .u64 (j : Nat)) rfl
        have f1 := Blk.at_ q17 1 (v := .int .u64 (E7 : Nat)) rfl
        have f2 := Blk.at_ q17 2 (v := .int .u8 (V1 : Nat)) rfl
        go_upto_region 23 with fail
        clear f0 f1 f2
        have hK : ∀ m, m < 4 → -9223372036854775808 ≤ kf k40 m ∧ kf k40 m ≤ 9223372036854775807 := fun m _ => by unfold kf; split <;> omega
        have hS := crash_any hA (kf k40) hK
        have t4 := T4.out
        have y4 := Y4.out
        have y5 := Y5.out
        clear hK t3 y3 b3
        go_wp2_with fail
        refine Calls.mono hS ?_
        rintro en u1 ⟨⟨vv, rfl⟩, F12, hA2, hfr, hF2⟩
        clear hS
        have q9' := q9.fr hfr nq9
        have nq9' : ¬ F12 g9 := fun h => (hF2 _ h).elim nq9 (fun h => by have := q9.lt; omega)
        have q16' := q16.fr hfr nq16
        have nq16' : ¬ F12 g16 := fun h => (hF2 _ h).elim nq16 (fun h => by have := q16.lt; omega)
        have q17' := q17.fr hfr nq17
        have nq17' : ¬ F12 g17 := fun h => (hF2 _ h).elim nq17 (fun h => by have := q17.lt; omega)
        have hA' : At u1 gd F12 gd s2 := hs2 ▸ hA2
        have hB' := hB.trans (hfr.below hB.size fun k hk => Nat.le_trans hgb (hA.lt hk).1)
        clear q9 nq9 q16 nq16 q17 nq17 hA hB hfr hF2 hA2
        have q9 := q9'
        have nq9 := nq9'
        have q16 := q16'
        have nq16 := nq16'
        have q17 := q17'
        have nq17 := nq17'
        have hA := hA'
        have hB := hB'
        clear q9' nq9' q16' nq16' q17' nq17' hA' hB'
        clear t4 y4 y5
        have hS := load_any hA
        rw [HL.out] at hS
        simp only [hv] at hS
        go_wp2_with fail
        refine Calls.mono hS ?_
        rintro en u2 ⟨rfl, F13, hA2, hfr, hF2⟩
        clear hS
        have q9' := q9.fr hfr nq9
        have nq9' : ¬ F13 g9 := fun h => (hF2 _ h).elim nq9 (fun h => by have := q9.lt; omega)
        have q16' := q16.fr hfr nq16
        have nq16' : ¬ F13 g16 := fun h => (hF2 _ h).elim nq16 (fun h => by have := q16.lt; omega)
        have q17' := q17.fr hfr nq17
        have nq17' : ¬ F13 g17 := fun h => (hF2 _ h).elim nq17 (fun h => by have := q17.lt; omega)
        have hA' : At u2 gd F13 gd s2 := hA2
        have hB' := hB.trans (hfr.below hB.size fun k hk => Nat.le_trans hgb (hA.lt hk).1)
        clear q9 nq9 q16 nq16 q17 nq17 hA hB hfr hF2 hA2
        have q9 := q9'
        have nq9 := nq9'
        have q16 := q16'
        have nq16 := nq16'
        have q17 := q17'
        have nq17 := nq17'
        have hA := hA'
        have hB := hB'
        clear q9' nq9' q16' nq16' q17' nq17' hA' hB'
        have NE19 : Hid (¬ g16 = u2.heap.size) := Lib.hid (Nat.ne_of_lt q16.lt)
        have q19 := Blk.new_ u2 24 #[.int .u64 (j : Nat), .int .u64 (E7 : Nat), .int .u8 (V1 : Nat)] rfl
        have nq19 : ¬ F13 u2.heap.size := fun h => by have := (hA.lt h).2; omega
        have hb := (Below.refl u2.heap.size u2).alloc (Nat.le_refl _) (.cells #[.int .u64 (j : Nat), .int .u64 (E7 : Nat), .int .u8 (V1 : Nat)] 24)
        have q9' := q9.below hb q9.lt
        have q16' := q16.below hb q16.lt
        have q17' := q17.below hb q17.lt
        have hA' := hA.below hb
        have hB' := hB.trans (hb.mono hB.size)
        clear q9 q16 q17 hA hB hb
        have q9 := q9'
        have q16 := q16'
        have q17 := q17'
        have hA := hA'
        have hB := hB'
        clear q9' q16' q17' hA' hB'
        go_upto_region 25 with fail
        generalize u2.alloc (.cells #[.int .u64 (j : Nat), .int .u64 (E7 : Nat), .int .u8 (V1 : Nat)] 24) = u3 at *
        generalize u2.heap.size = g19 at *
        have ne_q9_q16 : ¬ g9 = g16 := NE9.out
        have ne_q17_q16 : ¬ g17 = g16 := fun e => NE17.out e.symm
        have ne_q19_q16 : ¬ g19 = g16 := fun e => NE19.out e.symm
        have d0 := Blk.at_ q16 0 (v := .int .u64 (n : Nat)) rfl
        have y1 := Y1.out
        have zf := q16.frozen
        have hfs : Fr (fun j => j = g16) u3 (u3.setCell ⟨g16, 0, none⟩ (.int .u64 (j : Nat))) := (Fr.setCell (F := fun j => j = g16) (p := ⟨g16, 0, none⟩) (Fr.refl _ u3) (.inl rfl) (.int .u64 (j : Nat)))
        have q16' : Blk (u3.setCell ⟨g16, 0, none⟩ (.int .u64 (j : Nat))) g16 24 #[.int .u64 (j : Nat), .int .u64 (E7 : Nat), .int .u8 (V1 : Nat)] := (q16.set_ 0 (.int .u64 (j : Nat)))
        have q9' := q9.fr hfs ne_q9_q16
        have q17' := q17.fr hfs ne_q17_q16
        have q19' := q19.fr hfs ne_q19_q16
        have hA' := hA.fr hfs (fun k hk e => nq16 (e ▸ hk))
        have hB' := hB.trans (hfs.below hB.size fun k hk => by rw [hk]; exact Gq16.out)
        have Q := Lib.hid (And.intro q16' (And.intro q9' (And.intro q17' (And.intro q19' (And.intro hA' hB')))))
        clear hfs q16 q16' hA hA' hB hB' q9 q9' q17 q17' q19 q19'
        go_upto_region 26 with fail
        clear d0 y1 zf
        obtain ⟨q16, q9, q17, q19, hA, hB⟩ := Q.out
        clear Q
        generalize (u3.setCell ⟨g16, 0, none⟩ (.int .u64 (j : Nat))) = u4 at *
        have d0 := Blk.at_ q9 0 (v := .int .u64 (n : Nat)) rfl
        have d1 := Blk.at_ q9 1 (v := .int .u64 (E : Nat)) rfl
        have d2 := Blk.at_ q9 2 (v := .int .u8 (V : Nat)) rfl
        have p0 := Blk.at_ q16 0 (v := .int .u64 (j : Nat)) rfl
        have p1 := Blk.at_ q16 1 (v := .int .u64 (E7 : Nat)) rfl
        have p2 := Blk.at_ q16 2 (v := .int .u8 (V1 : Nat)) rfl
        have f0 := Blk.at_ q17 0 (v := .int .u64 (j : Nat)) rfl
        have f1 := Blk.at_ q17 1 (v := .int .u64 (E7 : Nat)) rfl
        have f2 := Blk.at_ q17 2 (v := .int .u8 (V1 : Nat)) rfl
        have o0 := Blk.at_ q19 0 (v := .int .u64 (j : Nat)) rfl
        have o1 := Blk.at_ q19 1 (v := .int .u64 (E7 : Nat)) rfl
        have o2 := Blk.at_ q19 2 (v := .int .u8 (V1 : Nat)) rfl
        go_upto_region 33 with fail
        clear d0 d1 d2 p0 p1 p2 f0 f1 f2 o0 o1 o2
        clear q9 nq9 q16 nq16 q17 nq17
        obtain ⟨z0, hz0⟩ : ∃ z, z = j + 1 := ⟨_, rfl⟩
        have hz64 : z0 < 18446744073709551616 := by have := HJ.out; omega
        have hrz : right ⟨z0, E7, V1⟩ = true := right_of (by show 0 < z0; omega) hV1
        have HGN := Lib.hid (HGD.out.next (z := ⟨z0, E7, V1⟩) hz0 ⟨hz64, HGD.out.wf.epoch, HGD.out.wf.live⟩ hrz)
        have hS := save_any hA j E7 V1 z0 (by have := HJ.out; omega) (by have := HJ.out; omega) HGD.out.wf.epoch HGD.out.wf.live
        rw [HGN.out.1] at hS
        simp only [hv] at hS
        have y1 : IntKind.u64.wrap ((j : Int) + 1) = (z0 : Int) := by have := HJ.out; rw [IntKind.wrap_u64]; omega
        have Y3 := Lib.hid y1
        clear y1 hz0 hz64 hrz
        have f0 := Blk.at_ q19 0 (v := .int .u64 (j : Nat)) rfl
        have f1 := Blk.at_ q19 1 (v := .int .u64 (E7 : Nat)) rfl
        have f2 := Blk.at_ q19 2 (v := .int .u8 (V1 : Nat)) rfl
        go_wp2_with fail
        refine Calls.mono hS ?_
        rintro en v1 ⟨rfl, F14, hA2, hfr, hF2⟩
        clear hS
        have q19' := q19.fr hfr nq19
        have nq19' : ¬ F14 g19 := fun h => (hF2 _ h).elim nq19 (fun h => by have := q19.lt; omega)
        have hA' : At v1 gd F14 gd (savedD ⟨z0, E7, V1⟩ s2) := hA2
        have hB' := hB.trans (hfr.below hB.size fun k hk => Nat.le_trans hgb (hA.lt hk).1)
        clear q19 nq19 hA hB hfr hF2 hA2
        have q19 := q19'
        have nq19 := nq19'
        have hA := hA'
        have hB := hB'
        clear q19' nq19' hA' hB'
        clear f0 f1 f2
        have q21 := Blk.new_ v1 24 #[.int .u64 (z0 : Nat), .int .u64 (E7 : Nat), .int .u8 (V1 : Nat)] rfl
        have nq21 : ¬ F14 v1.heap.size := fun h => by have := (hA.lt h).2; omega
        have hb := (Below.refl v1.heap.size v1).alloc (Nat.le_refl _) (.cells #[.int .u64 (z0 : Nat), .int .u64 (E7 : Nat), .int .u8 (V1 : Nat)] 24)
        have q19' := q19.below hb q19.lt
        have hA' := hA.below hb
        have hB' := hB.trans (hb.mono hB.size)
        clear q19 hA hB hb
        have q19 := q19'
        have hA := hA'
        have hB := hB'
        clear q19' hA' hB'
        go_upto_region 34 with fail
        generalize v1.alloc (.cells #[.int .u64 (z0 : Nat), .int .u64 (E7 : Nat), .int .u8 (V1 : Nat)] 24) = v2 at *
        generalize v1.heap.size = g21 at *
        have hS := load_any hA
        rw [HGN.out.2] at hS
        simp only [hv] at hS
        go_wp2_with fail
        refine Calls.mono hS ?_
        rintro en v3 ⟨rfl, F15, hA2, hfr, hF2⟩
        clear hS
        have q19' := q19.fr hfr nq19
        have nq19' : ¬ F15 g19 := fun h => (hF2 _ h).elim nq19 (fun h => by have := q19.lt; omega)
        have q21' := q21.fr hfr nq21
        have nq21' : ¬ F15 g21 := fun h => (hF2 _ h).elim nq21 (fun h => by have := q21.lt; omega)
        have hA' : At v3 gd F15 gd (savedD ⟨z0, E7, V1⟩ s2) := hA2
        have hB' := hB.trans (hfr.below hB.size fun k hk => Nat.le_trans hgb (hA.lt hk).1)
        clear q19 nq19 q21 nq21 hA hB hfr hF2 hA2
        have q19 := q19'
        have nq19 := nq19'
        have q21 := q21'
        have nq21 := nq21'
        have hA := hA'
        have hB := hB'
        clear q19' nq19' q21' nq21' hA' hB'
        have q23 := Blk.new_ v3 24 #[.int .u64 (z0 : Nat), .int .u64 (E7 : Nat), .int .u8 (V1 : Nat)] rfl
        have nq23 : ¬ F15 v3.heap.size := fun h => by have := (hA.lt h).2; omega
        have hb := (Below.refl v3.heap.size v3).alloc (Nat.le_refl _) (.cells #[.int .u64 (z0 : Nat), .int .u64 (E7 : Nat), .int .u8 (V1 : Nat)] 24)
        have q19' := q19.below hb q19.lt
        have q21' := q21.below hb q21.lt
        have hA' := hA.below hb
        have hB' := hB.trans (hb.mono hB.size)
        clear q19 q21 hA hB hb
        have q19 := q19'
        have q21 := q21'
        have hA := hA'
        have hB := hB'
        clear q19' q21' hA' hB'
        go_upto_region 35 with fail
        generalize v3.alloc (.cells #[.int .u64 (z0 : Nat), .int .u64 (E7 : Nat), .int .u8 (V1 : Nat)] 24) = v4 at *
        generalize v3.heap.size = g23 at *
        have f0 := Blk.at_ q19 0 (v := .int .u64 (j : Nat)) rfl
        have f1 := Blk.at_ q19 1 (v := .int .u64 (E7 : Nat)) rfl
        have f2 := Blk.at_ q19 2 (v := .int .u8 (V1 : Nat)) rfl
        have p0 := Blk.at_ q21 0 (v := .int .u64 (z0 : Nat)) rfl
        have p1 := Blk.at_ q21 1 (v := .int .u64 (E7 : Nat)) rfl
        have p2 := Blk.at_ q21 2 (v := .int .u8 (V1 : Nat)) rfl
        have d0 := Blk.at_ q23 0 (v := .int .u64 (z0 : Nat)) rfl
        have d1 := Blk.at_ q23 1 (v := .int .u64 (E7 : Nat)) rfl
        have d2 := Blk.at_ q23 2 (v := .int .u8 (V1 : Nat)) rfl
        have y1 := Y3.out
        clear hA
        go_wp2_with fail
        refine Calls.mono (awake_any _) ?_
        rintro e wz ⟨rfl, hb⟩
        have hB2 := hB.trans (hb.mono hB.size)
        go_wp2_with fail
        go_ret
        exact ⟨rfl, hB2⟩
      · cases h1
        have ec : ¬ (c : Int) = 2 := by omega
        clear LAW
        rcases h2 with ⟨hn0, h2⟩ | ⟨y, hy, h2, h3⟩
        · rw [← hs2] at h2
          have HN0 := Lib.hid hn0
          clear hn0
          have HL := Lib.hid h2
          clear h2
          have f0 := Blk.at_ q17 0 (v := .int .u64 0) rfl
          have f1 := Blk.at_ q17 1 (v := .int .u64 0) rfl
          have f2 := Blk.at_ q17 2 (v := .int .u8 0) rfl
          go_upto_region 23 with fail
          clear f0 f1 f2
          have hK : ∀ m, m < 4 → -9223372036854775808 ≤ kf k40 m ∧ kf k40 m ≤ 9223372036854775807 := fun m _ => by unfold kf; split <;> omega
          have hS := crash_any hA (kf k40) hK
          have t4 := T4.out
          have y4 := Y4.out
          have y5 := Y5.out
          clear hK t3 y3 b3
          go_wp2_with fail
          refine Calls.mono hS ?_
          rintro en u1 ⟨⟨vv, rfl⟩, F12, hA2, hfr, hF2⟩
          clear hS
          have q9' := q9.fr hfr nq9
          have nq9' : ¬ F12 g9 := fun h => (hF2 _ h).elim nq9 (fun h => by have := q9.lt; omega)
          have q16' := q16.fr hfr nq16
          have nq16' : ¬ F12 g16 := fun h => (hF2 _ h).elim nq16 (fun h => by have := q16.lt; omega)
          have q17' := q17.fr hfr nq17
          have nq17' : ¬ F12 g17 := fun h => (hF2 _ h).elim nq17 (fun h => by have := q17.lt; omega)
          have hA' : At u1 gd F12 gd s2 := hs2 ▸ hA2
          have hB' := hB.trans (hfr.below hB.size fun k hk => Nat.le_trans hgb (hA.lt hk).1)
          clear q9 nq9 q16 nq16 q17 nq17 hA hB hfr hF2 hA2
          have q9 := q9'
          have nq9 := nq9'
          have q16 := q16'
          have nq16 := nq16'
          have q17 := q17'
          have nq17 := nq17'
          have hA := hA'
          have hB := hB'
          clear q9' nq9' q16' nq16' q17' nq17' hA' hB'
          clear t4 y4 y5
          have hS := load_any hA
          rw [HL.out] at hS
          simp only [hv, none_] at hS
          go_wp2_with fail
          refine Calls.mono hS ?_
          rintro en u2 ⟨rfl, F13, hA2, hfr, hF2⟩
          clear hS
          have q9' := q9.fr hfr nq9
          have nq9' : ¬ F13 g9 := fun h => (hF2 _ h).elim nq9 (fun h => by have := q9.lt; omega)
          have q16' := q16.fr hfr nq16
          have nq16' : ¬ F13 g16 := fun h => (hF2 _ h).elim nq16 (fun h => by have := q16.lt; omega)
          have q17' := q17.fr hfr nq17
          have nq17' : ¬ F13 g17 := fun h => (hF2 _ h).elim nq17 (fun h => by have := q17.lt; omega)
          have hA' : At u2 gd F13 gd s2 := hA2
          have hB' := hB.trans (hfr.below hB.size fun k hk => Nat.le_trans hgb (hA.lt hk).1)
          clear q9 nq9 q16 nq16 q17 nq17 hA hB hfr hF2 hA2
          have q9 := q9'
          have nq9 := nq9'
          have q16 := q16'
          have nq16 := nq16'
          have q17 := q17'
          have nq17 := nq17'
          have hA := hA'
          have hB := hB'
          clear q9' nq9' q16' nq16' q17' nq17' hA' hB'
          have NE19 : Hid (¬ g16 = u2.heap.size) := Lib.hid (Nat.ne_of_lt q16.lt)
          have q19 := Blk.new_ u2 24 #[.int .u64 0, .int .u64 0, .int .u8 0] rfl
          have nq19 : ¬ F13 u2.heap.size := fun h => by have := (hA.lt h).2; omega
          have hb := (Below.refl u2.heap.size u2).alloc (Nat.le_refl _) (.cells #[.int .u64 0, .int .u64 0, .int .u8 0] 24)
          have q9' := q9.below hb q9.lt
          have q16' := q16.below hb q16.lt
          have q17' := q17.below hb q17.lt
          have hA' := hA.below hb
          have hB' := hB.trans (hb.mono hB.size)
          clear q9 q16 q17 hA hB hb
          have q9 := q9'
          have q16 := q16'
          have q17 := q17'
          have hA := hA'
          have hB := hB'
          clear q9' q16' q17' hA' hB'
          go_upto_region 25 with fail
          generalize u2.alloc (.cells #[.int .u64 0, .int .u64 0, .int .u8 0] 24) = u3 at *
          generalize u2.heap.size = g19 at *
          have ne_q9_q16 : ¬ g9 = g16 := NE9.out
          have ne_q17_q16 : ¬ g17 = g16 := fun e => NE17.out e.symm
          have ne_q19_q16 : ¬ g19 = g16 := fun e => NE19.out e.symm
          have d0 := Blk.at_ q16 0 (v := .int .u64 (n : Nat)) rfl
          have y1 := Y1.out
          have zf := q16.frozen
          have hfs : Fr (fun j => j = g16) u3 (u3.setCell ⟨g16, 0, none⟩ (.int .u64 (j : Nat))) := (Fr.setCell (F := fun j => j = g16) (p := ⟨g16, 0, none⟩) (Fr.refl _ u3) (.inl rfl) (.int .u64 (j : Nat)))
          have q16' : Blk (u3.setCell ⟨g16, 0, none⟩ (.int .u64 (j : Nat))) g16 24 #[.int .u64 (j : Nat), .int .u64 (E7 : Nat), .int .u8 (V1 : Nat)] := (q16.set_ 0 (.int .u64 (j : Nat)))
          have q9' := q9.fr hfs ne_q9_q16
          have q17' := q17.fr hfs ne_q17_q16
          have q19' := q19.fr hfs ne_q19_q16
          have hA' := hA.fr hfs (fun k hk e => nq16 (e ▸ hk))
          have hB' := hB.trans (hfs.below hB.size fun k hk => by rw [hk]; exact Gq16.out)
          have Q := Lib.hid (And.intro q16' (And.intro q9' (And.intro q17' (And.intro q19' (And.intro hA' hB')))))
          clear hfs q16 q16' hA hA' hB hB' q9 q9' q17 q17' q19 q19'
          go_upto_region 26 with fail
          clear d0 y1 zf
          obtain ⟨q16, q9, q17, q19, hA, hB⟩ := Q.out
          clear Q
          generalize (u3.setCell ⟨g16, 0, none⟩ (.int .u64 (j : Nat))) = u4 at *
          have d0 := Blk.at_ q9 0 (v := .int .u64 (n : Nat)) rfl
          have d1 := Blk.at_ q9 1 (v := .int .u64 (E : Nat)) rfl
          have d2 := Blk.at_ q9 2 (v := .int .u8 (V : Nat)) rfl
          have p0 := Blk.at_ q16 0 (v := .int .u64 (j : Nat)) rfl
          have p1 := Blk.at_ q16 1 (v := .int .u64 (E7 : Nat)) rfl
          have p2 := Blk.at_ q16 2 (v := .int .u8 (V1 : Nat)) rfl
          have f0 := Blk.at_ q17 0 (v := .int .u64 0) rfl
          have f1 := Blk.at_ q17 1 (v := .int .u64 0) rfl
          have f2 := Blk.at_ q17 2 (v := .int .u8 0) rfl
          have o0 := Blk.at_ q19 0 (v := .int .u64 0) rfl
          have o1 := Blk.at_ q19 1 (v := .int .u64 0) rfl
          have o2 := Blk.at_ q19 2 (v := .int .u8 0) rfl
          clear hA
          have u6 : (n : Int) = 0 := by have := HN0.out; omega
          go_wp2_with fail
          refine Calls.mono (awake_any _) ?_
          rintro e wz ⟨rfl, hb⟩
          have hB2 := hB.trans (hb.mono hB.size)
          go_wp2_with fail
          go_ret
          exact ⟨rfl, hB2⟩
        · rw [← hs2] at h2 h3
          have HL := Lib.hid h2
          have HGD := Lib.hid h3
          clear h2 h3
          rcases hy with rfl | ⟨hy1, rfl⟩
          · have f0 := Blk.at_ q17 0 (v := .int .u64 0) rfl
            have f1 := Blk.at_ q17 1 (v := .int .u64 0) rfl
            have f2 := Blk.at_ q17 2 (v := .int .u8 0) rfl
            go_upto_region 23 with fail
            clear f0 f1 f2
            have hK : ∀ m, m < 4 → -9223372036854775808 ≤ kf k40 m ∧ kf k40 m ≤ 9223372036854775807 := fun m _ => by unfold kf; split <;> omega
            have hS := crash_any hA (kf k40) hK
            have t4 := T4.out
            have y4 := Y4.out
            have y5 := Y5.out
            clear hK t3 y3 b3
            go_wp2_with fail
            refine Calls.mono hS ?_
            rintro en u1 ⟨⟨vv, rfl⟩, F12, hA2, hfr, hF2⟩
            clear hS
            have q9' := q9.fr hfr nq9
            have nq9' : ¬ F12 g9 := fun h => (hF2 _ h).elim nq9 (fun h => by have := q9.lt; omega)
            have q16' := q16.fr hfr nq16
            have nq16' : ¬ F12 g16 := fun h => (hF2 _ h).elim nq16 (fun h => by have := q16.lt; omega)
            have q17' := q17.fr hfr nq17
            have nq17' : ¬ F12 g17 := fun h => (hF2 _ h).elim nq17 (fun h => by have := q17.lt; omega)
            have hA' : At u1 gd F12 gd s2 := hs2 ▸ hA2
            have hB' := hB.trans (hfr.below hB.size fun k hk => Nat.le_trans hgb (hA.lt hk).1)
            clear q9 nq9 q16 nq16 q17 nq17 hA hB hfr hF2 hA2
            have q9 := q9'
            have nq9 := nq9'
            have q16 := q16'
            have nq16 := nq16'
            have q17 := q17'
            have nq17 := nq17'
            have hA := hA'
            have hB := hB'
            clear q9' nq9' q16' nq16' q17' nq17' hA' hB'
            clear t4 y4 y5
            have hS := load_any hA
            rw [HL.out] at hS
            simp only [hv] at hS
            go_wp2_with fail
            refine Calls.mono hS ?_
            rintro en u2 ⟨rfl, F13, hA2, hfr, hF2⟩
            clear hS
            have q9' := q9.fr hfr nq9
            have nq9' : ¬ F13 g9 := fun h => (hF2 _ h).elim nq9 (fun h => by have := q9.lt; omega)
            have q16' := q16.fr hfr nq16
            have nq16' : ¬ F13 g16 := fun h => (hF2 _ h).elim nq16 (fun h => by have := q16.lt; omega)
            have q17' := q17.fr hfr nq17
            have nq17' : ¬ F13 g17 := fun h => (hF2 _ h).elim nq17 (fun h => by have := q17.lt; omega)
            have hA' : At u2 gd F13 gd s2 := hA2
            have hB' := hB.trans (hfr.below hB.size fun k hk => Nat.le_trans hgb (hA.lt hk).1)
            clear q9 nq9 q16 nq16 q17 nq17 hA hB hfr hF2 hA2
            have q9 := q9'
            have nq9 := nq9'
            have q16 := q16'
            have nq16 := nq16'
            have q17 := q17'
            have nq17 := nq17'
            have hA := hA'
            have hB := hB'
            clear q9' nq9' q16' nq16' q17' nq17' hA' hB'
            have NE19 : Hid (¬ g16 = u2.heap.size) := Lib.hid (Nat.ne_of_lt q16.lt)
            have q19 := Blk.new_ u2 24 #[.int .u64 (j : Nat), .int .u64 (E7 : Nat), .int .u8 (V1 : Nat)] rfl
            have nq19 : ¬ F13 u2.heap.size := fun h => by have := (hA.lt h).2; omega
            have hb := (Below.refl u2.heap.size u2).alloc (Nat.le_refl _) (.cells #[.int .u64 (j : Nat), .int .u64 (E7 : Nat), .int .u8 (V1 : Nat)] 24)
            have q9' := q9.below hb q9.lt
            have q16' := q16.below hb q16.lt
            have q17' := q17.below hb q17.lt
            have hA' := hA.below hb
            have hB' := hB.trans (hb.mono hB.size)
            clear q9 q16 q17 hA hB hb
            have q9 := q9'
            have q16 := q16'
            have q17 := q17'
            have hA := hA'
            have hB := hB'
            clear q9' q16' q17' hA' hB'
            go_upto_region 25 with fail
            generalize u2.alloc (.cells #[.int .u64 (j : Nat), .int .u64 (E7 : Nat), .int .u8 (V1 : Nat)] 24) = u3 at *
            generalize u2.heap.size = g19 at *
            have ne_q9_q16 : ¬ g9 = g16 := NE9.out
            have ne_q17_q16 : ¬ g17 = g16 := fun e => NE17.out e.symm
            have ne_q19_q16 : ¬ g19 = g16 := fun e => NE19.out e.symm
            have d0 := Blk.at_ q16 0 (v := .int .u64 (n : Nat)) rfl
            have y1 := Y1.out
            have zf := q16.frozen
            have hfs : Fr (fun j => j = g16) u3 (u3.setCell ⟨g16, 0, none⟩ (.int .u64 (j : Nat))) := (Fr.setCell (F := fun j => j = g16) (p := ⟨g16, 0, none⟩) (Fr.refl _ u3) (.inl rfl) (.int .u64 (j : Nat)))
            have q16' : Blk (u3.setCell ⟨g16, 0, none⟩ (.int .u64 (j : Nat))) g16 24 #[.int .u64 (j : Nat), .int .u64 (E7 : Nat), .int .u8 (V1 : Nat)] := (q16.set_ 0 (.int .u64 (j : Nat)))
            have q9' := q9.fr hfs ne_q9_q16
            have q17' := q17.fr hfs ne_q17_q16
            have q19' := q19.fr hfs ne_q19_q16
            have hA' := hA.fr hfs (fun k hk e => nq16 (e ▸ hk))
            have hB' := hB.trans (hfs.below hB.size fun k hk => by rw [hk]; exact Gq16.out)
            have Q := Lib.hid (And.intro q16' (And.intro q9' (And.intro q17' (And.intro q19' (And.intro hA' hB')))))
            clear hfs q16 q16' hA hA' hB hB' q9 q9' q17 q17' q19 q19'
            go_upto_region 26 with fail
            clear d0 y1 zf
            obtain ⟨q16, q9, q17, q19, hA, hB⟩ := Q.out
            clear Q
            generalize (u3.setCell ⟨g16, 0, none⟩ (.int .u64 (j : Nat))) = u4 at *
            have d0 := Blk.at_ q9 0 (v := .int .u64 (n : Nat)) rfl
            have d1 := Blk.at_ q9 1 (v := .int .u64 (E : Nat)) rfl
            have d2 := Blk.at_ q9 2 (v := .int .u8 (V : Nat)) rfl
            have p0 := Blk.at_ q16 0 (v := .int .u64 (j : Nat)) rfl
            have p1 := Blk.at_ q16 1 (v := .int .u64 (E7 : Nat)) rfl
            have p2 := Blk.at_ q16 2 (v := .int .u8 (V1 : Nat)) rfl
            have f0 := Blk.at_ q17 0 (v := .int .u64 0) rfl
            have f1 := Blk.at_ q17 1 (v := .int .u64 0) rfl
            have f2 := Blk.at_ q17 2 (v := .int .u8 0) rfl
            have o0 := Blk.at_ q19 0 (v := .int .u64 (j : Nat)) rfl
            have o1 := Blk.at_ q19 1 (v := .int .u64 (E7 : Nat)) rfl
            have o2 := Blk.at_ q19 2 (v := .int .u8 (V1 : Nat)) rfl
            have u5 : ¬ (j : Int) = (n : Int) := by have := HJ.out; omega
            by_cases hn0 : n = 0
            · have u6 : (n : Int) = 0 := by omega
              go_upto_region 33 with fail
              clear d0 d1 d2 p0 p1 p2 f0 f1 f2 o0 o1 o2
              clear q9 nq9 q16 nq16 q17 nq17
              obtain ⟨z0, hz0⟩ : ∃ z, z = j + 1 := ⟨_, rfl⟩
              have hz64 : z0 < 18446744073709551616 := by have := HJ.out; omega
              have hrz : right ⟨z0, E7, V1⟩ = true := right_of (by show 0 < z0; omega) hV1
              have HGN := Lib.hid (HGD.out.next (z := ⟨z0, E7, V1⟩) hz0 ⟨hz64, HGD.out.wf.epoch, HGD.out.wf.live⟩ hrz)
              have hS := save_any hA j E7 V1 z0 (by have := HJ.out; omega) (by have := HJ.out; omega) HGD.out.wf.epoch HGD.out.wf.live
              rw [HGN.out.1] at hS
              simp only [hv] at hS
              have y1 : IntKind.u64.wrap ((j : Int) + 1) = (z0 : Int) := by have := HJ.out; rw [IntKind.wrap_u64]; omega
              have Y3 := Lib.hid y1
              clear y1 hz0 hz64 hrz
              have f0 := Blk.at_ q19 0 (v := .int .u64 (j : Nat)) rfl
              have f1 := Blk.at_ q19 1 (v := .int .u64 (E7 : Nat)) rfl
              have f2 := Blk.at_ q19 2 (v := .int .u8 (V1 : Nat)) rfl
              go_wp2_with fail
              refine Calls.mono hS ?_
              rintro en v1 ⟨rfl, F14, hA2, hfr, hF2⟩
              clear hS
              have q19' := q19.fr hfr nq19
              have nq19' : ¬ F14 g19 := fun h => (hF2 _ h).elim nq19 (fun h => by have := q19.lt; omega)
              have hA' : At v1 gd F14 gd (savedD ⟨z0, E7, V1⟩ s2) := hA2
              have hB' := hB.trans (hfr.below hB.size fun k hk => Nat.le_trans hgb (hA.lt hk).1)
              clear q19 nq19 hA hB hfr hF2 hA2
              have q19 := q19'
              have nq19 := nq19'
              have hA := hA'
              have hB := hB'
              clear q19' nq19' hA' hB'
              clear f0 f1 f2
              have q21 := Blk.new_ v1 24 #[.int .u64 (z0 : Nat), .int .u64 (E7 : Nat), .int .u8 (V1 : Nat)] rfl
              have nq21 : ¬ F14 v1.heap.size := fun h => by have := (hA.lt h).2; omega
              have hb := (Below.refl v1.heap.size v1).alloc (Nat.le_refl _) (.cells #[.int .u64 (z0 : Nat), .int .u64 (E7 : Nat), .int .u8 (V1 : Nat)] 24)
              have q19' := q19.below hb q19.lt
              have hA' := hA.below hb
              have hB' := hB.trans (hb.mono hB.size)
              clear q19 hA hB hb
              have q19 := q19'
              have hA := hA'
              have hB := hB'
              clear q19' hA' hB'
              go_upto_region 34 with fail
              generalize v1.alloc (.cells #[.int .u64 (z0 : Nat), .int .u64 (E7 : Nat), .int .u8 (V1 : Nat)] 24) = v2 at *
              generalize v1.heap.size = g21 at *
              have hS := load_any hA
              rw [HGN.out.2] at hS
              simp only [hv] at hS
              go_wp2_with fail
              refine Calls.mono hS ?_
              rintro en v3 ⟨rfl, F15, hA2, hfr, hF2⟩
              clear hS
              have q19' := q19.fr hfr nq19
              have nq19' : ¬ F15 g19 := fun h => (hF2 _ h).elim nq19 (fun h => by have := q19.lt; omega)
              have q21' := q21.fr hfr nq21
              have nq21' : ¬ F15 g21 := fun h => (hF2 _ h).elim nq21 (fun h => by have := q21.lt; omega)
              have hA' : At v3 gd F15 gd (savedD ⟨z0, E7, V1⟩ s2) := hA2
              have hB' := hB.trans (hfr.below hB.size fun k hk => Nat.le_trans hgb (hA.lt hk).1)
              clear q19 nq19 q21 nq21 hA hB hfr hF2 hA2
              have q19 := q19'
              have nq19 := nq19'
              have q21 := q21'
              have nq21 := nq21'
              have hA := hA'
              have hB := hB'
              clear q19' nq19' q21' nq21' hA' hB'
              have q23 := Blk.new_ v3 24 #[.int .u64 (z0 : Nat), .int .u64 (E7 : Nat), .int .u8 (V1 : Nat)] rfl
              have nq23 : ¬ F15 v3.heap.size := fun h => by have := (hA.lt h).2; omega
              have hb := (Below.refl v3.heap.size v3).alloc (Nat.le_refl _) (.cells #[.int .u64 (z0 : Nat), .int .u64 (E7 : Nat), .int .u8 (V1 : Nat)] 24)
              have q19' := q19.below hb q19.lt
              have q21' := q21.below hb q21.lt
              have hA' := hA.below hb
              have hB' := hB.trans (hb.mono hB.size)
              clear q19 q21 hA hB hb
              have q19 := q19'
              have q21 := q21'
              have hA := hA'
              have hB := hB'
              clear q19' q21' hA' hB'
              go_upto_region 35 with fail
              generalize v3.alloc (.cells #[.int .u64 (z0 : Nat), .int .u64 (E7 : Nat), .int .u8 (V1 : Nat)] 24) = v4 at *
              generalize v3.heap.size = g23 at *
              have f0 := Blk.at_ q19 0 (v := .int .u64 (j : Nat)) rfl
              have f1 := Blk.at_ q19 1 (v := .int .u64 (E7 : Nat)) rfl
              have f2 := Blk.at_ q19 2 (v := .int .u8 (V1 : Nat)) rfl
              have p0 := Blk.at_ q21 0 (v := .int .u64 (z0 : Nat)) rfl
              have p1 := Blk.at_ q21 1 (v := .int .u64 (E7 : Nat)) rfl
              have p2 := Blk.at_ q21 2 (v := .int .u8 (V1 : Nat)) rfl
              have d0 := Blk.at_ q23 0 (v := .int .u64 (z0 : Nat)) rfl
              have d1 := Blk.at_ q23 1 (v := .int .u64 (E7 : Nat)) rfl
              have d2 := Blk.at_ q23 2 (v := .int .u8 (V1 : Nat)) rfl
              have y1 := Y3.out
              clear hA
              go_wp2_with fail
              refine Calls.mono (awake_any _) ?_
              rintro e wz ⟨rfl, hb⟩
              have hB2 := hB.trans (hb.mono hB.size)
              go_wp2_with fail
              go_ret
              exact ⟨rfl, hB2⟩
            · have u6 : ¬ (n : Int) = 0 := by omega
              go_upto_region 33 with fail
              clear d0 d1 d2 p0 p1 p2 f0 f1 f2 o0 o1 o2
              clear q9 nq9 q16 nq16 q17 nq17
              obtain ⟨z0, hz0⟩ : ∃ z, z = j + 1 := ⟨_, rfl⟩
              have hz64 : z0 < 18446744073709551616 := by have := HJ.out; omega
              have hrz : right ⟨z0, E7, V1⟩ = true := right_of (by show 0 < z0; omega) hV1
              have HGN := Lib.hid (HGD.out.next (z := ⟨z0, E7, V1⟩) hz0 ⟨hz64, HGD.out.wf.epoch, HGD.out.wf.live⟩ hrz)
              have hS := save_any hA j E7 V1 z0 (by have := HJ.out; omega) (by have := HJ.out; omega) HGD.out.wf.epoch HGD.out.wf.live
              rw [HGN.out.1] at hS
              simp only [hv] at hS
              have y1 : IntKind.u64.wrap ((j : Int) + 1) = (z0 : Int) := by have := HJ.out; rw [IntKind.wrap_u64]; omega
              have Y3 := Lib.hid y1
              clear y1 hz0 hz64 hrz
              have f0 := Blk.at_ q19 0 (v := .int .u64 (j : Nat)) rfl
              have f1 := Blk.at_ q19 1 (v := .int .u64 (E7 : Nat)) rfl
              have f2 := Blk.at_ q19 2 (v := .int .u8 (V1 : Nat)) rfl
              go_wp2_with fail
              refine Calls.mono hS ?_
              rintro en v1 ⟨rfl, F14, hA2, hfr, hF2⟩
              clear hS
              have q19' := q19.fr hfr nq19
              have nq19' : ¬ F14 g19 := fun h => (hF2 _ h).elim nq19 (fun h => by have := q19.lt; omega)
              have hA' : At v1 gd F14 gd (savedD ⟨z0, E7, V1⟩ s2) := hA2
              have hB' := hB.trans (hfr.below hB.size fun k hk => Nat.le_trans hgb (hA.lt hk).1)
              clear q19 nq19 hA hB hfr hF2 hA2
              have q19 := q19'
              have nq19 := nq19'
              have hA := hA'
              have hB := hB'
              clear q19' nq19' hA' hB'
              clear f0 f1 f2
              have q21 := Blk.new_ v1 24 #[.int .u64 (z0 : Nat), .int .u64 (E7 : Nat), .int .u8 (V1 : Nat)] rfl
              have nq21 : ¬ F14 v1.heap.size := fun h => by have := (hA.lt h).2; omega
              have hb := (Below.refl v1.heap.size v1).alloc (Nat.le_refl _) (.cells #[.int .u64 (z0 : Nat), .int .u64 (E7 : Nat), .int .u8 (V1 : Nat)] 24)
              have q19' := q19.below hb q19.lt
              have hA' := hA.below hb
              have hB' := hB.trans (hb.mono hB.size)
              clear q19 hA hB hb
              have q19 := q19'
              have hA := hA'
              have hB := hB'
              clear q19' hA' hB'
              go_upto_region 34 with fail
              generalize v1.alloc (.cells #[.int .u64 (z0 : Nat), .int .u64 (E7 : Nat), .int .u8 (V1 : Nat)] 24) = v2 at *
              generalize v1.heap.size = g21 at *
              have hS := load_any hA
              rw [HGN.out.2] at hS
              simp only [hv] at hS
              go_wp2_with fail
              refine Calls.mono hS ?_
              rintro en v3 ⟨rfl, F15, hA2, hfr, hF2⟩
              clear hS
              have q19' := q19.fr hfr nq19
              have nq19' : ¬ F15 g19 := fun h => (hF2 _ h).elim nq19 (fun h => by have := q19.lt; omega)
              have q21' := q21.fr hfr nq21
              have nq21' : ¬ F15 g21 := fun h => (hF2 _ h).elim nq21 (fun h => by have := q21.lt; omega)
              have hA' : At v3 gd F15 gd (savedD ⟨z0, E7, V1⟩ s2) := hA2
              have hB' := hB.trans (hfr.below hB.size fun k hk => Nat.le_trans hgb (hA.lt hk).1)
              clear q19 nq19 q21 nq21 hA hB hfr hF2 hA2
              have q19 := q19'
              have nq19 := nq19'
              have q21 := q21'
              have nq21 := nq21'
              have hA := hA'
              have hB := hB'
              clear q19' nq19' q21' nq21' hA' hB'
              have q23 := Blk.new_ v3 24 #[.int .u64 (z0 : Nat), .int .u64 (E7 : Nat), .int .u8 (V1 : Nat)] rfl
              have nq23 : ¬ F15 v3.heap.size := fun h => by have := (hA.lt h).2; omega
              have hb := (Below.refl v3.heap.size v3).alloc (Nat.le_refl _) (.cells #[.int .u64 (z0 : Nat), .int .u64 (E7 : Nat), .int .u8 (V1 : Nat)] 24)
              have q19' := q19.below hb q19.lt
              have q21' := q21.below hb q21.lt
              have hA' := hA.below hb
              have hB' := hB.trans (hb.mono hB.size)
              clear q19 q21 hA hB hb
              have q19 := q19'
              have q21 := q21'
              have hA := hA'
              have hB := hB'
              clear q19' q21' hA' hB'
              go_upto_region 35 with fail
              generalize v3.alloc (.cells #[.int .u64 (z0 : Nat), .int .u64 (E7 : Nat), .int .u8 (V1 : Nat)] 24) = v4 at *
              generalize v3.heap.size = g23 at *
              have f0 := Blk.at_ q19 0 (v := .int .u64 (j : Nat)) rfl
              have f1 := Blk.at_ q19 1 (v := .int .u64 (E7 : Nat)) rfl
              have f2 := Blk.at_ q19 2 (v := .int .u8 (V1 : Nat)) rfl
              have p0 := Blk.at_ q21 0 (v := .int .u64 (z0 : Nat)) rfl
              have p1 := Blk.at_ q21 1 (v := .int .u64 (E7 : Nat)) rfl
              have p2 := Blk.at_ q21 2 (v := .int .u8 (V1 : Nat)) rfl
              have d0 := Blk.at_ q23 0 (v := .int .u64 (z0 : Nat)) rfl
              have d1 := Blk.at_ q23 1 (v := .int .u64 (E7 : Nat)) rfl
              have d2 := Blk.at_ q23 2 (v := .int .u8 (V1 : Nat)) rfl
              have y1 := Y3.out
              clear hA
              go_wp2_with fail
              refine Calls.mono (awake_any _) ?_
              rintro e wz ⟨rfl, hb⟩
              have hB2 := hB.trans (hb.mono hB.size)
              go_wp2_with fail
              go_ret
              exact ⟨rfl, hB2⟩
          · have HY1 : Hid (¬ n = 0) := Lib.hid (by omega)
            clear hy1
            have f0 := Blk.at_ q17 0 (v := .int .u64 0) rfl
            have f1 := Blk.at_ q17 1 (v := .int .u64 0) rfl
            have f2 := Blk.at_ q17 2 (v := .int .u8 0) rfl
            go_upto_region 23 with fail
            clear f0 f1 f2
            have hK : ∀ m, m < 4 → -9223372036854775808 ≤ kf k40 m ∧ kf k40 m ≤ 9223372036854775807 := fun m _ => by unfold kf; split <;> omega
            have hS := crash_any hA (kf k40) hK
            have t4 := T4.out
            have y4 := Y4.out
            have y5 := Y5.out
            clear hK t3 y3 b3
            go_wp2_with fail
            refine Calls.mono hS ?_
            rintro en u1 ⟨⟨vv, rfl⟩, F12, hA2, hfr, hF2⟩
            clear hS
            have q9' := q9.fr hfr nq9
            have nq9' : ¬ F12 g9 := fun h => (hF2 _ h).elim nq9 (fun h => by have := q9.lt; omega)
            have q16' := q16.fr hfr nq16
            have nq16' : ¬ F12 g16 := fun h => (hF2 _ h).elim nq16 (fun h => by have := q16.lt; omega)
            have q17' := q17.fr hfr nq17
            have nq17' : ¬ F12 g17 := fun h => (hF2 _ h).elim nq17 (fun h => by have := q17.lt; omega)
            have hA' : At u1 gd F12 gd s2 := hs2 ▸ hA2
            have hB' := hB.trans (hfr.below hB.size fun k hk => Nat.le_trans hgb (hA.lt hk).1)
            clear q9 nq9 q16 nq16 q17 nq17 hA hB hfr hF2 hA2
            have q9 := q9'
            have nq9 := nq9'
            have q16 := q16'
            have nq16 := nq16'
            have q17 := q17'
            have nq17 := nq17'
            have hA := hA'
            have hB := hB'
            clear q9' nq9' q16' nq16' q17' nq17' hA' hB'
            clear t4 y4 y5
            have hS := load_any hA
            rw [HL.out] at hS
            simp only [hv] at hS
            go_wp2_with fail
            refine Calls.mono hS ?_
            rintro en u2 ⟨rfl, F13, hA2, hfr, hF2⟩
            clear hS
            have q9' := q9.fr hfr nq9
            have nq9' : ¬ F13 g9 := fun h => (hF2 _ h).elim nq9 (fun h => by have := q9.lt; omega)
            have q16' := q16.fr hfr nq16
            have nq16' : ¬ F13 g16 := fun h => (hF2 _ h).elim nq16 (fun h => by have := q16.lt; omega)
            have q17' := q17.fr hfr nq17
            have nq17' : ¬ F13 g17 := fun h => (hF2 _ h).elim nq17 (fun h => by have := q17.lt; omega)
            have hA' : At u2 gd F13 gd s2 := hA2
            have hB' := hB.trans (hfr.below hB.size fun k hk => Nat.le_trans hgb (hA.lt hk).1)
            clear q9 nq9 q16 nq16 q17 nq17 hA hB hfr hF2 hA2
            have q9 := q9'
            have nq9 := nq9'
            have q16 := q16'
            have nq16 := nq16'
            have q17 := q17'
            have nq17 := nq17'
            have hA := hA'
            have hB := hB'
            clear q9' nq9' q16' nq16' q17' nq17' hA' hB'
            have NE19 : Hid (¬ g16 = u2.heap.size) := Lib.hid (Nat.ne_of_lt q16.lt)
            have q19 := Blk.new_ u2 24 #[.int .u64 (n : Nat), .int .u64 (E : Nat), .int .u8 (V : Nat)] rfl
            have nq19 : ¬ F13 u2.heap.size := fun h => by have := (hA.lt h).2; omega
            have hb := (Below.refl u2.heap.size u2).alloc (Nat.le_refl _) (.cells #[.int .u64 (n : Nat), .int .u64 (E : Nat), .int .u8 (V : Nat)] 24)
            have q9' := q9.below hb q9.lt
            have q16' := q16.below hb q16.lt
            have q17' := q17.below hb q17.lt
            have hA' := hA.below hb
            have hB' := hB.trans (hb.mono hB.size)
            clear q9 q16 q17 hA hB hb
            have q9 := q9'
            have q16 := q16'
            have q17 := q17'
            have hA := hA'
            have hB := hB'
            clear q9' q16' q17' hA' hB'
            go_upto_region 25 with fail
            generalize u2.alloc (.cells #[.int .u64 (n : Nat), .int .u64 (E : Nat), .int .u8 (V : Nat)] 24) = u3 at *
            generalize u2.heap.size = g19 at *
            have ne_q9_q16 : ¬ g9 = g16 := NE9.out
            have ne_q17_q16 : ¬ g17 = g16 := fun e => NE17.out e.symm
            have ne_q19_q16 : ¬ g19 = g16 := fun e => NE19.out e.symm
            have d0 := Blk.at_ q16 0 (v := .int .u64 (n : Nat)) rfl
            have y1 := Y1.out
            have zf := q16.frozen
            have hfs : Fr (fun j => j = g16) u3 (u3.setCell ⟨g16, 0, none⟩ (.int .u64 (j : Nat))) := (Fr.setCell (F := fun j => j = g16) (p := ⟨g16, 0, none⟩) (Fr.refl _ u3) (.inl rfl) (.int .u64 (j : Nat)))
            have q16' : Blk (u3.setCell ⟨g16, 0, none⟩ (.int .u64 (j : Nat))) g16 24 #[.int .u64 (j : Nat), .int .u64 (E7 : Nat), .int .u8 (V1 : Nat)] := (q16.set_ 0 (.int .u64 (j : Nat)))
            have q9' := q9.fr hfs ne_q9_q16
            have q17' := q17.fr hfs ne_q17_q16
            have q19' := q19.fr hfs ne_q19_q16
            have hA' := hA.fr hfs (fun k hk e => nq16 (e ▸ hk))
            have hB' := hB.trans (hfs.below hB.size fun k hk => by rw [hk]; exact Gq16.out)
            have Q := Lib.hid (And.intro q16' (And.intro q9' (And.intro q17' (And.intro q19' (And.intro hA' hB')))))
            clear hfs q16 q16' hA hA' hB hB' q9 q9' q17 q17' q19 q19'
            go_upto_region 26 with fail
            clear d0 y1 zf
            obtain ⟨q16, q9, q17, q19, hA, hB⟩ := Q.out
            clear Q
            generalize (u3.setCell ⟨g16, 0, none⟩ (.int .u64 (j : Nat))) = u4 at *
            have d0 := Blk.at_ q9 0 (v := .int .u64 (n : Nat)) rfl
            have d1 := Blk.at_ q9 1 (v := .int .u64 (E : Nat)) rfl
            have d2 := Blk.at_ q9 2 (v := .int .u8 (V : Nat)) rfl
            have p0 := Blk.at_ q16 0 (v := .int .u64 (j : Nat)) rfl
            have p1 := Blk.at_ q16 1 (v := .int .u64 (E7 : Nat)) rfl
            have p2 := Blk.at_ q16 2 (v := .int .u8 (V1 : Nat)) rfl
            have f0 := Blk.at_ q17 0 (v := .int .u64 0) rfl
            have f1 := Blk.at_ q17 1 (v := .int .u64 0) rfl
            have f2 := Blk.at_ q17 2 (v := .int .u8 0) rfl
            have o0 := Blk.at_ q19 0 (v := .int .u64 (n : Nat)) rfl
            have o1 := Blk.at_ q19 1 (v := .int .u64 (E : Nat)) rfl
            have o2 := Blk.at_ q19 2 (v := .int .u8 (V : Nat)) rfl
            by_cases hn0 : n = 0
            · have u6 : (n : Int) = 0 := by omega
              exact absurd hn0 HY1.out
            · have u6 : ¬ (n : Int) = 0 := by omega
              go_upto_region 33 with fail
              clear d0 d1 d2 p0 p1 p2 f0 f1 f2 o0 o1 o2
              clear q9 nq9 q16 nq16 q17 nq17
              obtain ⟨z0, hz0⟩ : ∃ z, z = n + 1 := ⟨_, rfl⟩
              have hz64 : z0 < 18446744073709551616 := by have := HJ.out; omega
              have hrz : right ⟨z0, E, V⟩ = true := right_of (by show 0 < z0; omega) hV2
              have HGN := Lib.hid (HGD.out.next (z := ⟨z0, E, V⟩) hz0 ⟨hz64, HGD.out.wf.epoch, HGD.out.wf.live⟩ hrz)
              have hS := save_any hA n E V z0 (by have := HJ.out; omega) (by have := HJ.out; omega) HGD.out.wf.epoch HGD.out.wf.live
              rw [HGN.out.1] at hS
              simp only [hv] at hS
              have y1 : IntKind.u64.wrap ((n : Int) + 1) = (z0 : Int) := by have := HJ.out; rw [IntKind.wrap_u64]; omega
              have Y3 := Lib.hid y1
              clear y1 hz0 hz64 hrz
              have f0 := Blk.at_ q19 0 (v := .int .u64 (n : Nat)) rfl
              have f1 := Blk.at_ q19 1 (v := .int .u64 (E : Nat)) rfl
              have f2 := Blk.at_ q19 2 (v := .int .u8 (V : Nat)) rfl
              go_wp2_with fail
              refine Calls.mono hS ?_
              rintro en v1 ⟨rfl, F14, hA2, hfr, hF2⟩
              clear hS
              have q19' := q19.fr hfr nq19
              have nq19' : ¬ F14 g19 := fun h => (hF2 _ h).elim nq19 (fun h => by have := q19.lt; omega)
              have hA' : At v1 gd F14 gd (savedD ⟨z0, E, V⟩ s2) := hA2
              have hB' := hB.trans (hfr.below hB.size fun k hk => Nat.le_trans hgb (hA.lt hk).1)
              clear q19 nq19 hA hB hfr hF2 hA2
              have q19 := q19'
              have nq19 := nq19'
              have hA := hA'
              have hB := hB'
              clear q19' nq19' hA' hB'
              clear f0 f1 f2
              have q21 := Blk.new_ v1 24 #[.int .u64 (z0 : Nat), .int .u64 (E : Nat), .int .u8 (V : Nat)] rfl
              have nq21 : ¬ F14 v1.heap.size := fun h => by have := (hA.lt h).2; omega
              have hb := (Below.refl v1.heap.size v1).alloc (Nat.le_refl _) (.cells #[.int .u64 (z0 : Nat), .int .u64 (E : Nat), .int .u8 (V : Nat)] 24)
              have q19' := q19.below hb q19.lt
              have hA' := hA.below hb
              have hB' := hB.trans (hb.mono hB.size)
              clear q19 hA hB hb
              have q19 := q19'
              have hA := hA'
              have hB := hB'
              clear q19' hA' hB'
              go_upto_region 34 with fail
              generalize v1.alloc (.cells #[.int .u64 (z0 : Nat), .int .u64 (E : Nat), .int .u8 (V : Nat)] 24) = v2 at *
              generalize v1.heap.size = g21 at *
              have hS := load_any hA
              rw [HGN.out.2] at hS
              simp only [hv] at hS
              go_wp2_with fail
              refine Calls.mono hS ?_
              rintro en v3 ⟨rfl, F15, hA2, hfr, hF2⟩
              clear hS
              have q19' := q19.fr hfr nq19
              have nq19' : ¬ F15 g19 := fun h => (hF2 _ h).elim nq19 (fun h => by have := q19.lt; omega)
              have q21' := q21.fr hfr nq21
              have nq21' : ¬ F15 g21 := fun h => (hF2 _ h).elim nq21 (fun h => by have := q21.lt; omega)
              have hA' : At v3 gd F15 gd (savedD ⟨z0, E, V⟩ s2) := hA2
              have hB' := hB.trans (hfr.below hB.size fun k hk => Nat.le_trans hgb (hA.lt hk).1)
              clear q19 nq19 q21 nq21 hA hB hfr hF2 hA2
              have q19 := q19'
              have nq19 := nq19'
              have q21 := q21'
              have nq21 := nq21'
              have hA := hA'
              have hB := hB'
              clear q19' nq19' q21' nq21' hA' hB'
              have q23 := Blk.new_ v3 24 #[.int .u64 (z0 : Nat), .int .u64 (E : Nat), .int .u8 (V : Nat)] rfl
              have nq23 : ¬ F15 v3.heap.size := fun h => by have := (hA.lt h).2; omega
              have hb := (Below.refl v3.heap.size v3).alloc (Nat.le_refl _) (.cells #[.int .u64 (z0 : Nat), .int .u64 (E : Nat), .int .u8 (V : Nat)] 24)
              have q19' := q19.below hb q19.lt
              have q21' := q21.below hb q21.lt
              have hA' := hA.below hb
              have hB' := hB.trans (hb.mono hB.size)
              clear q19 q21 hA hB hb
              have q19 := q19'
              have q21 := q21'
              have hA := hA'
              have hB := hB'
              clear q19' q21' hA' hB'
              go_upto_region 35 with fail
              generalize v3.alloc (.cells #[.int .u64 (z0 : Nat), .int .u64 (E : Nat), .int .u8 (V : Nat)] 24) = v4 at *
              generalize v3.heap.size = g23 at *
              have f0 := Blk.at_ q19 0 (v := .int .u64 (n : Nat)) rfl
              have f1 := Blk.at_ q19 1 (v := .int .u64 (E : Nat)) rfl
              have f2 := Blk.at_ q19 2 (v := .int .u8 (V : Nat)) rfl
              have p0 := Blk.at_ q21 0 (v := .int .u64 (z0 : Nat)) rfl
              have p1 := Blk.at_ q21 1 (v := .int .u64 (E : Nat)) rfl
              have p2 := Blk.at_ q21 2 (v := .int .u8 (V : Nat)) rfl
              have d0 := Blk.at_ q23 0 (v := .int .u64 (z0 : Nat)) rfl
              have d1 := Blk.at_ q23 1 (v := .int .u64 (E : Nat)) rfl
              have d2 := Blk.at_ q23 2 (v := .int .u8 (V : Nat)) rfl
              have y1 := Y3.out
              clear hA
              go_wp2_with fail
              refine Calls.mono (awake_any _) ?_
              rintro e wz ⟨rfl, hb⟩
              have hB2 := hB.trans (hb.mono hB.size)
              go_wp2_with fail
              go_ret
              exact ⟨rfl, hB2⟩
end Go.Proofs.Ytpohefpiidlnjaa.HdW
