/-
  The walk of JournalNone.
-/
import Derived.Test.YtmkijkkddoamgaaJourAwake
import Derived.Test.YtmkijkkddoamgaaJourNon
import Derived.Laws.StructEq
namespace Go.Proofs.Ytmkijkkddoamgaa.Jo
set_option linter.unusedVariables false
open Go Go.RowKit Go.Shelf Go.Proofs Go.Proofs.Ytmkijkkddoamgaa Go.Proofs.Ytmkijkkddoamgaa.Wd Go.Proofs.Ytmkijkkddoamgaa.Dk Go.Proofs.Ytmkijkkddoamgaa.Hd Go.Proofs.Ytmkijkkddoamgaa.HdW Go.Proofs.Ytmkijkkddoamgaa.BatW
open Go.Proofs.Ytmkijkkddoamgaa.Bat (B)

theorem head_non {w : World} {o : Option Addr} (h : Jo.Non w o) : Calls Try.prog 12 #[.pointer o] w fun e w' => e = .returned (.agg #[.int .u64 0, .int .u64 0, .int .u8 0]) ∧ Below w.heap.size w w' := by
  have hB := (Below.refl w.heap.size w).alloc (Nat.le_refl _) (.cells #[.int .u64 0, .int .u64 0, .int .u8 0] 35)
  have qz := Blk.new_ w 35 #[.int .u64 0, .int .u64 0, .int .u8 0] rfl
  have HN0 := Lib.hid (Jo.none_non (h.below hB))
  clear h
  go_enter Try.func12, Try.ntmps12
  go_wp2_with fail
  refine Calls.mono HN0.out ?_
  rintro e1 w1 ⟨rfl, rfl⟩
  clear HN0
  generalize w.alloc (.cells #[.int .u64 0, .int .u64 0, .int .u8 0] 35) = w1 at *
  have z0 := Blk.at_ qz 0 (v := .int .u64 0) rfl
  have z1 := Blk.at_ qz 1 (v := .int .u64 0) rfl
  have z2 := Blk.at_ qz 2 (v := .int .u8 0) rfl
  have zf := qz.frozen
  go_wp2_with fail
  have q9 := set3 (y0 := .int .u64 0) (y1 := .int .u64 0) (y2 := .int .u8 0) qz
  refine bodyPost_ret (results_cell_row1 rfl _ _ w.heap.size 35 #[.int .u64 0, .int .u64 0, .int .u8 0] (0, 0) _ rfl q9 Try.underlying35 rfl (by kernel_rfl)) rfl ?_
  exact ⟨rfl, ((hB.setCell (p := ⟨w.heap.size, 0, none⟩) (Nat.le_refl _) _).setCell (p := ⟨w.heap.size, 1, none⟩) (Nat.le_refl _) _).setCell (p := ⟨w.heap.size, 2, none⟩) (Nat.le_refl _) _⟩
theorem head_stood : Try.prog.stoodInHeld 35 = false := by kernel_rfl
theorem head_struct : Try.prog.underlying 35 = some (.struct (Try.prog.fieldsOf 35)) := by kernel_rfl
theorem neq_heads (a b c : Int) (W : World) : (binOp .neq 35 (.agg #[.int .u64 a, .int .u64 b, .int .u8 c]) (.agg #[.int .u64 a, .int .u64 b, .int .u8 c])).run Try.prog W = .ok (.bool false) W := by
  rw [run_neq_struct, run_equalIn_agg W 9999 _ _ _ head_struct head_stood]
  go_simp
theorem format_non {w : World} {o : Option Addr} (h : Dk.Non w o) : Calls Try.prog 24 #[.pointer o] w fun e w' => e = .returned (.int .i64 1) ∧ Below w.heap.size w w' := by
  have HL := Lib.hid (load_non h)
  simp only [hv, none_] at HL
  clear h
  go_enter Try.func24, Try.ntmps24
  go_wp2_with fail
  refine Calls.mono HL.out ?_
  rintro e w1 ⟨rfl, hb⟩
  have HB := Lib.hid (hb.trans ((Below.refl w1.heap.size w1).alloc (Nat.le_refl _) (.cells #[.int .u64 0, .int .u64 0, .int .u8 0] 35) |>.mono hb.size))
  clear hb HL
  go_wp2_with fail
  go_ret
  exact ⟨rfl, HB.out⟩
theorem open_non {w : World} {o : Option Addr} (h : Dk.Non w o) : Calls Try.prog 16 #[.pointer o] w fun e w' => e = .returned (.tuple #[.pointer none, .slice none 0 0, .int .i64 1]) ∧ Below w.heap.size w w' := by
  have HL := Lib.hid (load_non h)
  simp only [hv, none_] at HL
  clear h
  go_enter Try.func16, Try.ntmps16
  go_wp2_with fail
  refine Calls.mono HL.out ?_
  rintro e w1 ⟨rfl, hb⟩
  have HB := Lib.hid (hb.trans ((Below.refl w1.heap.size w1).alloc (Nat.le_refl _) (.cells #[.int .u64 0, .int .u64 0, .int .u8 0] 35) |>.mono hb.size))
  clear hb HL
  go_wp2_with fail
  refine bodyPost_ret (v := .tuple #[.pointer none, .slice none 0 0, .int .i64 1]) (by simp [results, Try.results16, go_sem]) rfl ?_
  exact ⟨rfl, HB.out⟩
/-- A dead disk. -/
theorem dead_steps {s : DS} (hd : s.dead = true) (y : H) : formatD s = (3, s) ∧ openD s = (3, s, none_) ∧ appendJ s y r1 = (3, s) ∧ switchJ s y r1 = (3, s, y) := by
  have hl : loadR s = (none_, 3) := by unfold loadR; rw [hd]; rfl
  have hp : ∀ i b, putJ s i b = (3, s) := fun i b => by
    have : appD s i b = (3, s) := by unfold appD; rw [hd]; rfl
    unfold putJ
    rw [this, then_no]
    simp
  refine ⟨?_, ?_, ?_, ?_⟩
  · unfold formatD; rw [hl]; exact if_pos ⟨by decide, by decide⟩
  · unfold openD; rw [hl]; exact if_pos (by decide)
  · unfold appendJ; rw [r1_w, if_neg (by simp), hp]
  · unfold switchJ lift
    dsimp only
    rw [r1_w, if_neg (by simp), hp, then_no (r := then_ _ _)]
    · rw [then_no]; simp
    · rw [then_no]
      · simp
      · simp
set_option maxRecDepth 100000 in
theorem zero_disk2 : ∃ z : Array Value, z[0]? = some (.bool false) ∧ ∀ w, (zeroValue 61).run Try.prog w = .ok (.agg z) w := by
  refine ⟨_, ?_, zero_disk⟩
  rfl
set_option maxRecDepth 100000 in
set_option maxHeartbeats 4000000 in
theorem jnone_walk (A : Option Addr) (n c : Nat) (rows : B) (hn : n = rows.length) (hnc : n ≤ c) (hcm : c ≤ maxLen) (w : World) (hI : BRows w w.heap.size A rows) :
    Calls Try.prog 4 #[.slice A n c] w fun e w' => e = .returned (.bool true) ∧ Below w.heap.size w w' := by
  have hnm : n ≤ maxLen := Nat.le_trans hnc hcm
  have HBY := Lib.hid (bytesof_any A n c rows hn hnm w hI)
  have HI := Lib.hid hI
  have HN := Lib.hid hn
  clear hI hn
  unfold maxLen at hcm hnm
  go_enter Try.func4, Try.ntmps4
  by_cases h5 : 5 < n
  · have u1 : (5 : Int) < (n : Int) := by omega
    go_wp2_with fail
    refine Calls.mono (awake_any w) ?_
    rintro e w1 ⟨rfl, hb⟩
    have HB := Lib.hid hb
    clear hb
    go_wp2_with fail
    go_ret
    exact ⟨rfl, HB.out⟩
  have u1 : ¬ (5 : Int) < (n : Int) := by omega
  go_wp2_with fail
  refine Calls.mono HBY.out ?_
  rintro e w1 ⟨z, rfl, rfl, z1, z2, -⟩
  clear HBY
  by_cases h500 : 500 < z
  · go_wp2_with fail
    refine Calls.mono (awake_any w) ?_
    rintro e w1 ⟨rfl, hb⟩
    have HB := Lib.hid hb
    clear hb
    go_wp2_with fail
    go_ret
    exact ⟨rfl, HB.out⟩
  have u2 : ¬ (500 : Int) < z := h500
  have q1 := (Blk.new_ w 48 #[.pointer none, .int .u64 0, .int .u64 0, .int .u8 0] rfl).alloc (.cells #[.pointer none, .pointer (some ⟨w.heap.size, 0, none⟩)] 27)
  have q2 := Blk.new_ (w.alloc (.cells #[.pointer none, .int .u64 0, .int .u64 0, .int .u8 0] 48)) 27 #[.pointer none, .pointer (some ⟨w.heap.size, 0, none⟩)] (n := w.heap.size + 1) (by simp)
  have hB1 := ((Below.refl w.heap.size w).alloc (Nat.le_refl _) (.cells #[.pointer none, .int .u64 0, .int .u64 0, .int .u8 0] 48)).alloc (by simp) (.cells #[.pointer none, .pointer (some ⟨w.heap.size, 0, none⟩)] 27)
  have HB1 := Lib.hid hB1
  have HQ1 := Lib.hid q1
  have HQ2 := Lib.hid q2
  clear q1 q2 hB1
  go_wp2_with fail
  generalize ((w.alloc (.cells #[.pointer none, .int .u64 0, .int .u64 0, .int .u8 0] 48)).alloc (.cells #[.pointer none, .pointer (some ⟨w.heap.size, 0, none⟩)] 27)) = w2 at *
  have HH : Hid (∀ W, Below w2.heap.size w2 W → ∀ i, i < 2 → ∃ o, W.cell? ⟨w.heap.size + 1, i, none⟩ = some (.pointer o) ∧ Jo.Non W o) := Lib.hid fun W hW i hi => by
    have hq := HQ2.out.below hW HQ2.out.lt
    have hd := Blk.at_ HQ1.out 0 (v := .pointer none) rfl
    rcases (by omega : i = 0 ∨ i = 1) with rfl | rfl
    · exact ⟨none, Blk.at_ hq 0 rfl, .inl rfl⟩
    · exact ⟨some ⟨w.heap.size, 0, none⟩, Blk.at_ hq 1 rfl, .inr ⟨_, rfl, (hW.cell (p := ⟨w.heap.size, 0, none⟩) HQ1.out.lt).trans hd⟩⟩
  clear HQ1 HQ2
  go_loopw [27] (fun ix wr => ∃ (i : Nat), i ≤ 2 ∧ ix = .int .i64 i ∧ Below w2.heap.size w2 wr) (fun ix _ => 2 - (intOf ix).toNat)
  case atStart => exact ⟨0, by omega, rfl, Below.refl _ _⟩
  case round =>
    obtain ⟨i, hi, rfl, hB⟩ := hrel
    have HBr := Lib.hid hB
    clear hB
    by_cases hi2 : i < 2
    · have i1 : (0 : Int) ≤ (i : Int) := by omega
      have i2 : (i : Int) < 2 := by omega
      obtain ⟨o, hc, hN⟩ := HH.out _ HBr.out i hi2
      have HNN := Lib.hid hN
      clear hN
      go_wp2_with fail
      clear hc
      refine Calls.mono (append_non HNN.out A n c) ?_
      rintro e y1 ⟨rfl, rfl⟩
      go_wp2_with fail
      refine Calls.mono (switch_non HNN.out A n c) ?_
      rintro e y1 ⟨rfl, hb⟩
      have HN1 := Lib.hid (HNN.out.below hb)
      have HB2 := Lib.hid (HBr.out.trans (hb.mono HBr.out.size))
      clear hb HNN HBr
      go_wp2_with fail
      refine Calls.mono (Jo.free_non HN1.out) ?_
      rintro e y2 ⟨rfl, rfl⟩
      go_wp2_with fail
      refine Calls.mono (Jo.size_non HN1.out) ?_
      rintro e y3 ⟨rfl, rfl⟩
      go_wp2_with fail
      refine Calls.mono (Jo.head_non HN1.out) ?_
      rintro e y4 ⟨rfl, hb⟩
      have HB3 := Lib.hid (HB2.out.trans (hb.mono HB2.out.size))
      clear hb HN1 HB2
      have hne := neq_heads 0 0 0
      go_wp2_with fail
      clear hne
      go_roundw
      case rel => exact ⟨i + 1, by omega, by go_num, HB3.out⟩
      case measure => simp [intOf]; omega
    · obtain rfl : i = 2 := by omega
      have HB2 := Lib.hid (HB1.out.trans (HBr.out.mono HB1.out.size))
      clear HBr HH HB1
      simp only [Int.cast_ofNat_Int]
      go_wp2_with fail
      refine Calls.mono (made_any 100 (by decide) wr) ?_
      rintro e w3 ⟨jb, F, s0, rfl, hM⟩
      have HJ := Lib.hid hM.j
      have HB3 := Lib.hid (HB2.out.trans (hM.below.mono HB2.out.size))
      have HLO := Lib.hid (Nat.le_of_lt hM.jlo)
      have HAL := Lib.hid hM.n.live
      have HSZ := Lib.hid HB2.out.size
      clear hM HB2
      generalize wr.heap.size = g at *
      go_wp2_with fail
      refine Calls.mono (fuse_any HJ.out.at_ 0 0 (by decide) (by decide)) ?_
      rintro e w4 ⟨⟨v4, rfl⟩, hN⟩
      obtain ⟨F4, hJ4, hB4, -⟩ := HJ.out.next hN
      have e4 : fuseD 0 0 s0 = fused s0 (some (0, 0)) := by unfold fuseD; rw [HAL.out.dead]; rfl
      rw [e4] at hJ4
      have HJ4 := Lib.hid hJ4
      have HB4 := Lib.hid (HB3.out.trans (hB4.mono HSZ.out))
      clear hN hJ4 hB4 e4 HJ HB3
      go_wp2_with fail
      refine Calls.mono (syncHead_any HJ4.out.at_) ?_
      rintro e w5 ⟨rfl, hN⟩
      obtain ⟨F5, hJ5, hB5, -⟩ := HJ4.out.next hN
      have e5 : shD (fused s0 (some (0, 0))) = (3, died (fused s0 (some (0, 0)))) := by
        unfold shD
        rw [if_neg (by show ¬ s0.dead = true; rw [HAL.out.dead]; simp)]
        rfl
      rw [e5] at hJ5 ⊢
      have HB5 := Lib.hid (HB4.out.trans (hB5.mono HSZ.out))
      have HDD : Hid ((died (fused s0 (some (0, 0)))).dead = true) := Lib.hid rfl
      have HJ5 := Lib.hid hJ5
      clear hN hJ5 hB5 e5 HJ4 HB4 HAL
      generalize died (fused s0 (some (0, 0))) = sd at *
      dsimp only
      -- the row of disks
      obtain ⟨zz, hz0, hz⟩ := zero_disk2
      have k1 := (Blk.new_ w5 61 zz rfl).alloc (.cells #[.pointer none, .pointer (some ⟨w5.heap.size, 0, none⟩), .pointer (some ⟨g, 0, none⟩)] 26)
      have k2 := Blk.new_ (w5.alloc (.cells zz 61)) 26 #[.pointer none, .pointer (some ⟨w5.heap.size, 0, none⟩), .pointer (some ⟨g, 0, none⟩)] (n := w5.heap.size + 1) (by simp)
      have hb6 := ((Below.refl w5.heap.size w5).alloc (Nat.le_refl _) (.cells zz 61)).alloc (by simp) (.cells #[.pointer none, .pointer (some ⟨w5.heap.size, 0, none⟩), .pointer (some ⟨g, 0, none⟩)] 26)
      have HJ6 := Lib.hid (HJ5.out.below hb6)
      have HB6 := Lib.hid (HB5.out.trans (hb6.mono HB5.out.size))
      have hz1 : ¬ F5 w5.heap.size := fun e => by have := (HJ5.out.at_.lt e).2; omega
      have hz2 : ¬ F5 (w5.heap.size + 1) := fun e => by have := (HJ5.out.at_.lt e).2; omega
      have HK1 : Hid (BF _ F5 w5.heap.size 61 zz) := Lib.hid ⟨k1, hz1⟩
      have HK2 : Hid (BF _ F5 (w5.heap.size + 1) 26 #[.pointer none, .pointer (some ⟨w5.heap.size, 0, none⟩), .pointer (some ⟨g, 0, none⟩)]) := Lib.hid ⟨k2, hz2⟩
      have HZ0 := Lib.hid hz0
      clear k1 k2 hb6 hz1 hz2 hz0 HJ5 HB5
      go_upto_region 13 with fail
      go_wp2_with fail
      clear hz
      generalize ((w5.alloc (.cells zz 61)).alloc (.cells #[.pointer none, .pointer (some ⟨w5.heap.size, 0, none⟩), .pointer (some ⟨g, 0, none⟩)] 26)) = w6 at *
      generalize hlb : w5.heap.size + 1 = lb at *
      generalize w5.heap.size = zb at *
      clear hlb
      clear HI HN
      go_loopw [74] (fun ix wr => ∃ (i : Nat) (F : Nat → Prop), i ≤ 3 ∧ ix = .int .i64 i ∧ Hid (JAt wr g F g jb sd ⟨2, 1, 0⟩) ∧ Hid (Below w.heap.size w wr) ∧ Hid (BF wr F zb 61 zz) ∧ Hid (BF wr F lb 26 #[.pointer none, .pointer (some ⟨zb, 0, none⟩), .pointer (some ⟨g, 0, none⟩)])) (fun ix _ => 3 - (intOf ix).toNat)
      case atStart => exact ⟨0, F5, by omega, rfl, HJ6, HB6, HK1, HK2⟩
      case round =>
        clear HJ6 HB6 HK1 HK2
        obtain ⟨i, F, hi, rfl, HJ, HB, HK1, HK2⟩ := hrel
        by_cases hi3 : i < 3
        · have i1 : (0 : Int) ≤ (i : Int) := by omega
          have i2 : (i : Int) < 3 := by omega
          have rel : ∀ W G, JAt W g G g jb sd ⟨2, 1, 0⟩ → Below wr.heap.size wr W → (∀ k, G k → F k ∨ wr.heap.size ≤ k) → True := fun _ _ _ _ _ => trivial
          clear rel
          by_cases hi2 : i < 2
          · -- none
            have u1 : ¬ (i : Int) = 2 := by omega
            obtain ⟨o, hc, hN⟩ : ∃ o, wr.cell? ⟨lb, i, none⟩ = some (.pointer o) ∧ Dk.Non wr o := by
              rcases (by omega : i = 0 ∨ i = 1) with rfl | rfl
              · exact ⟨none, Blk.at_ HK2.out.1 0 rfl, .inl rfl⟩
              · exact ⟨some ⟨zb, 0, none⟩, Blk.at_ HK2.out.1 1 rfl, .inr ⟨zb, rfl, Blk.at_ HK1.out.1 0 HZ0.out⟩⟩
            have HNN := Lib.hid hN
            clear hN
            go_wp2_with fail
            clear hc
            refine Calls.mono (open_non HNN.out) ?_
            rintro e y1 ⟨rfl, hb⟩
            have HN1 := Lib.hid (HNN.out.below hb)
            have HJ1 := Lib.hid (HJ.out.below hb)
            have HB1 := Lib.hid (HB.out.trans (hb.mono HB.out.size))
            have HK11 := Lib.hid (HK1.out.next (Fr.of_below hb F) (F' := F) fun _ h => .inl h)
            have HK21 := Lib.hid (HK2.out.next (Fr.of_below hb F) (F' := F) fun _ h => .inl h)
            clear hb HNN HJ HB HK1 HK2
            go_wp2_with fail
            refine Calls.mono (format_non HN1.out) ?_
            rintro e y2 ⟨rfl, hb⟩
            have HJ := Lib.hid (HJ1.out.below hb)
            have HB := Lib.hid (HB1.out.trans (hb.mono HB1.out.size))
            have HK1 := Lib.hid (HK11.out.next (Fr.of_below hb F) (F' := F) fun _ h => .inl h)
            have HK2 := Lib.hid (HK21.out.next (Fr.of_below hb F) (F' := F) fun _ h => .inl h)
            clear hb HN1 HJ1 HB1 HK11 HK21
            go_wp2_with fail
            go_roundw
            case rel => exact ⟨i + 1, F, by omega, by go_num, HJ, HB, HK1, HK2⟩
            case measure => simp [intOf]; omega
          · -- dead
            obtain rfl : i = 2 := by omega
            have hc : wr.cell? ⟨lb, 2, none⟩ = some (.pointer (some ⟨g, 0, none⟩)) := Blk.at_ HK2.out.1 2 rfl
            simp only [Int.cast_ofNat_Int]
            go_wp2_with fail
            clear hc
            have hO := open_any HJ.out.at_
            unfold OpenOut at hO
            rw [(dead_steps HDD.out ⟨2, 1, 0⟩).2.1] at hO
            refine Calls.mono hO ?_
            rintro e y1 ⟨F1, hA1, hf1, hs1, h⟩
            rcases h with ⟨-, rfl⟩ | ⟨h0, _⟩
            rotate_left
            · exact absurd h0 (show ¬ (3 : Nat) = 0 by decide)
            obtain ⟨F2, hJ1, hb, hs2⟩ := HJ.out.next (s' := sd) ⟨F1, hA1, hf1, hs1⟩
            have HJ1 : Hid (JAt y1 g F1 g jb sd ⟨2, 1, 0⟩) := Lib.hid ⟨hA1, HJ.out.bj.next hf1 hs1, HJ.out.wf, HJ.out.lv⟩
            have HB1 := Lib.hid (HB.out.trans (hb.mono HSZ.out))
            have HK11 := Lib.hid (HK1.out.next hf1 hs1)
            have HK21 := Lib.hid (HK2.out.next hf1 hs1)
            clear hO hA1 hf1 hs1 hJ1 hb hs2 HJ HB HK1 HK2 F2
            dsimp only
            go_wp2_with fail
            have hFm := format_any HJ1.out.at_
            rw [(dead_steps HDD.out ⟨2, 1, 0⟩).1] at hFm
            refine Calls.mono hFm ?_
            rintro e y2 ⟨rfl, F3, hA3, hf3, hs3⟩
            obtain ⟨F2, hJ2, hb, hs2⟩ := HJ1.out.next (s' := sd) ⟨F3, hA3, hf3, hs3⟩
            have HJ : Hid (JAt y2 g F3 g jb sd ⟨2, 1, 0⟩) := Lib.hid ⟨hA3, HJ1.out.bj.next hf3 hs3, HJ1.out.wf, HJ1.out.lv⟩
            have HB := Lib.hid (HB1.out.trans (hb.mono HSZ.out))
            have HK1 := Lib.hid (HK11.out.next hf3 hs3)
            have HK2 := Lib.hid (HK21.out.next hf3 hs3)
            clear hFm hA3 hf3 hs3 hJ2 hb hs2 HJ1 HB1 HK11 HK21 F2
            go_wp2_with fail
            go_roundw
            case rel => exact ⟨3, F3, by omega, by go_num, HJ, HB, HK1, HK2⟩
            case measure => simp [intOf]
        · obtain rfl : i = 3 := by omega
          clear HK1 HK2
          simp only [Int.cast_ofNat_Int]
          go_wp2_with fail
          -- Append
          obtain ⟨hr, hb⟩ := lit_rows wr #[.int .u8 1] (0, 0) [1] rfl 1 rfl (by simp [maxLen])
          have hA := jappend_any (HJ.out.below hb) (some ⟨wr.heap.size + 1, 0, none⟩) 1 1 r1 rfl (by simp [maxLen]) hr
          rw [(dead_steps HDD.out ⟨2, 1, 0⟩).2.2.1] at hA
          have HJ1 := Lib.hid (HJ.out.below hb)
          have HB1 := Lib.hid (HB.out.trans (hb.mono HB.out.size))
          refine Calls.mono hA ?_
          rintro e y5 ⟨rfl, hN⟩
          obtain ⟨F6, hJ5, hB5, -⟩ := HJ1.out.next hN
          have HJ5 := Lib.hid hJ5
          have HB5 := Lib.hid (HB1.out.trans (hB5.mono HSZ.out))
          clear hr hb hA HJ1 HB1 hN hJ5 hB5 HJ HB
          go_wp2_with fail
          -- Switch
          obtain ⟨hr, hb⟩ := lit_rows y5 #[.int .u8 1] (0, 0) [1] rfl 1 rfl (by simp [maxLen])
          have hA := jswitch_any (HJ5.out.below hb) (some ⟨y5.heap.size + 1, 0, none⟩) 1 1 r1 rfl (by simp [maxLen]) hr
          rw [(dead_steps HDD.out ⟨2, 1, 0⟩).2.2.2] at hA
          have HJ1 := Lib.hid (HJ5.out.below hb)
          have HB1 := Lib.hid (HB5.out.trans (hb.mono HB5.out.size))
          refine Calls.mono hA ?_
          rintro e y6 ⟨rfl, hN⟩
          obtain ⟨F7, hJ6, hB6, -⟩ := HJ1.out.saved (x := (sd, (⟨2, 1, 0⟩ : H))) HJ5.out.wf HJ5.out.lv HLO.out hN
          have HB6 := Lib.hid (HB1.out.trans (hB6.mono HSZ.out))
          clear hr hb hA HJ1 HB1 hN hJ6 hB6 HJ5 HB5
          go_wp2_with fail
          refine Calls.mono (awake_any y6) ?_
          rintro e y7 ⟨rfl, hb⟩
          have HB7 := Lib.hid (HB6.out.trans (hb.mono HB6.out.size))
          clear hb HB6
          go_wp2_with fail
          go_ret
          exact ⟨rfl, HB7.out⟩
end Go.Proofs.Ytmkijkkddoamgaa.Jo
