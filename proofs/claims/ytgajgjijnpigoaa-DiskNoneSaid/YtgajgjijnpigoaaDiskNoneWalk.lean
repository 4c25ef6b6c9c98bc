/-
  The walk of DiskNone.
-/
import Derived.Test.YtgajgjijnpigoaaDiskNone
import Derived.Test.YtgajgjijnpigoaaDiskMore
namespace Go.Proofs.Ytgajgjijnpigoaa.Dk
set_option linter.unusedVariables false
open Go Go.RowKit Go.Shelf Go.Proofs Go.Proofs.Ytgajgjijnpigoaa Go.Proofs.Ytgajgjijnpigoaa.Wd

set_option maxRecDepth 100000 in
theorem zero_disk2 : ∃ z : Array Value, z[0]? = some (.bool false) ∧ ∀ w, (zeroValue 70).run Try.prog w = .ok (.agg z) w := by
  refine ⟨_, ?_, zero_disk⟩
  rfl
set_option maxRecDepth 100000 in
set_option maxHeartbeats 1000000 in
theorem none_walk (seg : Int) (A : Option Addr) (n c : Nat) (hnc : n ≤ c) (hcm : c ≤ maxLen) (keep : Nat → Int) (w : World) :
    Calls Try.prog 9 #[.int .i64 seg, .slice A n c, .agg #[.int .i64 (keep 0), .int .i64 (keep 1), .int .i64 (keep 2), .int .i64 (keep 3)]] w fun e w' => e = .returned (.bool true) ∧ Below w.heap.size w w' := by
  unfold maxLen at hcm
  obtain ⟨ks, hks⟩ : ∃ ks : Array Value, ks = #[.int .i64 (keep 0), .int .i64 (keep 1), .int .i64 (keep 2), .int .i64 (keep 3)] := ⟨_, rfl⟩
  have hsz4 : ks.size = 4 := by rw [hks]; rfl
  rw [← hks]
  have HSZ4 := Lib.hid hsz4
  have hK := Blk.new_ w 24 ks rfl
  have hB0 := (Below.refl w.heap.size w).alloc (Nat.le_refl _) (.cells ks 24)
  clear hks hsz4
  go_enter Try.func9, Try.ntmps9
  go_upto_region 1 with fail
  generalize w.alloc (.cells ks 24) = w1 at *
  go_cut [1] (fun v wx => (∃ m : Nat, v = .slice A m c) ∧ wx = w1)
  case first =>
    by_cases h40 : 40 < n
    · have u1 : (40 : Int) < (n : Int) := by omega
      have u2 : (40 : Int) ≤ (c : Int) := by omega
      go_wp2_with fail
      go_meet
      exact ⟨⟨40, rfl⟩, rfl⟩
    · have u1 : ¬ (40 : Int) < (n : Int) := by omega
      have u2 : (n : Int) ≤ (c : Int) := by omega
      go_wp2_with fail
      go_meet
      exact ⟨⟨n, rfl⟩, rfl⟩
  case rest =>
  obtain ⟨⟨m, rfl⟩, rfl⟩ := hcut
  obtain ⟨z, hz0, hz⟩ := zero_disk2
  have q1 := (Blk.new_ wc 70 z rfl).alloc (.cells #[.pointer none, .pointer (some ⟨wc.heap.size, 0, none⟩)] 25)
  have q2 := Blk.new_ (wc.alloc (.cells z 70)) 25 #[.pointer none, .pointer (some ⟨wc.heap.size, 0, none⟩)] (n := wc.heap.size + 1) (by simp)
  have q3 := (hK.alloc (.cells z 70)).alloc (.cells #[.pointer none, .pointer (some ⟨wc.heap.size, 0, none⟩)] 25)
  have hB1 := (hB0.alloc hB0.size (.cells z 70)).alloc (by have := hB0.size; simp; omega) (.cells #[.pointer none, .pointer (some ⟨wc.heap.size, 0, none⟩)] 25)
  clear hB0 hK
  go_wp2_with fail
  generalize (wc.alloc (.cells z 70)).alloc (.cells #[.pointer none, .pointer (some ⟨wc.heap.size, 0, none⟩)] 25) = w3 at *
  have hd := Blk.at_ q1 0 hz0
  clear hz hz0
  have HH : Hid (∀ W, Below w3.heap.size w3 W → Blk W w.heap.size 24 ks ∧ ∀ i, i < 2 → ∃ o, W.cell? ⟨wc.heap.size + 1, i, none⟩ = some (.pointer o) ∧ Non W o) := Lib.hid fun W hW => ⟨q3.below hW q3.lt, fun i hi => by
    have hq := q2.below hW q2.lt
    rcases (by omega : i = 0 ∨ i = 1) with rfl | rfl
    · exact ⟨none, Blk.at_ hq 0 rfl, .inl rfl⟩
    · exact ⟨some ⟨wc.heap.size, 0, none⟩, Blk.at_ hq 1 rfl, .inr ⟨_, rfl, (hW.cell (p := ⟨wc.heap.size, 0, none⟩) q1.lt).trans hd⟩⟩⟩
  clear q1 q2 q3 hd
  go_loopw [20] (fun ix wr => ∃ (i : Nat), i ≤ 2 ∧ ix = .int .i64 i ∧ Below w3.heap.size w3 wr) (fun ix _ => 2 - (intOf ix).toNat)
  case atStart => exact ⟨0, by omega, rfl, Below.refl _ _⟩
  case round =>
    obtain ⟨i, hi, rfl, hB⟩ := hrel
    by_cases hi2 : i < 2
    · have i1 : (0 : Int) ≤ (i : Int) := by omega
      have i2 : (i : Int) < 2 := by omega
      obtain ⟨o, hc, hN⟩ := (HH.out _ hB).2 i hi2
      go_wp2_with fail
      clear hc
      refine Calls.mono (fuse_non hN 1 1) ?_
      rintro e y1 ⟨⟨v1, rfl⟩, hb⟩
      have hN3 := hN.below hb
      have hB3 := hB.trans (hb.mono hB.size)
      clear hN hB hb
      have hN := hN3
      have hB := hB3
      clear hN3 hB3
      have hzk := (HH.out _ hB).1
      go_wp2_with (refine wpList_load_row rfl 24 (.tmp 5) rfl w.heap.size rfl 24 _ _ _ hzk.out Try.underlying24 rfl (by rw [HSZ4.out]; kernel_rfl) ?_)
      clear hzk
      refine Calls.mono (crash_non hN ks) ?_
      rintro e y2 ⟨⟨v2, rfl⟩, hb⟩
      have hN3 := hN.below hb
      have hB3 := hB.trans (hb.mono hB.size)
      clear hN hB hb
      have hN := hN3
      have hB := hB3
      clear hN3 hB3
      go_wp2_with fail
      refine Calls.mono (append_non hN seg A m c) ?_
      rintro e y3 ⟨rfl, hb⟩
      have hN3 := hN.below hb
      have hB3 := hB.trans (hb.mono hB.size)
      clear hN hB hb
      have hN := hN3
      have hB := hB3
      clear hN3 hB3
      go_wp2_with fail
      refine Calls.mono (sync_non hN seg) ?_
      rintro e y4 ⟨rfl, hb⟩
      have hN3 := hN.below hb
      have hB3 := hB.trans (hb.mono hB.size)
      clear hN hB hb
      have hN := hN3
      have hB := hB3
      clear hN3 hB3
      go_wp2_with fail
      refine Calls.mono (trunc_non hN seg 0) ?_
      rintro e y5 ⟨rfl, hb⟩
      have hN3 := hN.below hb
      have hB3 := hB.trans (hb.mono hB.size)
      clear hN hB hb
      have hN := hN3
      have hB := hB3
      clear hN3 hB3
      go_wp2_with fail
      refine Calls.mono (write_non hN seg A m c) ?_
      rintro e y6 ⟨rfl, hb⟩
      have hN3 := hN.below hb
      have hB3 := hB.trans (hb.mono hB.size)
      clear hN hB hb
      have hN := hN3
      have hB := hB3
      clear hN3 hB3
      go_wp2_with fail
      refine Calls.mono (syncHead_non hN) ?_
      rintro e y7 ⟨rfl, hb⟩
      have hN3 := hN.below hb
      have hB3 := hB.trans (hb.mono hB.size)
      clear hN hB hb
      have hN := hN3
      have hB := hB3
      clear hN3 hB3
      have hb := (Below.refl y7.heap.size y7).alloc (Nat.le_refl _) (.cells #[.int .i64 1, .int .i64 1, .int .i64 1, .int .i64 1, .int .i64 1] 26)
      have q5 := Blk.new_ y7 26 #[.int .i64 1, .int .i64 1, .int .i64 1, .int .i64 1, .int .i64 1] rfl
      have hN3 := hN.below hb
      have hB3 := hB.trans (hb.mono hB.size)
      clear hN hB hb
      have hN := hN3
      have hB := hB3
      clear hN3 hB3
      go_wp2_with fail
      generalize y7.alloc (.cells #[.int .i64 1, .int .i64 1, .int .i64 1, .int .i64 1, .int .i64 1] 26) = y8 at *
      go_loopw [47] (fun ix wr => ∃ (j : Nat), j ≤ 5 ∧ ix = .int .i64 j ∧ wr = y8) (fun ix _ => 5 - (intOf ix).toNat)
      case atStart => exact ⟨0, by omega, rfl, rfl⟩
      case round =>
        obtain ⟨j, hj, rfl, rfl⟩ := hrel
        by_cases hj5 : j < 5
        · have j1 : (0 : Int) ≤ (j : Int) := by omega
          have j2 : (j : Int) < 5 := by omega
          have hc5 : wr.cell? ⟨y7.heap.size, j, none⟩ = some (.int .i64 1) := by
            rcases (by omega : j = 0 ∨ j = 1 ∨ j = 2 ∨ j = 3 ∨ j = 4) with rfl | rfl | rfl | rfl | rfl
            · exact Blk.at_ q5 0 rfl
            · exact Blk.at_ q5 1 rfl
            · exact Blk.at_ q5 2 rfl
            · exact Blk.at_ q5 3 rfl
            · exact Blk.at_ q5 4 rfl
          clear q5
          go_wp2_with fail
          go_roundw
          case rel => exact ⟨j + 1, by omega, by go_num, by first | rfl | trivial⟩
          case measure => simp [intOf]; omega
        · have j3 : ¬ (j : Int) < 5 := by omega
          clear q5
          go_wp2_with fail
          refine Calls.mono (read_non hN seg) ?_
          rintro e y9 ⟨rfl, hb⟩
          have hN3 := hN.below hb
          have hB3 := hB.trans (hb.mono hB.size)
          clear hN hB hb
          have hN := hN3
          have hB := hB3
          clear hN3 hB3
          go_wp2_with fail
          refine Calls.mono (head_non hN seg) ?_
          rintro e y10 ⟨rfl, hb⟩
          have hN3 := hN.below hb
          have hB3 := hB.trans (hb.mono hB.size)
          clear hN hB hb
          have hN := hN3
          have hB := hB3
          clear hN3 hB3
          go_wp2_with fail
          refine Calls.mono (free_non hN) ?_
          rintro e y11 ⟨rfl, hb⟩
          have hN3 := hN.below hb
          have hB3 := hB.trans (hb.mono hB.size)
          clear hN hB hb
          have hN := hN3
          have hB := hB3
          clear hN3 hB3
          go_wp2_with fail
          refine Calls.mono (dead_non hN) ?_
          rintro e y12 ⟨rfl, hb⟩
          have hN3 := hN.below hb
          have hB3 := hB.trans (hb.mono hB.size)
          clear hN hB hb
          have hN := hN3
          have hB := hB3
          clear hN3 hB3
          go_wp2_with fail
          go_roundw
          case rel => exact ⟨i + 1, by omega, by go_num, hB⟩
          case measure => simp [intOf]; omega
    · have i3 : ¬ (i : Int) < 2 := by omega
      go_wp2_with fail
      refine Calls.mono (awake_any _) ?_
      rintro e y13 ⟨rfl, hb⟩
      have hBF := hB1.trans ((hB.trans (hb.mono hB.size)).mono hB1.size)
      go_wp2_with fail
      go_ret
      exact ⟨rfl, hBF⟩
end Go.Proofs.Ytgajgjijnpigoaa.Dk
