/-
  The walk of awake.
-/
import Derived.Test.YtmkijkkddoamgaaJourStep
namespace Go.Proofs.Ytmkijkkddoamgaa.Jo
set_option linter.unusedVariables false
open Go Go.RowKit Go.Shelf Go.Proofs Go.Proofs.Ytmkijkkddoamgaa Go.Proofs.Ytmkijkkddoamgaa.Wd Go.Proofs.Ytmkijkkddoamgaa.Dk Go.Proofs.Ytmkijkkddoamgaa.Hd Go.Proofs.Ytmkijkkddoamgaa.HdW Go.Proofs.Ytmkijkkddoamgaa.BatW
open Go.Proofs.Ytmkijkkddoamgaa.Bat (B)
theorem head_field (a b c : Int) (w : World) : (Instr.field 35 (.agg #[.int .u64 a, .int .u64 b, .int .u8 c]) 1).run Try.prog w = .ok (.int .u64 b) w := by kernel_rfl
theorem made_zeros (n : Nat) : madeCells #[Value.int .u8 0] n = (bs (List.replicate n 0)).toArray := by
  apply Array.ext
  · simp [madeCells, bs]
  · intro i h1 h2
    simp [madeCells, bs, Nat.mod_one]
theorem make_bytes (n : Nat) (hn : n ≤ 100000) (W : World) : (Instr.makeSlice 23 (.int .i64 (n : Int)) (.int .i64 (n : Int))).run Try.prog W = .ok (.slice (some ⟨W.heap.size, 0, none⟩) n n) (W.alloc (.cells (bs (List.replicate n 0)).toArray 5)) := by
  obtain ⟨j0, hj0, hy0, hy1, hy2⟩ := info_parts infoU8
  have h := run_make (P := Try.prog) W 23 5 j0 (.int .u8 0) Try.underlying23 hj0 hy0 .i64 .i64 (n : Int) (n : Int) (by omega) (Int.le_refl _) (by rw [hy2]; omega) (by omega)
  rw [Int.toNat_natCast, hy1, Nat.mul_one] at h
  rw [h, ← made_zeros]; rfl
set_option maxRecDepth 100000 in
set_option maxHeartbeats 4000000 in
theorem awake_any (w : World) : Calls Try.prog 9 #[] w fun e w' => e = .returned (.bool true) ∧ Below w.heap.size w w' := by
  have HM := Lib.hid (made_any 100 (by decide) w)
  have kc := fun (w : World) (C : Array Value) (n c : Nat) => Lib.run_convert_bytes_const (P := Try.prog) w 23 5 C n c Try.underlying23 Try.underlying5
  go_enter Try.func9, Try.ntmps9
  go_wp2_with fail
  refine Calls.mono HM.out ?_
  rintro e w1 ⟨jb, F, s, rfl, hM⟩
  obtain ⟨s1, s2, s3, e1, e2, e3, e4, e5, e6, e7, e8, e9⟩ := ex_steps hM.n
  have HE := Lib.hid (And.intro e1 (And.intro e2 (And.intro e3 (And.intro e4 (And.intro e5 (And.intro e6 (And.intro e7 (And.intro e8 e9))))))))
  have HJ := Lib.hid hM.j
  have HB := Lib.hid hM.below
  have HLO := Lib.hid hM.jlo
  clear HM hM e1 e2 e3 e4 e5 e6 e7 e8 e9
  go_wp2_with fail
  -- Append
  obtain ⟨hr, hb⟩ := lit_rows w1 #[.int .u8 97, .int .u8 98] (2, 3) [97, 98] rfl 2 rfl (by simp [maxLen])
  have hA := jappend_any (HJ.out.below hb) (some ⟨w1.heap.size + 1, 0, none⟩) 1 1 rab rfl (by simp [maxLen]) hr
  rw [HE.out.1] at hA
  have HJ1 := Lib.hid (HJ.out.below hb)
  have HB1 := Lib.hid (HB.out.trans (hb.mono HB.out.size))
  refine Calls.mono hA ?_
  rintro e w2 ⟨rfl, hN⟩
  obtain ⟨F2, hJ2, hB2, -⟩ := HJ1.out.next hN
  have HJ := Lib.hid hJ2
  have HB := Lib.hid (HB1.out.trans hB2)
  clear hr hb hA HJ1 HB1 hN hJ2 hB2
  go_wp2_with fail
  -- Size
  have hS := jsize_any HJ.out
  rw [HE.out.2.1] at hS
  refine Calls.mono hS ?_
  rintro e w3 ⟨rfl, hb⟩
  have HJ3 := Lib.hid (HJ.out.below hb)
  have HB3 := Lib.hid (HB.out.trans (hb.mono HB.out.size))
  clear hS hb HJ HB
  go_wp2_with fail
  -- Free
  have hS := jfree_any HJ3.out
  rw [HE.out.2.2.1] at hS
  refine Calls.mono hS ?_
  rintro e w4 ⟨rfl, hb⟩
  have HJ := Lib.hid (HJ3.out.below hb)
  have HB := Lib.hid (HB3.out.trans (hb.mono HB3.out.size))
  clear hS hb HJ3 HB3
  obtain ⟨zs, hzs⟩ : ∃ z : List UInt8, z = List.replicate 60 0 := ⟨_, rfl⟩
  have hmk : ∀ W, (Instr.makeSlice 23 (.int .i64 60) (.int .i64 60)).run Try.prog W = .ok (.slice (some ⟨W.heap.size, 0, none⟩) 60 60) (W.alloc (.cells (bs zs).toArray 5)) := fun W => by rw [hzs]; exact make_bytes 60 (by decide) W
  have HZ : Hid (r60 = [zs]) := Lib.hid (by rw [hzs]; rfl)
  have HZL : Hid (60 = zs.length) := Lib.hid (by rw [hzs, List.length_replicate])
  clear hzs
  go_wp2_with fail
  -- Append, once more
  obtain ⟨hr, hb⟩ := lit_rows w4 (bs zs).toArray (0, 0) zs (by simp) 60 HZL.out (by simp [maxLen])
  rw [← HZ.out] at hr
  have hA := jappend_any (HJ.out.below hb) (some ⟨w4.heap.size + 1, 0, none⟩) 1 1 r60 rfl (by simp [maxLen]) hr
  rw [HE.out.2.2.2.1] at hA
  have HJ1 := Lib.hid (HJ.out.below hb)
  have HB1 := Lib.hid (HB.out.trans (hb.mono HB.out.size))
  refine Calls.mono hA ?_
  rintro e w5 ⟨rfl, hN⟩
  obtain ⟨F5, hJ5, hB5, -⟩ := HJ1.out.next hN
  have HJ := Lib.hid hJ5
  have HB := Lib.hid (HB1.out.trans hB5)
  clear hr hb hA HJ1 HB1 hN hJ5 hB5 hmk HZ HZL
  go_wp2_with fail
  -- Switch
  obtain ⟨hr, hb⟩ := lit_rows w5 #[.int .u8 99] (1, 2) [99] rfl 1 rfl (by simp [maxLen])
  have hA := jswitch_any (HJ.out.below hb) (some ⟨w5.heap.size + 1, 0, none⟩) 1 1 rc rfl (by simp [maxLen]) hr
  rw [HE.out.2.2.2.2.1] at hA
  have HJ1 := Lib.hid (HJ.out.below hb)
  have HB1 := Lib.hid (HB.out.trans (hb.mono HB.out.size))
  refine Calls.mono hA ?_
  rintro e w6 ⟨rfl, hN⟩
  obtain ⟨F6, hJ6, hB6, -⟩ := HJ1.out.saved (x := (s2, (⟨3, 1, 1⟩ : H))) ⟨show (3 : Nat) < 18446744073709551616 by decide, show (1 : Nat) < 18446744073709551616 by decide, show (1 : Nat) < 256 by decide⟩ (show (1 : Nat) < 2 by decide) (Nat.le_of_lt HLO.out) hN
  have HJ : Hid (JAt w6 w.heap.size F6 w.heap.size jb s2 ⟨3, 1, 1⟩) := Lib.hid hJ6
  have HB := Lib.hid (HB1.out.trans hB6)
  clear hr hb hA HJ1 HB1 hN hJ6 hB6
  go_wp2_with fail
  -- Size, Free
  have hS := jsize_any HJ.out
  rw [HE.out.2.2.2.2.2.1] at hS
  refine Calls.mono hS ?_
  rintro e w7 ⟨rfl, hb⟩
  have HJ3 := Lib.hid (HJ.out.below hb)
  have HB3 := Lib.hid (HB.out.trans (hb.mono HB.out.size))
  clear hS hb HJ HB
  go_wp2_with fail
  have hS := jfree_any HJ3.out
  rw [HE.out.2.2.2.2.2.2.1] at hS
  refine Calls.mono hS ?_
  rintro e w8 ⟨rfl, hb⟩
  have HJ := Lib.hid (HJ3.out.below hb)
  have HB := Lib.hid (HB3.out.trans (hb.mono HB3.out.size))
  clear hS hb HJ3 HB3
  go_wp2_with fail
  -- Open
  have hO := open_any HJ.out.at_
  unfold OpenOut at hO
  rw [HE.out.2.2.2.2.2.2.2.1, HE.out.2.2.2.2.2.2.2.2] at hO
  refine Calls.mono hO ?_
  rintro e w9 ⟨F9, hA9, hf9, hs9, h⟩
  rcases h with ⟨h0, _⟩ | ⟨-, kb, A, cp, lo, hi, rfl, qk, hkb, nkb, hlc, hcm, hrz, hlo, hhi, -⟩
  · exact absurd rfl h0
  have HB9 := Lib.hid (HB.out.trans (hf9.below (B := w.heap.size) HB.out.size fun k hk => (HJ.out.at_.lt hk).1))
  have HK : Hid (JAt w9 w.heap.size F9 w.heap.size kb s3 ⟨4, 2, 1⟩) := Lib.hid ⟨hA9, ⟨qk, nkb⟩, ⟨by decide, by decide, by decide⟩, by decide⟩
  have HRW := Lib.hid (hrz.rows (k := w9.heap.size) fun b hb => Nat.lt_of_lt_of_le hb.2 hhi)
  dsimp only at hlc HRW ⊢
  clear hO hA9 hf9 hs9 qk hkb nkb hrz hlo hhi HJ HB
  go_wp2_with fail
  -- a raw disk
  refine Calls.mono (new_any 100 (by decide) w9) ?_
  rintro e w10 ⟨rfl, hA10, hB10⟩
  have hO := open_any hA10
  have en : openD (newD 100) = (50, newD 100, none_) := by unfold openD; rw [load_new]; exact if_pos (by decide)
  unfold OpenOut at hO
  rw [en] at hO
  have HB10 := Lib.hid hB10
  clear hB10 en
  go_wp2_with fail
  refine Calls.mono hO ?_
  rintro e w11 ⟨F11, -, hf11, -, h⟩
  rcases h with ⟨-, rfl⟩ | ⟨h0, _⟩
  rotate_left
  · exact absurd h0 (by decide)
  have hB := HB10.out.trans (hf11.below (B := w9.heap.size) HB10.out.size fun k hk => by rw [hk]; exact Nat.le_refl _)
  have HK1 := Lib.hid (HK.out.below hB)
  have hrw := HRW.out.grow hB
  have HB11 := Lib.hid (HB9.out.trans (hB.mono HB9.out.size))
  obtain ⟨b0, o0, v0, rfl, hb0, c0, A0, cp0, rfl, hl0, hm0, hr0⟩ := hrw 0 (by decide)
  have HR0 := Lib.hid hr0
  have hlr : [rc][0].length = 1 := rfl
  have hre : [rc][0] = rc := rfl
  rw [hlr] at c0 hl0
  have c0 : w11.cell? ⟨b0, o0, none⟩ = some (.slice A0 1 cp0) := c0
  rw [hre] at HR0
  clear hO hf11 hB HRW hA10 HB10 HB9 HK hrw hr0 hlr hre
  go_wp2_with fail
  -- the rows
  obtain ⟨hr, hb⟩ := lit_rows w11 #[.int .u8 99] (1, 2) [99] rfl 1 rfl (by simp [maxLen])
  have hS := samerows_any A0 (some ⟨w11.heap.size + 1, 0, none⟩) cp0 1 rc rc 1 1 rfl rfl hl0 (Nat.le_refl _) hm0 (by simp [maxLen]) _ (HR0.out.grow hb) hr
  rw [show decide (rc = rc) = true by decide] at hS
  have HK2 := Lib.hid (HK1.out.below hb)
  have HB12 := Lib.hid (HB11.out.trans (hb.mono HB11.out.size))
  clear hb hr HK1 HB11 HR0
  refine Calls.mono hS ?_
  rintro e w12 ⟨rfl, hb⟩
  have HK3 := Lib.hid (HK2.out.below hb)
  have HB13 := Lib.hid (HB12.out.trans (hb.mono HB12.out.size))
  clear hS hb HK2 HB12 c0
  go_wp2_with fail
  have hH := jhead_any HK3.out
  simp only [hv] at hH
  refine Calls.mono hH ?_
  rintro e w13 ⟨rfl, hb⟩
  have HB14 := Lib.hid (HB13.out.trans (hb.mono HB13.out.size))
  clear hH hb HK3 HB13
  have hfd := head_field 4 2 1
  go_wp2_with fail
  go_ret
  exact ⟨rfl, HB14.out⟩
end Go.Proofs.Ytmkijkkddoamgaa.Jo
