/-
  The walks of package crc's functions without a range over a function.
-/
import Derived.Test.YtnclbonoenjbeaaProg
import Derived.Test.YtnclbonoenjbeaaCrcPlain
import Derived.WalkKit
import Derived.WalkLawsBesides
import Derived.WalkSpells
import Derived.Lib.Hide
namespace Go.Proofs.Ytnclbonoenjbeaa.CrcW
open Go.RowKit Go.Proofs Go.Proofs.Ytnclbonoenjbeaa

theorem ret_u32 {a b : Int} (h : a = b) : Ending.returned (.int .u32 a) = .returned (.int .u32 b) := by rw [h]
theorem and1 (n : Nat) (hn : n < 4294967296) : bits .and .u32 (n : Int) 1 = ((n % 2 : Nat) : Int) := by
  have := u32_and_nat n 1 hn (by decide)
  rw [Nat.and_one_is_mod] at this
  exact this
theorem xor32 (a b : Nat) (ha : a < 4294967296) (hb : b < 4294967296) : bits .xor .u32 (a : Int) (b : Int) = ((a ^^^ b : Nat) : Int) := u32_xor_nat a b ha hb
theorem half_any (n : Nat) (hn : n < 4294967296) (w : World) :
    Calls Try.prog 58 #[.int .u32 n] w fun e w' => e = .returned (.int .u32 (Crc.half n : Nat)) ∧ w = w' := by
  by_cases h : n % 2 = 1
  · have h1 : (bits .and .u32 (n : Int) 1 == 1) = true := by rw [and1 n hn, h]; rfl
    have hx : bits .xor .u32 ((n : Int) / 2) 3988292384 = ((Crc.half n : Nat) : Int) := by
      unfold Crc.half; rw [if_pos h]; exact xor32 (n / 2) 3988292384 (by omega) (by decide)
    have HX := Lib.hid hx
    clear hx
    go_enter Try.func58, Try.ntmps58
    go_wp2
    go_ret
    exact ⟨ret_u32 HX.out, rfl⟩
  · have h1 : (bits .and .u32 (n : Int) 1 == 1) = false := by rw [and1 n hn, show n % 2 = 0 by omega]; rfl
    have hx : (n : Int) / 2 = ((Crc.half n : Nat) : Int) := by
      unfold Crc.half; rw [if_neg h]; omega
    have HX := Lib.hid hx
    clear hx
    go_enter Try.func58, Try.ntmps58
    go_wp2
    go_ret
    exact ⟨ret_u32 HX.out, rfl⟩

/-- What 'times(n, step)' makes: the number and the function, boxed. -/
theorem times_any (n : Int) (w : World) :
    Calls Try.prog 57 #[.int .i64 n, .func (.func 58) #[] #[]] w fun e w' => e = .returned (.func (.func 59) #[] #[.pointer (some ⟨w.heap.size, 0, none⟩), .pointer (some ⟨w.heap.size + 1, 0, none⟩)]) ∧
      (w.alloc (.cells #[.int .i64 n] 3)).alloc (.cells #[.func (.func 58) #[] #[]] 86) = w' := by
  go_enter Try.func57, Try.ntmps57
  go_wp2
  go_ret
  exact ⟨rfl, rfl⟩

theorem times1_any (k : Nat) (hk : k ≤ 1000) (n : Nat) (hn : n < 4294967296) (a b : Addr) (w : World) (ha : w.cell? a = some (.int .i64 k)) (hb : w.cell? b = some (.func (.func 58) #[] #[])) :
    Calls Try.prog 59 #[.int .u32 n, .pointer (some a), .pointer (some b)] w fun e w' => e = .returned (.int .u32 (Crc.iter Crc.half k n : Nat)) ∧ w = w' := by
  go_enter Try.func59, Try.ntmps59
  go_wp2
  go_loop [0, 6] (fun v i => ∃ j : Nat, j ≤ k ∧ i = .int .i64 j ∧ v = .int .u32 (Crc.iter Crc.half j n : Nat)) (fun _ i => k - (intOf i).toNat)
  case atStart => exact ⟨0, Nat.zero_le _, rfl, rfl⟩
  case round =>
    obtain ⟨j, hj, rfl, rfl⟩ := hrel
    have hl := Crc.iter_lt (f := Crc.half) (fun _ => Crc.half_lt) j hn
    have HS := Lib.hid (Crc.iter_succ Crc.half j n)
    by_cases hlt : j < k
    · go_wp2_with (go_at_call 58; refine (half_any _ hl _).mono ?_; rintro e w' ⟨rfl, rfl⟩)
      go_round
      case rel => exact ⟨j + 1, by omega, by go_num, by rw [HS.out]⟩
      case measure => simp [intOf]; omega
    · obtain rfl : j = k := by omega
      go_wp2
      go_ret
      exact ⟨rfl, rfl⟩

theorem table_any (i : Nat) (hi : i < 256) (w : World) :
    Calls Try.prog 56 #[.int .u8 i] w fun e w' => e = .returned (.int .u32 (Crc.tab i : Nat)) ∧ Below w.heap.size w w' := by
  go_enter Try.func56, Try.ntmps56
  go_wp2_with (go_at_call 57; refine (times_any _ _).mono ?_; rintro e w' ⟨rfl, rfl⟩)
  refine (times1_any 8 (by omega) i (by omega) _ _ _ (by simp) (by simp)).mono ?_
  rintro e w' ⟨rfl, rfl⟩
  go_wp2
  go_ret
  exact ⟨rfl, ((Below.refl _ w).alloc (Nat.le_refl _) _).alloc (by simp) _⟩

theorem not32 (s : Nat) (hs : s < 4294967296) : bits .xor .u32 IntKind.u32.max (s : Int) = ((Crc.top ^^^ s : Nat) : Int) := xor32 4294967295 s (by decide) hs
theorem through_any (r b : Nat) (hr : r < 4294967296) (hb : b < 256) (w : World) :
    Calls Try.prog 52 #[.int .u32 r, .int .u8 b] w fun e w' => e = .returned (.int .u32 (Crc.thr r b : Nat)) ∧ Below w.heap.size w w' := by
  have hx : bits .xor .u8 ((r : Int) % 256) (b : Int) = (((r % 256) ^^^ b : Nat) : Int) := u8_xor_nat (r % 256) b (by omega) hb
  have hxl : (r % 256) ^^^ b < 256 := Nat.xor_lt_two_pow (n := 8) (by omega) hb
  have hr8 : bits .xor .u32 ((Crc.tab ((r % 256) ^^^ b) : Nat) : Int) ((r : Int) / 256) = ((Crc.thr r b : Nat) : Int) := xor32 _ (r / 256) (Crc.tab_lt (by omega)) (by omega)
  have HX := Lib.hid hx
  have HR := Lib.hid hr8
  clear hx hr8
  go_enter Try.func52, Try.ntmps52
  go_wp2_with fail
  rw [HX.out]
  refine (table_any _ hxl _).mono ?_
  rintro e w1 ⟨rfl, hb1⟩
  go_wp2
  go_ret
  exact ⟨ret_u32 HR.out, hb1⟩

theorem next_any (s b : Nat) (hs : s < 4294967296) (hb : b < 256) (w : World) :
    Calls Try.prog 44 #[.int .u32 s, .int .u8 b] w fun e w' => e = .returned (.int .u32 (Crc.nxt s b : Nat)) ∧ Below w.heap.size w w' := by
  have hx := not32 s hs
  have hl : Crc.top ^^^ s < 4294967296 := Crc.xor_lt (by decide) hs
  have ht : Crc.thr (Crc.top ^^^ s) b < 4294967296 := by rw [Crc.thr_eq]; exact Crc.tab_lt (Crc.xor_lt hl (by omega))
  have hy : bits .xor .u32 IntKind.u32.max ((Crc.thr (Crc.top ^^^ s) b : Nat) : Int) = ((Crc.nxt s b : Nat) : Int) := not32 _ ht
  have HX := Lib.hid hx
  have HY := Lib.hid hy
  clear hx hy
  have hsg : IntKind.u32.signed = false := rfl
  go_enter Try.func44, Try.ntmps44
  go_wp2_with fail
  rw [HX.out]
  refine (through_any _ _ hl hb _).mono ?_
  rintro e w1 ⟨rfl, hb1⟩
  go_wp2
  go_ret
  exact ⟨ret_u32 HY.out, hb1⟩

end Go.Proofs.Ytnclbonoenjbeaa.CrcW
