/-
  The walks of the reference's check sum.
-/
import Derived.Test.YtnclbonoenjbeaaCrcB
namespace Go.Proofs.Ytnclbonoenjbeaa.CrcW
open Go.RowKit Go.Proofs Go.Proofs.Ytnclbonoenjbeaa Go.Proofs.Ytnclbonoenjbeaa.Wd
open Go.Proofs.Ytnclbonoenjbeaa.Crc (sumB sumB_lt sumB_snoc)

theorem ret_val {a b : Int} (h : a = b) : Value.int .u32 a = .int .u32 b := by rw [h]
theorem u32rem2 (n : Nat) : (n : Int) % 2 = ((n % 2 : Nat) : Int) := by omega
theorem refnext_any (s b : Nat) (hs : s < 4294967296) (hb : b < 256) (w : World) :
    Calls Try.prog 54 #[.int .u32 s, .int .u8 b] w fun e w' => e = .returned (.int .u32 (Crc.nxt s b : Nat)) ∧ w = w' := by
  have hfin : ((4294967295 : Int) - ((Crc.rsteps 8 (4294967295 - s, b)).1 : Nat)) = ((Crc.nxt s b : Nat) : Int) := by
    have hl := Crc.rsteps_lt 8 (s := (4294967295 - s, b)) (by show 4294967295 - s < _; omega)
    rw [Crc.rsteps_eight hb] at hl ⊢
    unfold Crc.nxt
    rw [Crc.top_xor hs, Crc.top_xor hl]; omega
  have HF := Lib.hid hfin
  clear hfin
  go_enter Try.func54, Try.ntmps54
  go_wp2
  go_loop [5, 6, 7] (fun r x k => ∃ j : Nat, j ≤ 8 ∧ k = .int .i64 j ∧ r = .int .u32 ((Crc.rsteps j (4294967295 - s, b)).1 : Nat) ∧ x = .int .u32 ((Crc.rsteps j (4294967295 - s, b)).2 : Nat)) (fun _ _ k => 8 - (intOf k).toNat)
  case atStart => exact ⟨0, Nat.zero_le _, rfl, ret_val (by show (4294967295 : Int) - (s : Int) = ((4294967295 - s : Nat) : Int); omega), rfl⟩
  case round =>
    obtain ⟨j, hj, rfl, rfl, rfl⟩ := hrel
    have hl := Crc.rsteps_lt j (s := (4294967295 - s, b)) (by show 4294967295 - s < _; omega)
    by_cases hlt : j < 8
    · have hl2 := Crc.rsteps_le2 j (s := (4294967295 - s, b))
      have HS := Lib.hid (show Crc.rsteps (j + 1) (4294967295 - s, b) = Crc.rstep (Crc.rsteps j (4294967295 - s, b)) from rfl)
      have hb2 : (Crc.rsteps j (4294967295 - s, b)).2 < 256 := Nat.lt_of_le_of_lt hl2 hb
      clear hl2
      generalize Crc.rsteps j (4294967295 - s, b) = p at hl hb2 HS ⊢
      obtain ⟨r, x⟩ := p
      dsimp only at hl hb2 ⊢
      have hmod : ((r : Int) + x) % 4294967296 % 2 = (((r + x) % 2 : Nat) : Int) := by omega
      by_cases hbit : (r + x) % 2 = 1
      · have h1 : (((r : Int) + x) % 4294967296 % 2 == 1) = true := by rw [hmod, hbit]; rfl
        have hx : bits .xor .u32 ((r : Int) / 2) 3988292384 = (((Crc.rstep (r, x)).1 : Nat) : Int) := by
          unfold Crc.rstep; dsimp only; rw [if_pos hbit]; exact xor32 (r / 2) 3988292384 (by omega) (by decide)
        have HX := Lib.hid hx
        clear hx hbit hmod
        go_wp2
        go_round
        case rel => exact ⟨j + 1, by omega, by go_num, by rw [HS.out, HX.out], by rw [HS.out]; rfl⟩
        case measure => simp [intOf]; omega
      · have h1 : (((r : Int) + x) % 4294967296 % 2 == 1) = false := by rw [hmod, show (r + x) % 2 = 0 by omega]; rfl
        have hx : (r : Int) / 2 = (((Crc.rstep (r, x)).1 : Nat) : Int) := by unfold Crc.rstep; dsimp only; rw [if_neg hbit]; omega
        have HX := Lib.hid hx
        clear hx hbit hmod
        go_wp2
        go_round
        case rel => exact ⟨j + 1, by omega, by go_num, by rw [HS.out, ← HX.out], by rw [HS.out]; rfl⟩
        case measure => simp [intOf]; omega
    · obtain rfl : j = 8 := by omega
      go_wp2
      go_ret
      exact ⟨ret_u32 HF.out, rfl⟩

theorem refsum_any (A : Option Addr) (cap : Nat) (zs : List UInt8) (hreach : zs.length ≤ 140737488351232) (w : World) (hI : Bytes w w.heap.size A zs) :
    Calls Try.prog 47 #[.slice A zs.length cap] w fun e W' => e = .returned (.int .u32 (sumB zs : Nat)) ∧ w = W' := by
  go_enter Try.func47, Try.ntmps47
  go_wp2
  go_loop [3, 4] (fun v i => ∃ k : Nat, k ≤ zs.length ∧ i = .int .i64 k ∧ v = .int .u32 (sumB (zs.take k) : Nat)) (fun _ i => zs.length - (intOf i).toNat)
  case atStart => exact ⟨0, Nat.zero_le _, rfl, rfl⟩
  case round =>
    obtain ⟨k, hk, rfl, rfl⟩ := hrel
    by_cases hlt : k < zs.length
    · have HS := Lib.hid (show sumB (zs.take (k + 1)) = Crc.nxt (sumB (zs.take k)) zs[k].toNat by rw [List.take_succ_eq_append_getElem hlt, sumB_snoc])
      have hxl := zs[k].toNat_lt
      obtain ⟨b, off, rfl, hb, hcx⟩ := Bytes.at_ hI hlt
      go_wp2_with fail
      refine (refnext_any _ _ (sumB_lt _) hxl _).mono ?_
      rintro e w1 ⟨rfl, rfl⟩
      go_wp2
      go_round
      case rel => exact ⟨k + 1, by omega, by go_num, by rw [HS.out]⟩
      case measure => simp [intOf]; omega
    · obtain rfl : k = zs.length := by omega
      rw [List.take_length]
      go_wp2
      go_ret
      exact ⟨rfl, rfl⟩
end Go.Proofs.Ytnclbonoenjbeaa.CrcW
