/-
  The walks of package rec's small functions.
-/
import Derived.Test.YtnclbonoenjbeaaRecPlain
import Derived.Test.YtnclbonoenjbeaaCrcR
import Derived.Test.YtnclbonoenjbeaaWordsApp
import Derived.BigQuiet
import Derived.Deep.QuietTactic
namespace Go.Proofs.Ytnclbonoenjbeaa.RecW
open Go.RowKit Go.Proofs Go.Proofs.Ytnclbonoenjbeaa Go.Proofs.Ytnclbonoenjbeaa.Wd Go.Proofs.Ytnclbonoenjbeaa.CrcW
open Go.Proofs.Ytnclbonoenjbeaa.Crc (sumB sumB_lt)
open Go.Proofs.Ytnclbonoenjbeaa.Rec (four number fine)

theorem infoU8 : (Try.prog.info? 5).map (fun i => (i.zero, i.size, i.bytes)) = some (some (.int .u8 0), 1, 1) := by kernel_rfl
theorem own_empty (w : World) (e : TypeId) {B : Nat} (hB : B ≤ w.heap.size) : (w.alloc (.cells #[] e)).ownsRow B e 1 (.slice (some ⟨w.heap.size, 0, none⟩) 0 0) 0 [] :=
  Blk.own (Blk.new_ w e #[] rfl) hB 0 (Nat.le_refl _) (by simp [maxLen])

theorem fours (n : Nat) (hn : n < 4294967296) : bs (four n) = [.int .u8 ((n : Int) % 256), .int .u8 ((n : Int) / 256 % 256), .int .u8 ((n : Int) / 65536 % 256), .int .u8 ((n : Int) / 16777216)] := by
  simp [bs, four, UInt8.toNat_ofNat']
  omega
theorem four_any (n : Nat) (hn : n < 4294967296) (w : World) :
    Calls Try.prog 30 #[.int .u32 n] w fun e w' => e = .returned (.slice (some ⟨w.heap.size, 0, none⟩) 4 4) ∧ w.alloc (.cells (bs (four n)).toArray 5) = w' := by
  rw [fours n hn]
  go_enter Try.func30, Try.ntmps30
  go_wp2
  go_ret
  exact ⟨rfl, rfl⟩

theorem kind_any (k : UInt8) (w : World) :
    Calls Try.prog 29 #[.int .u8 (k.toNat : Nat)] w fun e w' => e = .returned (.bool (fine k)) ∧ w = w' := by
  have hk := k.toNat_lt
  by_cases h1 : 1 ≤ k.toNat
  · by_cases h2 : k.toNat ≤ 2
    · have h3 : (1 : Int) ≤ (k.toNat : Int) := by omega
      have h4 : (k.toNat : Int) ≤ 2 := by omega
      have hf := Lib.hid (show fine k = true by unfold fine; simp [h1, h2])
      go_enter Try.func29, Try.ntmps29
      go_wp2
      go_ret
      rw [hf.out]; exact ⟨rfl, rfl⟩
    · have h3 : (1 : Int) ≤ (k.toNat : Int) := by omega
      have h4 : ¬ (k.toNat : Int) ≤ 2 := by omega
      have hf := Lib.hid (show fine k = false by unfold fine; simp [h2])
      go_enter Try.func29, Try.ntmps29
      go_wp2
      go_ret
      rw [hf.out]; exact ⟨rfl, rfl⟩
  · have h3 : ¬ (1 : Int) ≤ (k.toNat : Int) := by omega
    have hf := Lib.hid (show fine k = false by unfold fine; simp [h1])
    go_enter Try.func29, Try.ntmps29
    go_wp2
    go_ret
    rw [hf.out]; exact ⟨rfl, rfl⟩

theorem long_any (n : Int) (h1 : -9223372036854775808 ≤ n) (h2 : n ≤ 9223372036854775807) (w : World) :
    Calls Try.prog 36 #[.int .i64 n] w fun e w' => e = .returned (.int .i64 (Rec.longOf n)) ∧ w = w' := by
  by_cases h3 : n < 0
  · have hf := Lib.hid (show Rec.longOf n = 0 by unfold Rec.longOf; rw [if_neg (by omega)])
    go_enter Try.func36, Try.ntmps36
    go_wp2
    go_ret
    rw [hf.out]; exact ⟨rfl, rfl⟩
  · by_cases h4 : 4096 < n
    · have hf := Lib.hid (show Rec.longOf n = 0 by unfold Rec.longOf; rw [if_neg (by omega)])
      go_enter Try.func36, Try.ntmps36
      go_wp2
      go_ret
      rw [hf.out]; exact ⟨rfl, rfl⟩
    · have hf := Lib.hid (show Rec.longOf n = 9 + n by unfold Rec.longOf; rw [if_pos (by omega)])
      go_enter Try.func36, Try.ntmps36
      go_wp2
      go_ret
      rw [hf.out]; exact ⟨rfl, rfl⟩

theorem number_any (A : Option Addr) (c : Nat) (l : List UInt8) (n : Nat) (hn : n = l.length) (h4 : 4 ≤ l.length) (w : World) (hI : Bytes w w.heap.size A l) :
    Calls Try.prog 41 #[.slice A n c] w fun e w' => e = .returned (.int .u32 (number l : Nat)) ∧ Below w.heap.size w w' := by
  subst hn
  obtain ⟨b, off, rfl, hb, h0⟩ := hI.at_ (j := 0) (by omega)
  obtain ⟨_, _, e1, _, h1⟩ := hI.at_ (j := 1) (by omega)
  obtain ⟨_, _, e2, _, h2⟩ := hI.at_ (j := 2) (by omega)
  obtain ⟨_, _, e3, _, h3⟩ := hI.at_ (j := 3) (by omega)
  cases e1; cases e2; cases e3
  have i0 : (0 : Int) < (l.length : Int) := by omega
  have i1 : (1 : Int) < (l.length : Int) := by omega
  have i2 : (2 : Int) < (l.length : Int) := by omega
  have i3 : (3 : Int) < (l.length : Int) := by omega
  have hv : number l = l[0].toNat + 256 * l[1].toNat + 65536 * l[2].toNat + 16777216 * l[3].toNat := by
    unfold number; simp [show 0 < l.length by omega, show 1 < l.length by omega, show 2 < l.length by omega, show 3 < l.length by omega]
  rw [hv]
  rw [Nat.add_zero] at h0
  have b0 := l[0].toNat_lt; have b1 := l[1].toNat_lt; have b2 := l[2].toNat_lt; have b3 := l[3].toNat_lt
  clear hv
  generalize l[0].toNat = x0 at *
  generalize l[1].toNat = x1 at *
  generalize l[2].toNat = x2 at *
  generalize l[3].toNat = x3 at *
  have s1 : IntKind.u32.wrap ((x1 : Int) * 256) = (x1 : Int) * 256 := by rw [IntKind.wrap_u32']; omega
  have s2 : IntKind.u32.wrap ((x2 : Int) * 65536) = (x2 : Int) * 65536 := by rw [IntKind.wrap_u32']; omega
  have s3 : IntKind.u32.wrap ((x3 : Int) * 16777216) = (x3 : Int) * 16777216 := by rw [IntKind.wrap_u32']; omega
  have o1 : bits .or .u32 (x0 : Int) ((x1 : Int) * 256) = (x0 : Int) + (x1 : Int) * 256 := by
    have := u32_or_nat x0 (x1 * 256) (by omega) (by omega)
    rw [Nat.or_comm, nat_join 8 (x1 * 256) x0 (by omega) (by omega)] at this
    rw [show ((x1 * 256 : Nat) : Int) = (x1 : Int) * 256 by omega, show ((x1 * 256 + x0 : Nat) : Int) = (x0 : Int) + (x1 : Int) * 256 by omega] at this
    exact this
  have o2 : bits .or .u32 ((x0 : Int) + (x1 : Int) * 256) ((x2 : Int) * 65536) = (x0 : Int) + (x1 : Int) * 256 + (x2 : Int) * 65536 := by
    have := u32_or_nat (x0 + x1 * 256) (x2 * 65536) (by omega) (by omega)
    rw [Nat.or_comm, nat_join 16 (x2 * 65536) (x0 + x1 * 256) (by omega) (by omega)] at this
    rw [show ((x0 + x1 * 256 : Nat) : Int) = (x0 : Int) + (x1 : Int) * 256 by omega, show ((x2 * 65536 : Nat) : Int) = (x2 : Int) * 65536 by omega, show ((x2 * 65536 + (x0 + x1 * 256) : Nat) : Int) = (x0 : Int) + (x1 : Int) * 256 + (x2 : Int) * 65536 by omega] at this
    exact this
  have o3 : bits .or .u32 ((x0 : Int) + (x1 : Int) * 256 + (x2 : Int) * 65536) ((x3 : Int) * 16777216) = (x0 : Int) + (x1 : Int) * 256 + (x2 : Int) * 65536 + (x3 : Int) * 16777216 := by
    have := u32_or_nat (x0 + x1 * 256 + x2 * 65536) (x3 * 16777216) (by omega) (by omega)
    rw [Nat.or_comm, nat_join 24 (x3 * 16777216) (x0 + x1 * 256 + x2 * 65536) (by omega) (by omega)] at this
    rw [show ((x0 + x1 * 256 + x2 * 65536 : Nat) : Int) = (x0 : Int) + (x1 : Int) * 256 + (x2 : Int) * 65536 by omega, show ((x3 * 16777216 : Nat) : Int) = (x3 : Int) * 16777216 by omega, show ((x3 * 16777216 + (x0 + x1 * 256 + x2 * 65536) : Nat) : Int) = (x0 : Int) + (x1 : Int) * 256 + (x2 : Int) * 65536 + (x3 : Int) * 16777216 by omega] at this
    exact this
  go_enter Try.func41, Try.ntmps41
  go_wp2
  go_quiet (fail)
  go_wp2
  go_ret
  refine ⟨ret_u32 ?_, ⟨rfl, rfl, rfl, Nat.le_refl _, fun _ _ => rfl⟩⟩
  omega
end Go.Proofs.Ytnclbonoenjbeaa.RecW
