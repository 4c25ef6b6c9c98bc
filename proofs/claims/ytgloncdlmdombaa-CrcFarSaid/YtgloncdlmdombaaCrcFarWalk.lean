/-
  The walk of the statement CrcFar.
-/
import Derived.Test.YtgloncdlmdombaaCrcAwake
namespace Go.Proofs.Ytgloncdlmdombaa.CrcW
open Go.RowKit Go.Proofs Go.Proofs.Ytgloncdlmdombaa Go.Proofs.Ytgloncdlmdombaa.Wd

set_option maxHeartbeats 1000000 in
theorem far_walk (s m n : Nat) (bad : Int) (hs : s < 4294967296) (hm : m < 4294967296) (hn : n < 4294967296) (hb1 : -9223372036854775808 ≤ bad) (hb2 : bad ≤ 9223372036854775807) (w : World) :
    Calls Try.prog 5 #[.int .u32 s, .int .u32 m, .int .u32 n, .int .i64 bad] w fun e w' => e = .returned (.bool true) ∧ Below w.heap.size w w' := by
  obtain ⟨a, ha⟩ : ∃ a, a = m % 1073741824 := ⟨_, rfl⟩
  obtain ⟨b, hb⟩ : ∃ b, b = n % 1073741824 := ⟨_, rfl⟩
  have ha' : (m : Int) % 1073741824 = (a : Int) := by omega
  have hb' : (n : Int) % 1073741824 = (b : Int) := by omega
  have hal : a < 1073741824 := by omega
  have hbl : b < 1073741824 := by omega
  have HA := Lib.hid ha'
  have HB := Lib.hid hb'
  clear ha' hb' ha hb
  have e0 : ∀ k, Crc.join s 0 k = Crc.iter Crc.tab k s := fun k => Nat.xor_zero _
  have hj1 : Crc.join s 0 a < 4294967296 := by rw [e0]; exact Crc.iter_lt (fun _ => Crc.tab_lt) _ hs
  have ej : ((Crc.join (Crc.join s 0 a) 0 b : Nat) : Int) = ((Crc.join s 0 (a + b) : Nat) : Int) := by
    rw [e0, e0]; unfold Crc.join; rw [Nat.xor_zero, Crc.iter_add]
  have ez : ((Crc.join s 0 0 : Nat) : Int) = (s : Int) := by rw [e0]; rfl
  have EJ := Lib.hid ej
  have EZ := Lib.hid ez
  clear ej ez e0
  go_enter Try.func5, Try.ntmps5
  go_wp2_with fail
  rw [HA.out, HB.out]
  refine Calls.mono (join_in s 0 hs (by omega) a (by omega) _) ?_
  rintro e w1 ⟨rfl, hB1⟩
  go_wp2_with fail
  refine Calls.mono (join_in _ 0 hj1 (by omega) b (by omega) _) ?_
  rintro e w2 ⟨rfl, hB2⟩
  have hB2 := hB1.trans (hB2.mono hB1.size)
  clear hB1
  rw [EJ.out]
  go_wp2_with fail
  refine Calls.mono (join_in s 0 hs (by omega) (a + b) (by omega) _) ?_
  rintro e w3 ⟨rfl, hB3⟩
  have hB3 := hB2.trans (hB3.mono hB2.size)
  clear hB2
  go_wp2_with fail
  refine Calls.mono (join_in s 0 hs (by omega) 0 (by omega) _) ?_
  rintro e w4 ⟨rfl, hB4⟩
  have hB4 := hB3.trans (hB4.mono hB3.size)
  clear hB3
  rw [EZ.out]
  go_wp2_with fail
  all_goals
    refine Calls.mono (join_out s 7 _ (by omega) _) ?_
    rintro e w5 ⟨rfl, rfl⟩
    go_wp2_with fail
    refine Calls.mono (join_out s 7 _ (by omega) _) ?_
    rintro e w6 ⟨rfl, rfl⟩
    go_wp2_with fail
    refine Calls.mono (awake_any _) ?_
    rintro e w7 ⟨rfl, hB7⟩
    go_wp2
    go_ret
    exact ⟨rfl, hB4.trans (hB7.mono hB4.size)⟩
end Go.Proofs.Ytgloncdlmdombaa.CrcW
