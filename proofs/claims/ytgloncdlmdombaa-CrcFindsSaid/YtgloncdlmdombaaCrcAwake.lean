/-
  The chapter's examples of layer 2: the walk of awake.
-/
import Derived.Test.YtgloncdlmdombaaCrcWalks4
import Derived.Test.YtgloncdlmdombaaWordsApp
import Derived.Lib.SlBytesConst
namespace Go.Proofs.Ytgloncdlmdombaa.CrcW
open Go.RowKit Go.Proofs Go.Proofs.Ytgloncdlmdombaa Go.Proofs.Ytgloncdlmdombaa.Wd
open Go.Proofs.Ytgloncdlmdombaa.Crc (sumB sumB_lt sumB_snoc)

theorem sum_lit (A : Option Addr) (cap : Nat) (zs : List UInt8) (n : Int) (hn : ((sumB zs : Nat) : Int) = n) (k : Nat) (hk : k = zs.length) (hreach : zs.length ≤ 140737488351232) (w : World) (hI : Bytes w w.heap.size A zs) :
    Calls Try.prog 13 #[.slice A k cap] w fun e W' => e = .returned (.int .u32 n) ∧ Below w.heap.size w W' := by
  subst hn hk; exact sum_any A cap zs hreach w hI
theorem table_lit (i : Nat) (hi : i < 256) (n : Int) (hn : ((Crc.tab i : Nat) : Int) = n) (w : World) :
    Calls Try.prog 9 #[.int .u8 i] w fun e w' => e = .returned (.int .u32 n) ∧ Below w.heap.size w w' := by
  subst hn; exact table_any i hi w
theorem s0 : ((sumB [] : Nat) : Int) = 0 := by decide +kernel
theorem s9 : ((sumB [49, 50, 51, 52, 53, 54, 55, 56, 57] : Nat) : Int) = 3421780262 := by decide +kernel
theorem s1 : ((sumB [0] : Nat) : Int) = 3523407757 := by decide +kernel
theorem t1 : ((Crc.tab 1 : Nat) : Int) = 1996959894 := by decide +kernel
theorem t128 : ((Crc.tab 128 : Nat) : Int) = 3988292384 := by decide +kernel
theorem j9 : ((Crc.join (sumB [49, 50, 51, 52, 53]) (sumB [54, 55, 56, 57]) 4 : Nat) : Int) = 3421780262 := by decide +kernel

set_option maxHeartbeats 1000000 in
theorem awake_any (w : World) : Calls Try.prog 8 #[] w fun e w' => e = .returned (.bool true) ∧ Below w.heap.size w w' := by
  have kc := fun (w : World) (C : Array Value) (n c : Nat) => Lib.run_convert_bytes_const (P := Try.prog) w 23 5 C n c Try.underlying23 Try.underlying5
  go_enter Try.func8, Try.ntmps8
  go_wp2_with fail
  refine Calls.mono (sum_lit none 0 [] 0 s0 0 rfl (by simp) _ Row.nil) ?_
  rintro e w1 ⟨rfl, hb1⟩
  go_wp2_with fail
  refine Calls.mono (sum_lit _ _ [49, 50, 51, 52, 53, 54, 55, 56, 57] _ s9 _ rfl (by simp) _ (by exact Bytes.new_ _ _ _ _ _ rfl rfl (by simp))) ?_
  rintro e w2 ⟨rfl, hb2⟩
  have hB2 := (hb1.alloc hb1.size _).trans (hb2.mono (by simp; have := hb1.size; omega))
  clear hb1 hb2
  go_wp2_with fail
  refine Calls.mono (sum_lit _ _ [0] _ s1 _ rfl (by simp) _ (by exact Bytes.new_ _ _ _ _ _ rfl rfl (by simp))) ?_
  rintro e w3 ⟨rfl, hb3⟩
  have hB3 := (hB2.alloc hB2.size _).trans (hb3.mono (by simp; have := hB2.size; omega))
  clear hB2 hb3
  go_wp2_with fail
  refine (table_lit 1 (by omega) _ t1 _).mono ?_
  rintro e w4 ⟨rfl, hb4⟩
  have hB4 := hB3.trans (hb4.mono hB3.size)
  clear hB3 hb4
  go_wp2_with fail
  refine (table_lit 128 (by omega) _ t128 _).mono ?_
  rintro e w5 ⟨rfl, hb5⟩
  have hB5 := hB4.trans (hb5.mono hB4.size)
  clear hB4 hb5
  go_wp2_with fail
  refine Calls.mono (sum_any _ _ [49, 50, 51, 52, 53] (by simp) _ (by exact Bytes.new_ _ _ _ _ _ rfl rfl (by simp))) ?_
  rintro e w6 ⟨rfl, hb6⟩
  have hB6 := (hB5.alloc hB5.size _).trans (hb6.mono (by simp; have := hB5.size; omega))
  clear hB5 hb6
  go_wp2_with fail
  refine Calls.mono (sum_any _ _ [54, 55, 56, 57] (by simp) _ (by exact Bytes.new_ _ _ _ _ _ rfl rfl (by simp))) ?_
  rintro e w7 ⟨rfl, hb7⟩
  have hB7 := (hB6.alloc hB6.size _).trans (hb7.mono (by simp; have := hB6.size; omega))
  clear hB6 hb7
  go_wp2_with fail
  refine (join_in _ _ (sumB_lt _) (sumB_lt _) 4 (by omega) _).mono ?_
  rintro e w8 ⟨rfl, hb8⟩
  have hB8 := hB7.trans (hb8.mono hB7.size)
  clear hB7 hb8
  rw [j9]
  go_wp2
  go_ret
  exact ⟨rfl, hB8⟩
end Go.Proofs.Ytgloncdlmdombaa.CrcW
