/-
  The walks of wrong, count, Put and Long.
-/
import Derived.Test.YtnclbonoenjbeaaBatMem
import Derived.Test.YtnclbonoenjbeaaRecForms0
namespace Go.Proofs.Ytnclbonoenjbeaa.BatW
set_option linter.unusedVariables false
open Go.RowKit Go.Proofs Go.Proofs.Ytnclbonoenjbeaa Go.Proofs.Ytnclbonoenjbeaa.Wd Go.Proofs.Ytnclbonoenjbeaa.RecW
open Go.Proofs.Ytnclbonoenjbeaa.Rec (R flat flat_append flat_one allFine allFine_get putErr)
open Go.Proofs.Ytnclbonoenjbeaa.Bat (B cnt long wrong recs put rowsLong longB)

theorem wrong1_any (d : List UInt8) (A : Option Addr) (n c : Nat) (hn : n = d.length) (w : World) :
    Calls Try.prog 45 #[.slice A n c] w fun e w' => e = .returned (.bool (long d)) ∧ w = w' := by
  subst hn
  have h : (decide ((4096 : Int) < (d.length : Int))) = long d := by unfold long; rw [Bool.eq_iff_iff]; simp only [decide_eq_true_eq]; omega
  go_enter Try.func45, Try.ntmps45
  go_wp2
  go_ret
  exact ⟨by rw [← h]; rfl, rfl⟩
/-- Where the first long one is, or a number below 0. -/
def Idx (b : B) (w : World) (e : Ending) (w' : World) : Prop := ∃ z : Int, e = .returned (.int .i64 z) ∧ w = w' ∧ decide (0 ≤ z) = b.any long
theorem any_take {b : B} {k : Nat} (h : k < b.length) (ht : (b.take k).any long = false) (hk : long b[k] = false) : (b.take (k + 1)).any long = false := by
  rw [List.take_succ_eq_append_getElem h, List.any_append, ht]; simp [hk]
theorem any_get {b : B} {k : Nat} (h : k < b.length) (hk : long b[k] = true) : b.any long = true := List.any_eq_true.2 ⟨b[k], List.getElem_mem h, hk⟩
theorem index_any (A : Option Addr) (n c : Nat) (b : B) (hn : n = b.length) (hnc : n ≤ maxLen) (w : World) (hI : BRows w w.heap.size A b) :
    Calls Try.prog 53 #[.slice A n c, .func (.func 45) #[] #[]] w (Idx b w) := by
  unfold maxLen at hnc
  have HN := Lib.hid hn
  clear hn
  go_enter Try.func53, Try.ntmps53
  go_wp2
  go_loop [8] (fun i => ∃ k : Nat, k ≤ n ∧ i = .int .i64 k ∧ Hid ((b.take k).any long = false)) (fun i => n - (intOf i).toNat)
  case atStart => exact ⟨0, Nat.zero_le _, rfl, Lib.hid rfl⟩
  case round =>
    obtain ⟨k, hk, rfl, hT⟩ := hrel
    by_cases hlt : k < n
    · have hkl : k < b.length := by have := HN.out; omega
      obtain ⟨bb, off, v, A', c', rfl, hb1, hc, rfl, h1, h2, h3⟩ := hI.lt hkl
      have i1 : (0 : Int) ≤ (k : Int) := by omega
      have i2 : (k : Int) < (n : Int) := by omega
      have HE1 := Lib.hid (any_take hkl hT.out)
      have HE2 := Lib.hid (any_get hkl)
      generalize b[k] = d at *
      clear h1 h2 h3 hT
      go_wp2_with fail
      refine Calls.mono (wrong1_any d _ _ _ rfl _) ?_
      rintro e w' ⟨rfl, rfl⟩
      cases hl : long d
      · have HT := Lib.hid (HE1.out hl)
        clear HE1 HE2 hl
        go_wp2_with fail
        go_round
        case rel => exact ⟨k + 1, by omega, by go_num, HT⟩
        case measure => simp [intOf]; omega
      · have HT := Lib.hid (HE2.out hl)
        clear HE1 HE2 hl
        go_wp2_with fail
        go_ret
        exact ⟨_, rfl, rfl, by rw [HT.out]; simp⟩
    · have HT : Hid (b.any long = false) := Lib.hid (by have := hT.out; rwa [List.take_of_length_le (by have := HN.out; omega)] at this)
      clear hT
      go_wp2_with fail
      go_ret
      exact ⟨_, rfl, rfl, by rw [HT.out]; simp⟩
theorem contains_any (A : Option Addr) (n c : Nat) (b : B) (hn : n = b.length) (hnc : n ≤ maxLen) (w : World) (hI : BRows w w.heap.size A b) :
    Calls Try.prog 46 #[.slice A n c, .func (.func 45) #[] #[]] w fun e w' => e = .returned (.bool (b.any long)) ∧ w = w' := by
  have HC := Lib.hid (index_any A n c b hn hnc w hI)
  clear hn
  go_enter Try.func46, Try.ntmps46
  go_wp2_with fail
  refine Calls.mono HC.out ?_
  rintro e w' ⟨z, rfl, rfl, hz⟩
  have HZ := Lib.hid hz
  clear hz
  go_wp2_with fail
  go_ret
  exact ⟨by rw [← HZ.out]; rfl, rfl⟩
theorem wrong_any (A : Option Addr) (n c : Nat) (b : B) (hn : n = b.length) (hnc : n ≤ maxLen) (w : World) (hI : BRows w w.heap.size A b) :
    Calls Try.prog 32 #[.slice A n c] w fun e w' => e = .returned (.int .i64 (wrong b : Nat)) ∧ w = w' := by
  have HC := Lib.hid (contains_any A n c b hn hnc w hI)
  by_cases h0 : n = 0
  · have HW := Lib.hid (show wrong b = 34 by unfold wrong; rw [if_pos (by omega)])
    have u1 : (n : Int) = 0 := by omega
    clear hn h0 hI HC
    go_enter Try.func32, Try.ntmps32
    go_wp2_with fail
    go_ret
    exact ⟨by rw [HW.out]; rfl, rfl⟩
  by_cases h1 : 1024 < n
  · have HW := Lib.hid (show wrong b = 34 by unfold wrong; rw [if_pos (by omega)])
    have u1 : ¬ (n : Int) = 0 := by omega
    have u2 : (1024 : Int) < (n : Int) := by omega
    clear hn h0 hI HC
    go_enter Try.func32, Try.ntmps32
    go_wp2_with fail
    go_ret
    exact ⟨by rw [HW.out]; rfl, rfl⟩
  have u1 : ¬ (n : Int) = 0 := by omega
  have u2 : ¬ (1024 : Int) < (n : Int) := by omega
  cases ha : b.any long
  · have HW := Lib.hid (show wrong b = 0 by unfold wrong; rw [if_neg (by omega), ha]; rfl)
    rw [ha] at HC
    clear hn h0 hI ha
    go_enter Try.func32, Try.ntmps32
    go_wp2_with fail
    refine Calls.mono HC.out ?_
    rintro e w' ⟨rfl, rfl⟩
    go_wp2_with fail
    go_ret
    exact ⟨by rw [HW.out]; rfl, rfl⟩
  · have HW := Lib.hid (show wrong b = 31 by unfold wrong; rw [if_neg (by omega), ha]; rfl)
    rw [ha] at HC
    clear hn h0 hI ha
    go_enter Try.func32, Try.ntmps32
    go_wp2_with fail
    refine Calls.mono HC.out ?_
    rintro e w' ⟨rfl, rfl⟩
    go_wp2_with fail
    go_ret
    exact ⟨by rw [HW.out]; rfl, rfl⟩

/-- Two bytes of a number. -/
theorem cnts (n : Nat) (hn : n < 65536) : bs (cnt n) = [.int .u8 ((n : Int) % 256), .int .u8 ((n : Int) / 256)] := by
  simp only [bs, cnt, List.map_cons, List.map_nil, UInt8.toNat_ofNat', List.cons.injEq, Value.int.injEq, true_and, and_true]
  omega
theorem count_any (n : Nat) (hn : n < 65536) (w : World) :
    Calls Try.prog 33 #[.int .i64 n] w fun e w' => e = .returned (.slice (some ⟨w.heap.size, 0, none⟩) 2 2) ∧ w' = w.alloc (.cells (bs (cnt n)).toArray 5) := by
  have HC := Lib.hid (cnts n hn)
  go_enter Try.func33, Try.ntmps33
  go_wp2
  go_ret
  exact ⟨rfl, by rw [HC.out]⟩
end Go.Proofs.Ytnclbonoenjbeaa.BatW
