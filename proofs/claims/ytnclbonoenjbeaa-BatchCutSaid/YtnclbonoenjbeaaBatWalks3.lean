/-
  The walks of Long, of the reference's Put, and of Bytes.
-/
import Derived.Test.YtnclbonoenjbeaaBatWalks2
namespace Go.Proofs.Ytnclbonoenjbeaa.BatW
set_option linter.unusedVariables false
open Go.RowKit Go.Proofs Go.Proofs.Ytnclbonoenjbeaa Go.Proofs.Ytnclbonoenjbeaa.Wd Go.Proofs.Ytnclbonoenjbeaa.RecW
open Go.Proofs.Ytnclbonoenjbeaa.Rec (R flat flat_append flat_one allFine allFine_get putErr longOf)
open Go.Proofs.Ytnclbonoenjbeaa.Bat (B cnt long wrong recs put rowsLong longB)

theorem longOf_row {d : List UInt8} (h : d.length ≤ 4096) : longOf (d.length : Int) = 9 + (d.length : Int) := by unfold longOf; rw [if_pos (by omega)]
set_option maxRecDepth 100000 in
set_option maxHeartbeats 1000000 in
theorem blong_any (A : Option Addr) (n c : Nat) (b : B) (hn : n = b.length) (hnc : n ≤ maxLen) (w : World) (hI : BRows w w.heap.size A b) :
    Calls Try.prog 19 #[.slice A n c] w fun e w' => e = .returned (.tuple #[.int .i64 (longB b : Nat), .int .i64 (wrong b : Nat)]) ∧ w = w' := by
  have HWR := Lib.hid (wrong_any A n c b hn hnc w hI)
  have HN := Lib.hid hn
  unfold maxLen at hnc
  clear hn
  by_cases h0 : wrong b = 0
  · obtain ⟨hb0, hb1, hb2⟩ := Bat.wrong_zero h0
    have HS := Lib.hid hb2
    have HOK := Lib.hid (show longB b = 11 + rowsLong b by unfold longB; rw [if_pos h0])
    have H0 := Lib.hid h0
    have hn1 : n ≤ 1024 := by have := HN.out; omega
    rw [h0] at HWR
    have H2 := fun W => long_any 2 (by decide) (by decide) W
    simp only [show longOf 2 = 11 from rfl] at H2
    clear h0 hb2 hb0 hb1
    go_enter Try.func19, Try.ntmps19
    go_wp2_with fail
    refine Calls.mono HWR.out ?_
    rintro e w' ⟨rfl, rfl⟩
    clear HWR
    go_wp2_with fail
    refine Calls.mono (H2 _) ?_
    rintro e w' ⟨rfl, rfl⟩
    clear H2
    go_wp2_with fail
    go_loop [5, 16] (fun v i => ∃ (k m : Nat), k ≤ n ∧ i = .int .i64 k ∧ v = .int .i64 m ∧ Hid (m = 11 + rowsLong (b.take k)) ∧ m ≤ 11 + k * 4105) (fun _ i => n - (intOf i).toNat)
    case atStart => exact ⟨0, 11, Nat.zero_le _, rfl, rfl, Lib.hid rfl, by omega⟩
    case round =>
      obtain ⟨k, m, hk, rfl, rfl, hT, hm⟩ := hrel
      by_cases hlt : k < n
      · have hkl : k < b.length := by have := HN.out; omega
        obtain ⟨bb, off, v0, A', c', rfl, hbb, hc, rfl, h1, h2, h3⟩ := hI.lt hkl
        have hsh := Bat.short_get HS.out hkl
        have HE := Lib.hid (Bat.rowsLong_take hkl)
        generalize b[k] = d at *
        have i1 : (0 : Int) ≤ (k : Int) := by omega
        have i2 : (k : Int) < (n : Int) := by omega
        have HP := long_any (d.length : Int) (by omega) (by omega) w
        rw [longOf_row hsh] at HP
        clear h3
        go_wp2_with fail
        refine Calls.mono HP ?_
        rintro e w' ⟨rfl, rfl⟩
        clear HP
        have HT : Hid (m + (9 + d.length) = 11 + rowsLong (b.take (k + 1))) := Lib.hid (by rw [HE.out, hT.out]; omega)
        clear hT HE
        go_wp2_with fail
        go_round
        case rel => exact ⟨k + 1, m + (9 + d.length), by omega, by go_num, by go_num, HT, by omega⟩
        case measure => simp [intOf]; omega
      · obtain rfl : k = n := by omega
        have HT : Hid (m = 11 + rowsLong b) := Lib.hid (by have := hT.out; rwa [List.take_of_length_le (by have := HN.out; omega)] at this)
        clear hT
        go_wp2_with fail
        go_ret2
        exact ⟨by rw [HOK.out, H0.out, HT.out]; rfl, rfl⟩
  · have hp := Lib.hid (show longB b = 0 by unfold longB; rw [if_neg h0])
    have hne : (((wrong b : Nat) : Int) != 0) = true := by rw [bne_iff_ne]; omega
    obtain ⟨x, hx⟩ : ∃ x, x = wrong b := ⟨_, rfl⟩
    rw [← hx] at HWR hne
    have HX := Lib.hid hx
    clear hx h0
    go_enter Try.func19, Try.ntmps19
    go_wp2_with fail
    refine Calls.mono HWR.out ?_
    rintro e w' ⟨rfl, rfl⟩
    clear HWR
    go_wp2_with fail
    go_ret2
    exact ⟨by rw [hp.out, ← HX.out]; rfl, rfl⟩

/-- How many bytes there are in rows. -/
def bytesOf (b : B) : Nat := (b.map List.length).sum
theorem bytesOf_take {b : B} {k : Nat} (h : k < b.length) : bytesOf (b.take (k + 1)) = bytesOf (b.take k) + b[k].length := by
  unfold bytesOf; rw [List.take_succ_eq_append_getElem h, List.map_append, List.sum_append]; simp
theorem bytesOf_bound {b : B} (h : ∀ d ∈ b, d.length ≤ 140737488351232) : bytesOf b ≤ b.length * 140737488351232 := by
  induction b with
  | nil => simp [bytesOf]
  | cons d t ih =>
    have h1 := h d (List.mem_cons_self ..)
    have h2 := ih fun x hx => h x (List.mem_cons_of_mem _ hx)
    have e : bytesOf (d :: t) = d.length + bytesOf t := by simp [bytesOf]
    rw [e, List.length_cons]; omega
theorem le_bytesOf {b : B} {d : List UInt8} (h : d ∈ b) : d.length ≤ bytesOf b := by
  induction b with
  | nil => cases h
  | cons x t ih =>
    have e : bytesOf (x :: t) = x.length + bytesOf t := by simp [bytesOf]
    rw [e]
    rcases List.mem_cons.1 h with rfl | h
    · omega
    · have := ih h; omega
/-- Few rows, of no more bytes than there may be. -/
def Fit (b : B) : Prop := b.length ≤ 5000 ∧ ∀ d ∈ b, d.length ≤ 140737488351232
theorem Fit.take {b : B} (h : Fit b) (k : Nat) : bytesOf (b.take k) ≤ 703687441756160000 := by
  have := bytesOf_bound (b := b.take k) fun d hd => h.2 d (List.mem_of_mem_take hd)
  have h2 : (b.take k).length ≤ 5000 := by have := h.1; rw [List.length_take]; omega
  omega
/-- A number of bytes: right, if they are few. -/
def Sum (b : B) (w : World) (e : Ending) (w' : World) : Prop := ∃ z : Int, e = .returned (.int .i64 z) ∧ w = w' ∧ -9223372036854775808 ≤ z ∧ z ≤ 9223372036854775807 ∧ (Fit b → z = (bytesOf b : Nat))
theorem wrap_in (z : Int) : -9223372036854775808 ≤ IntKind.i64.wrap z ∧ IntKind.i64.wrap z ≤ 9223372036854775807 := by
  rw [IntKind.wrap_i64]; omega
set_option maxHeartbeats 1000000 in
theorem bytesof_any (A : Option Addr) (n c : Nat) (b : B) (hn : n = b.length) (hnc : n ≤ maxLen) (w : World) (hI : BRows w w.heap.size A b) :
    Calls Try.prog 15 #[.slice A n c] w (Sum b w) := by
  have HN := Lib.hid hn
  unfold maxLen at hnc
  clear hn
  go_enter Try.func15, Try.ntmps15
  go_wp2
  go_loop [3, 8] (fun v i => ∃ (k : Nat) (z : Int), k ≤ n ∧ i = .int .i64 k ∧ v = .int .i64 z ∧ -9223372036854775808 ≤ z ∧ z ≤ 9223372036854775807 ∧ Hid (Fit b → z = (bytesOf (b.take k) : Nat))) (fun _ i => n - (intOf i).toNat)
  case atStart => exact ⟨0, 0, Nat.zero_le _, rfl, rfl, by decide, by decide, Lib.hid fun _ => rfl⟩
  case round =>
    obtain ⟨k, z, hk, rfl, rfl, z1, z2, hT⟩ := hrel
    by_cases hlt : k < n
    · have hkl : k < b.length := by have := HN.out; omega
      obtain ⟨bb, off, v0, A', c', rfl, hbb, hc, rfl, h1, h2, h3⟩ := hI.lt hkl
      have HE := Lib.hid (bytesOf_take hkl)
      generalize b[k] = d at *
      have i1 : (0 : Int) ≤ (k : Int) := by omega
      have i2 : (k : Int) < (n : Int) := by omega
      obtain ⟨z', hz'⟩ : ∃ x, x = IntKind.i64.wrap (z + (d.length : Int)) := ⟨_, rfl⟩
      have w1 := wrap_in (z + (d.length : Int))
      have HZ : Hid (IntKind.i64.wrap (z + (d.length : Int)) = z') := Lib.hid hz'.symm
      have HT : Hid (Fit b → z' = (bytesOf (b.take (k + 1)) : Nat)) := Lib.hid fun h => by
        have b1 := h.take (k + 1)
        rw [hz', hT.out h, HE.out]
        rw [HE.out] at b1
        exact IntWalk.i64_in _ (by omega)
      rw [← hz'] at w1
      clear h3 hT HE hz'
      have hz := HZ.out
      go_wp2_with fail
      go_round
      case rel => exact ⟨k + 1, z', by omega, by go_num, rfl, w1.1, w1.2, HT⟩
      case measure => simp [intOf]; omega
    · obtain rfl : k = n := by omega
      have HT : Hid (Fit b → z = (bytesOf b : Nat)) := Lib.hid (by have := hT.out; rwa [List.take_of_length_le (by have := HN.out; omega)] at this)
      clear hT
      go_wp2_with fail
      go_ret
      exact ⟨z, rfl, rfl, z1, z2, HT.out⟩
end Go.Proofs.Ytnclbonoenjbeaa.BatW
