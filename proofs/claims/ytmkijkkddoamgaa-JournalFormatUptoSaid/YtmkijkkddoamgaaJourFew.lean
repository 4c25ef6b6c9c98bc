/-
  Bytes and Few told exactly, of what weighs little; what is appended one by one.
-/
import Derived.Test.YtmkijkkddoamgaaJM
import Derived.Test.YtmkijkkddoamgaaJourNorm
namespace Go.Proofs.Ytmkijkkddoamgaa.Jo
set_option linter.unusedVariables false
open Go Go.RowKit Go.Shelf Go.Proofs Go.Proofs.Ytmkijkkddoamgaa Go.Proofs.Ytmkijkkddoamgaa.Wd Go.Proofs.Ytmkijkkddoamgaa.Dk Go.Proofs.Ytmkijkkddoamgaa.Hd Go.Proofs.Ytmkijkkddoamgaa.HdW Go.Proofs.Ytmkijkkddoamgaa.BatW
open Go.Proofs.Ytmkijkkddoamgaa.Bat (B writ allRight)

/-- What Few counts. -/
def fewB (l : List B) : Nat := (l.map fun b => b.length + bytesOf b).sum
theorem fewB_take {l : List B} {k : Nat} (h : k < l.length) : fewB (l.take (k + 1)) = fewB (l.take k) + (l[k].length + bytesOf l[k]) := by
  unfold fewB
  rw [List.take_succ_eq_append_getElem h]
  simp only [List.map_append, List.sum_append, List.map_cons, List.map_nil, List.sum_cons, List.sum_nil]
  omega
theorem few_mass (b : B) : b.length + bytesOf b + 1 = mass b := by
  unfold mass bytesOf
  induction b with
  | nil => rfl
  | cons d t ih => simp only [List.map_cons, List.sum_cons, List.length_cons] at *; omega
theorem fewB_mass (l : List B) : fewB l + l.length + 1 = mass3 l := by
  induction l with
  | nil => rfl
  | cons b t ih =>
    have := few_mass b
    unfold fewB mass3 at *
    simp only [List.map_cons, List.sum_cons, List.length_cons] at *
    omega
theorem fewB_le (l : List B) (k : Nat) : fewB (l.take k) ≤ fewB l := by
  have e : fewB l = fewB (l.take k) + fewB (l.drop k) := by
    unfold fewB
    rw [← List.sum_append, ← List.map_append, List.take_append_drop]
  omega
theorem bytesOf_le (b : B) (k : Nat) : bytesOf (b.take k) ≤ bytesOf b := by
  have e : bytesOf b = bytesOf (b.take k) + bytesOf (b.drop k) := by
    unfold bytesOf
    rw [← List.sum_append, ← List.map_append, List.take_append_drop]
  omega
theorem i64_nat {x : Nat} (h : x ≤ 100000000) : IntKind.i64.wrap (x : Int) = (x : Int) := IntWalk.i64_in _ (by omega)
set_option maxHeartbeats 1000000 in
theorem bytes_ex (A : Option Addr) (n c : Nat) (b : B) (hn : n = b.length) (hnc : n ≤ maxLen) (hb : bytesOf b ≤ 2000000) (w : World) (hI : BRows w w.heap.size A b) :
    Calls Try.prog 19 #[.slice A n c] w fun e w' => e = .returned (.int .i64 (bytesOf b : Nat)) ∧ w = w' := by
  have HN := Lib.hid hn
  have HBB := Lib.hid hb
  unfold maxLen at hnc
  clear hn hb
  go_enter Try.func19, Try.ntmps19
  go_wp2
  go_loop [3, 8] (fun v i => ∃ (k z : Nat), k ≤ n ∧ i = .int .i64 k ∧ v = .int .i64 z ∧ Hid (z = bytesOf (b.take k))) (fun _ i => n - (intOf i).toNat)
  case atStart => exact ⟨0, 0, Nat.zero_le _, rfl, rfl, Lib.hid rfl⟩
  case round =>
    obtain ⟨k, z, hk, rfl, rfl, hT⟩ := hrel
    by_cases hlt : k < n
    · have hkl : k < b.length := by have := HN.out; omega
      obtain ⟨bb, off, v0, A', c', rfl, hbb, hc, rfl, h1, h2, h3⟩ := hI.lt hkl
      have hE := bytesOf_take hkl
      have hle := bytesOf_le b (k + 1)
      generalize b[k] = d at *
      have i1 : (0 : Int) ≤ (k : Int) := by omega
      have i2 : (k : Int) < (n : Int) := by omega
      obtain ⟨z', hz'⟩ : ∃ x, x = z + d.length := ⟨_, rfl⟩
      have hz : IntKind.i64.wrap ((z : Int) + (d.length : Int)) = (z' : Int) := by rw [show (z : Int) + (d.length : Int) = ((z' : Nat) : Int) by omega]; exact i64_nat (by have := HBB.out; have := hT.out; omega)
      have HT : Hid (z' = bytesOf (b.take (k + 1))) := Lib.hid (by rw [hz', hT.out, hE])
      clear h3 hT hE hle hz'
      go_wp2_with fail
      go_round
      case rel => exact ⟨k + 1, z', by omega, by go_num, rfl, HT⟩
      case measure => simp [intOf]; omega
    · obtain rfl : k = n := by omega
      have HT : Hid (z = bytesOf b) := Lib.hid (by have := hT.out; rwa [List.take_of_length_le (by have := HN.out; omega)] at this)
      clear hT
      go_wp2_with fail
      go_ret
      rw [← HT.out]
      exact ⟨rfl, rfl⟩
set_option maxHeartbeats 1000000 in
theorem few_ex (A : Option Addr) (n c : Nat) (l : List B) (hn : n = l.length) (hnc : n ≤ c) (hm : c ≤ maxLen) (hmass : mass3 l ≤ 1048576) (w : World) (hI : BRows3 w w.heap.size A l) :
    Calls Try.prog 8 #[.slice A n c] w fun e w' => e = .returned (.bool (decide (n ≤ 20) && decide (fewB l ≤ 3000))) ∧ w = w' := by
  have HN := Lib.hid hn
  have HMM := Lib.hid hmass
  unfold maxLen at hm
  have hnn : n ≤ 1048576 := by have := fewB_mass l; omega
  clear hn hmass
  go_enter Try.func8, Try.ntmps8
  go_wp2
  go_loop [3, 8] (fun v i => ∃ (k z : Nat), k ≤ n ∧ i = .int .i64 k ∧ v = .int .i64 z ∧ Hid (z = fewB (l.take k))) (fun _ i => n - (intOf i).toNat)
  case atStart => exact ⟨0, 0, Nat.zero_le _, rfl, rfl, Lib.hid rfl⟩
  case round =>
    obtain ⟨k, z, hk, rfl, rfl, hT⟩ := hrel
    by_cases hlt : k < n
    · have hkl : k < l.length := by have := HN.out; omega
      obtain ⟨bb, off, v0, rfl, hbb, hc, A', c', rfl, q1, q2, q3⟩ := hI k hkl
      have hE := fewB_take hkl
      have hle := fewB_le l (k + 1)
      have hfm := fewB_mass l
      have hMM := HMM.out
      have HS := Lib.hid (bytes_ex A' l[k].length c' l[k] rfl (by omega) (by omega) w q3)
      have hz0 := hT.out
      obtain ⟨y, hy⟩ : ∃ y, y = bytesOf l[k] := ⟨_, rfl⟩
      obtain ⟨m, hm1⟩ : ∃ m, m = l[k].length := ⟨_, rfl⟩
      rw [← hm1] at hc HS q1 hE
      rw [← hy] at HS hE
      obtain ⟨z', hz'⟩ : ∃ x, x = z + (m + y) := ⟨_, rfl⟩
      obtain ⟨my, hmy⟩ : ∃ x, x = m + y := ⟨_, rfl⟩
      have h1 : IntKind.i64.wrap ((m : Int) + (y : Int)) = (my : Int) := by rw [show (m : Int) + (y : Int) = ((my : Nat) : Int) by omega]; exact i64_nat (by omega)
      have h2 : IntKind.i64.wrap ((z : Int) + (my : Int)) = (z' : Int) := by rw [show (z : Int) + (my : Int) = ((z' : Nat) : Int) by omega]; exact i64_nat (by omega)
      have HT : Hid (z' = fewB (l.take (k + 1))) := Lib.hid (by rw [hz', hE, hz0])
      clear q3 hm1 hy hE hle hfm hMM hz0 hT hz' hmy
      have i1 : (0 : Int) ≤ (k : Int) := by omega
      have i2 : (k : Int) < (n : Int) := by omega
      go_wp2_with fail
      refine Calls.mono HS.out ?_
      rintro e w' ⟨rfl, rfl⟩
      clear HS
      go_wp2_with fail
      go_round
      case rel => exact ⟨k + 1, z', by omega, by go_num, rfl, HT⟩
      case measure => simp [intOf]; omega
    · obtain rfl : k = n := by omega
      have HT : Hid (z = fewB l) := Lib.hid (by have := hT.out; rwa [List.take_of_length_le (by have := HN.out; omega)] at this)
      clear hT
      by_cases g1 : k ≤ 20
      · have u1 : (k : Int) ≤ 20 := by omega
        by_cases g2 : z ≤ 3000
        · have u2 : (z : Int) ≤ 3000 := by omega
          go_wp2_with fail
          go_ret
          exact ⟨by rw [← HT.out]; simp [g2], rfl⟩
        · have u2 : ¬ (z : Int) ≤ 3000 := by omega
          go_wp2_with fail
          go_ret
          exact ⟨by rw [← HT.out]; simp [g2], rfl⟩
      · have u1 : ¬ (k : Int) ≤ 20 := by omega
        go_wp2_with fail
        go_ret
        exact ⟨by simp, rfl⟩
/-- The weight of batches that are right. -/
theorem rows_few (b : B) : Bat.rowsLong b = 9 * b.length + bytesOf b := by
  unfold Bat.rowsLong bytesOf
  induction b with
  | nil => rfl
  | cons d t ih => simp only [List.map_cons, List.sum_cons, List.length_cons] at *; omega
theorem put_few (b : B) : (Bat.put b).length ≤ 11 + 9 * b.length + bytesOf b := by
  rw [Bat.put_length]
  unfold Bat.longB
  split
  · have := rows_few b
    omega
  · omega
/-- The batches so far: those of the first i that were taken. -/
structure Sofar (l : List B) (i : Nat) (L : List B) : Prop where
  right : allRight L = true
  len : L.length ≤ i
  size : (writ L).length ≤ 11 * i + 9 * fewB (l.take i)
theorem Sofar.nil (l : List B) : Sofar l 0 [] := ⟨rfl, Nat.le_refl _, Nat.zero_le _⟩
theorem Sofar.skip {l L : List B} {i : Nat} (h : Sofar l i L) (hi : i < l.length) : Sofar l (i + 1) L := ⟨h.right, by have := h.len; omega, by have := h.size; rw [fewB_take hi]; omega⟩
theorem Sofar.add {l L : List B} {i : Nat} (h : Sofar l i L) (hi : i < l.length) (hw : Bat.wrong l[i] = 0) : Sofar l (i + 1) (L ++ [l[i]]) := by
  refine ⟨?_, by have := h.len; simp; omega, ?_⟩
  · have := h.right
    unfold allRight at *
    simp [List.all_append, this, hw]
  · have h1 := h.size
    have h2 := put_few l[i]
    rw [Bat.writ_snoc, List.length_append, fewB_take hi]
    omega
end Go.Proofs.Ytmkijkkddoamgaa.Jo
