/-
  Words and walks, one behind the other: BatWritten.
-/
import Derived.Test.YtmkijkkddoamgaaJB0
namespace Go.Proofs.Ytmkijkkddoamgaa.BatW
set_option linter.unusedVariables false
open Go.RowKit Go.Proofs Go.Proofs.Ytmkijkkddoamgaa Go.Proofs.Ytmkijkkddoamgaa.Wd Go.Proofs.Ytmkijkkddoamgaa.RecW
open Go.Proofs.Ytmkijkkddoamgaa.Bat (B cnt scan put wrong longB rowsLong long writ allRight)

/-- How much there is in rows, in rows of rows. -/
def mass (b : B) : Nat := (b.map fun d => d.length + 1).sum + 1
def mass3 (l : List B) : Nat := (l.map mass).sum + 1
theorem rows_mass (b : B) : rowsLong b + 11 ≤ 11 * mass b := by
  unfold mass
  induction b with
  | nil => simp [rowsLong]
  | cons d t ih =>
    have e : rowsLong (d :: t) = d.length + 9 + rowsLong t := by simp [rowsLong]
    rw [e, List.map_cons, List.sum_cons]; omega
theorem put_mass (b : B) : (put b).length ≤ 11 * mass b := by
  rw [Bat.put_length]
  have := rows_mass b
  unfold longB
  split <;> omega
theorem writ_mass (l : List B) : (writ l).length + 11 ≤ 11 * mass3 l := by
  induction l with
  | nil => simp [writ, mass3]
  | cons b t ih =>
    have := put_mass b
    have e : (writ (b :: t)).length = (put b).length + (writ t).length := by simp [writ]
    have e2 : mass3 (b :: t) = mass b + mass3 t := by unfold mass3; rw [List.map_cons, List.sum_cons]; omega
    rw [e, e2]; omega
theorem mass3_append (l m : List B) : mass3 (l ++ m) + 1 = mass3 l + mass3 m := by unfold mass3; rw [List.map_append, List.sum_append]; omega
theorem mass3_take (l : List B) (k : Nat) : mass3 (l.take k) ≤ mass3 l := by
  have := mass3_append (l.take k) (l.drop k)
  rw [List.take_append_drop] at this
  have : 1 ≤ mass3 (l.drop k) := by unfold mass3; omega
  omega
theorem length_mass3 (l : List B) : l.length + 1 ≤ mass3 l := by
  induction l with
  | nil => simp [mass3]
  | cons b t ih =>
    have e2 : mass3 (b :: t) = mass b + mass3 t := by unfold mass3; rw [List.map_cons, List.sum_cons]; omega
    have : 1 ≤ mass b := by unfold mass; omega
    rw [e2, List.length_cons]; omega
theorem writ_take {l : List B} {k : Nat} (h : k < l.length) : writ (l.take (k + 1)) = writ (l.take k) ++ put l[k] := by
  rw [List.take_succ_eq_append_getElem h, Bat.writ_snoc]
theorem right_take {l : List B} {k : Nat} (h : k < l.length) (ht : allRight (l.take k) = true) (hk : wrong l[k] = 0) : allRight (l.take (k + 1)) = true := by
  rw [List.take_succ_eq_append_getElem h]
  unfold allRight at *
  rw [List.all_append, ht]; simp [hk]
theorem right_get {l : List B} {k : Nat} (h : k < l.length) (hk : wrong l[k] ≠ 0) : allRight l = false := by
  rw [Bool.eq_false_iff]
  intro ha
  unfold allRight at ha
  rw [List.all_eq_true] at ha
  exact hk (by simpa using ha l[k] (List.getElem_mem h))
/-- Where each batch ends. -/
def endsV (l : List B) (j : Nat) : List Value := (List.range j).map fun i => .int .i64 ((writ (l.take (i + 1))).length : Nat)
theorem endsV_snoc (l : List B) (j : Nat) : endsV l (j + 1) = endsV l j ++ [.int .i64 ((writ (l.take (j + 1))).length : Nat)] := by unfold endsV; rw [List.range_succ, List.map_append]; rfl
theorem endsV_length (l : List B) (j : Nat) : (endsV l j).length = j := by simp [endsV]
def Written (w : World) (l : List B) (e : Ending) (w' : World) : Prop :=
  Below w.heap.size w w' ∧ (allRight l = false → e = .returned (.tuple #[.slice none 0 0, .slice none 0 0, .bool false])) ∧
  (allRight l = true → ∃ A c A2 c2, e = .returned (.tuple #[.slice A (writ l).length c, .slice A2 l.length c2, .bool true]) ∧ (writ l).length ≤ c ∧ c ≤ maxLen ∧ Bytes w' w'.heap.size A (writ l) ∧ l.length ≤ c2 ∧ Row w' w'.heap.size A2 (endsV l l.length))
theorem infoInt : (Try.prog.info? 3).map (fun i => (i.zero, i.size, i.bytes)) = some (some (.int .i64 0), 1, 8) := by kernel_rfl
/-- A truth, whichever. -/
def SomeB (w : World) (e : Ending) (w' : World) : Prop := ∃ q : Bool, e = .returned (.bool q) ∧ w = w'
set_option maxHeartbeats 1000000 in
theorem few_any (A : Option Addr) (n c : Nat) (l : List B) (hn : n = l.length) (hnc : n ≤ c) (hm : c ≤ maxLen) (w : World) (hI : BRows3 w w.heap.size A l) :
    Calls Try.prog 8 #[.slice A n c] w (SomeB w) := by
  have HN := Lib.hid hn
  unfold maxLen at hm
  clear hn
  go_enter Try.func8, Try.ntmps8
  go_wp2
  go_loop [3, 8] (fun v i => ∃ (k : Nat) (z : Int), k ≤ n ∧ i = .int .i64 k ∧ v = .int .i64 z ∧ -9223372036854775808 ≤ z ∧ z ≤ 9223372036854775807) (fun _ i => n - (intOf i).toNat)
  case atStart => exact ⟨0, 0, Nat.zero_le _, rfl, rfl, by decide, by decide⟩
  case round =>
    obtain ⟨k, z, hk, rfl, rfl, z1, z2⟩ := hrel
    by_cases hlt : k < n
    · have hkl : k < l.length := by have := HN.out; omega
      obtain ⟨bb, off, v0, rfl, hbb, hc, A', c', rfl, q1, q2, q3⟩ := hI k hkl
      have HS := Lib.hid (bytesof_any A' l[k].length c' l[k] rfl (by omega) w q3)
      obtain ⟨m, hm1⟩ : ∃ m, m = l[k].length := ⟨_, rfl⟩
      rw [← hm1] at hc HS q1
      clear q3 hm1
      have i1 : (0 : Int) ≤ (k : Int) := by omega
      have i2 : (k : Int) < (n : Int) := by omega
      go_wp2_with fail
      refine Calls.mono HS.out ?_
      rintro e w' ⟨y, rfl, rfl, y1, y2, -⟩
      obtain ⟨s1, hs1⟩ : ∃ x, x = IntKind.i64.wrap ((m : Int) + y) := ⟨_, rfl⟩
      have b1 := wrap_in ((m : Int) + y)
      rw [← hs1] at b1
      obtain ⟨s2, hs2⟩ : ∃ x, x = IntKind.i64.wrap (z + s1) := ⟨_, rfl⟩
      have b2 := wrap_in (z + s1)
      rw [← hs2] at b2
      have h1 := hs1.symm
      have h2 := hs2.symm
      clear hs1 hs2 HS
      go_wp2_with fail
      go_round
      case rel => exact ⟨k + 1, s2, by omega, by go_num, rfl, b2.1, b2.2⟩
      case measure => simp [intOf]; omega
    · obtain rfl : k = n := by omega
      go_wp2_with fail
      all_goals
        go_ret
        exact ⟨_, rfl, rfl⟩
end Go.Proofs.Ytmkijkkddoamgaa.BatW
