/-
  Batches, plainly: what rows are written as, and which batches bytes are.
-/
import Derived.Test.YtnclbonoenjbeaaRecPlain5
namespace Go.Proofs.Ytnclbonoenjbeaa.Bat
set_option linter.unusedVariables false
open Go.Proofs.Ytnclbonoenjbeaa.Rec

/-- A batch: rows of bytes. -/
abbrev B := List (List UInt8)
def cnt (n : Nat) : List UInt8 := [UInt8.ofNat n, UInt8.ofNat (n / 256)]
theorem cnt_length (n : Nat) : (cnt n).length = 2 := rfl
theorem cnt_inj {n m : Nat} (hn : n < 65536) (hm : m < 65536) : cnt n = cnt m ↔ n = m := by
  refine ⟨fun h => ?_, fun h => by rw [h]⟩
  unfold cnt at h
  injection h with h1 h2
  injection h2 with h2
  have e1 := congrArg UInt8.toNat h1
  have e2 := congrArg UInt8.toNat h2
  simp only [UInt8.toNat_ofNat'] at e1 e2
  omega
def long (d : List UInt8) : Bool := decide (4096 < d.length)
/-- The error of rows that are no batch; 0: none. -/
def wrong (b : B) : Nat := if b.length = 0 ∨ 1024 < b.length then 34 else if b.any long then 31 else 0
theorem wrong_zero {b : B} (h : wrong b = 0) : 0 < b.length ∧ b.length ≤ 1024 ∧ b.any long = false := by
  unfold wrong at h
  split at h
  · cases h
  split at h
  · cases h
  · rename_i h1 h2
    exact ⟨by omega, by omega, by simpa using h2⟩
/-- A batch's records. -/
def recs (b : B) : List R := b.map (fun d => ((1 : UInt8), d)) ++ [(2, cnt b.length)]
def put (b : B) : List UInt8 := if wrong b = 0 then flat (recs b) else []
/-- The weight of rows. -/
def rowsLong (b : B) : Nat := (b.map fun d => d.length + 9).sum
def longB (b : B) : Nat := if wrong b = 0 then 11 + rowsLong b else 0
theorem rowsLong_snoc (b : B) (d : List UInt8) : rowsLong (b ++ [d]) = rowsLong b + (d.length + 9) := by simp [rowsLong]
theorem rowsLong_take {b : B} {k : Nat} (h : k < b.length) : rowsLong (b.take (k + 1)) = rowsLong (b.take k) + (b[k].length + 9) := by
  rw [List.take_succ_eq_append_getElem h, rowsLong_snoc]
theorem flat_rows (b : B) : (flat (b.map fun d => ((1 : UInt8), d))).length = rowsLong b := by
  rw [flat_length]; simp only [weight, rowsLong, List.map_map]; rfl
theorem put_length (b : B) : (put b).length = longB b := by
  unfold put longB
  split
  · unfold recs
    rw [flat_append, flat_one, List.length_append, bytes_length, flat_rows]
    simp [cnt_length]; omega
  · rfl
theorem rowsLong_le {b : B} (h : b.any long = false) : rowsLong b ≤ b.length * 4105 := by
  induction b with
  | nil => simp [rowsLong]
  | cons d t ih =>
    simp only [List.any_cons, Bool.or_eq_false_iff] at h
    have h1 : d.length ≤ 4096 := by have := h.1; unfold long at this; simpa using this
    have := ih h.2
    have e : rowsLong (d :: t) = d.length + 9 + rowsLong t := by simp [rowsLong]
    rw [e, List.length_cons]; omega
theorem short_get {b : B} (h : b.any long = false) {k : Nat} (hk : k < b.length) : b[k].length ≤ 4096 := by
  rw [List.any_eq_false] at h
  have := h b[k] (List.getElem_mem hk)
  unfold long at this; simpa using this
theorem fine1 : fine 1 = true := by decide
theorem fine2 : fine 2 = true := by decide
theorem recs_fine {b : B} (h : b.any long = false) : allFine (recs b) = true := by
  unfold allFine recs
  rw [List.all_append, List.all_map]
  refine Bool.and_eq_true_iff.2 ⟨?_, by simp [putErr, fine2, cnt_length]⟩
  rw [List.all_eq_true]
  intro d hd
  rw [List.any_eq_false] at h
  have := h d hd
  unfold long at this
  simp only [Function.comp, putErr, fine1, if_true, beq_iff_eq]
  rw [if_pos (by simpa using this)]

/-- The batches so far, and the rows that are kept. -/
abbrev St := List B × B
/-- What becomes of a record: the state, whether a batch ended, an error. -/
def take (s : St) (r : R) : St × Bool × Nat :=
  if r.1 = 1 then (if s.2.length = 1024 then (s, false, 34) else ((s.1, s.2 ++ [r.2]), false, 0))
  else if s.2.length = 0 ∨ r.2 ≠ cnt s.2.length then (s, false, 34) else ((s.1 ++ [s.2], []), true, 0)
/-- Record by record; e: the error behind them all. -/
def run (e : Nat) : List R → St → Nat → Nat → List B × Nat × Nat
  | [], s, _, to => (s.1, to, if e ≠ 0 then e else if 0 < s.2.length then 32 else 0)
  | r :: rs, s, at_, to => if (take s r).2.2 ≠ 0 then (s.1, to, (take s r).2.2) else run e rs (take s r).1 (at_ + (r.2.length + 9)) (if (take s r).2.1 then at_ + (r.2.length + 9) else to)
def scan (b : List UInt8) : List B × Nat × Nat := run (all b).2.2 (all b).1 ([], []) 0 0
/-- So far: what a place, the state there, and the end so far, leave. -/
def So (b : List UInt8) (s : St) (at_ to : Nat) : Prop := at_ ≤ b.length ∧ scan b = run (all (b.drop at_)).2.2 (all (b.drop at_)).1 s at_ to
theorem So.start (b : List UInt8) : So b ([], []) 0 0 := ⟨Nat.zero_le _, by rw [List.drop_zero]; rfl⟩
theorem takeEnd_rec {b : List UInt8} (h : takeErr b = 0) : takeEnd b = (takeRec b).2.length + 9 := by
  obtain ⟨h9, hle, h4096, _, _⟩ := takeEnd_le h
  unfold takeRec; simp only [List.length_drop, List.length_take]; unfold takeEnd at *; omega
theorem So.stop {b : List UInt8} {s : St} {at_ to : Nat} (h : So b s at_ to) (hl : at_ < b.length) (he : takeErr (b.drop at_) ≠ 0) : scan b = (s.1, to, takeErr (b.drop at_)) := by
  rw [h.2, all_err (by rw [List.length_drop]; omega) he]
  simp only [run, if_pos he]
theorem So.bad {b : List UInt8} {s : St} {at_ to : Nat} (h : So b s at_ to) (he : takeErr (b.drop at_) = 0) {q : St × Bool × Nat} (hq : take s (takeRec (b.drop at_)) = q) (h2 : q.2.2 ≠ 0) : scan b = (s.1, to, q.2.2) := by
  subst hq
  rw [h.2, all_ok he]
  simp only [run, if_pos h2]
theorem So.next {b : List UInt8} {s : St} {at_ to : Nat} (h : So b s at_ to) (he : takeErr (b.drop at_) = 0) {q : St × Bool × Nat} (hq : take s (takeRec (b.drop at_)) = q) (h2 : q.2.2 = 0) :
    So b q.1 (at_ + takeEnd (b.drop at_)) (if q.2.1 then at_ + takeEnd (b.drop at_) else to) := by
  subst hq
  have hl := (takeEnd_le he).2.1
  rw [List.length_drop] at hl
  refine ⟨by have := h.1; have : 9 ≤ takeEnd (b.drop at_) := by unfold takeEnd; omega
             omega, ?_⟩
  rw [h.2, all_ok he]
  simp only [run]
  rw [if_neg (by rw [h2]; simp), List.drop_drop, ← takeEnd_rec he]
theorem So.full {b : List UInt8} {s : St} {at_ to : Nat} (h : So b s at_ to) (hl : ¬ at_ < b.length) : scan b = (s.1, to, if 0 < s.2.length then 32 else 0) := by
  have : at_ = b.length := by have := h.1; omega
  subst this
  rw [h.2, List.drop_length, all_nil]
  simp [run]
/-- How many rows may be kept. -/
theorem take_kept {s : St} {r : R} (h : s.2.length ≤ 1024) : (take s r).1.2.length ≤ 1024 := by
  unfold take
  split
  · split
    · exact h
    · simp; omega
  · split
    · exact h
    · simp
theorem take_bound {s : St} {r : R} {n : Nat} (h : s.1.length ≤ n) : (take s r).1.1.length ≤ n + 1 := by
  unfold take
  split
  · split
    · dsimp only; omega
    · dsimp only; omega
  · split
    · dsimp only; omega
    · simp; omega
end Go.Proofs.Ytnclbonoenjbeaa.Bat
