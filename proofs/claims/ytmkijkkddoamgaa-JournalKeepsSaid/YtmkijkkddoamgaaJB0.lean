/-
  Words and walks, one behind the other: BatPlain, BatMem, BatWalks1, BatTake0, BatTake, BatScan, BatWalks2, BatWalks3, BatPlain2.
-/
import Derived.Test.YtmkijkkddoamgaaJR
import Derived.Test.YtmkijkkddoamgaaJW
import Derived.Deep.DeepCutAuto
namespace Go.Proofs.Ytmkijkkddoamgaa.Bat
set_option linter.unusedVariables false
open Go.Proofs.Ytmkijkkddoamgaa.Rec

/-- A batch: rows of bytes. -/
abbrev B := List (List UInt8)
def cnt (n : Nat) : List UInt8 := [UInt8.ofNat n, UInt8.ofNat (n / 256)]
theorem cnt_length (n : Nat) : (cnt n).length = 2 := rfl
theorem cnt_inj {n m : Nat} (hn : n < 65536) (hm : m < 65536) : cnt n = cnt m ↔ n = m := by
  refine ⟨fun h => ?_, fun h => by rw [h]⟩
  unfold cnt at h
  injection h with h1 h2
  injection h2 with h2
  have e1 := congrArg UInt8.toNat h1
  have e2 := congrArg UInt8.toNat h2
  simp only [UInt8.toNat_ofNat'] at e1 e2
  omega
def long (d : List UInt8) : Bool := decide (4096 < d.length)
/-- The error of rows that are no batch; 0: none. -/
def wrong (b : B) : Nat := if b.length = 0 ∨ 1024 < b.length then 34 else if b.any long then 31 else 0
theorem wrong_zero {b : B} (h : wrong b = 0) : 0 < b.length ∧ b.length ≤ 1024 ∧ b.any long = false := by
  unfold wrong at h
  split at h
  · cases h
  split at h
  · cases h
  · rename_i h1 h2
    exact ⟨by omega, by omega, by simpa using h2⟩
/-- A batch's records. -/
def recs (b : B) : List R := b.map (fun d => ((1 : UInt8), d)) ++ [(2, cnt b.length)]
def put (b : B) : List UInt8 := if wrong b = 0 then flat (recs b) else []
/-- The weight of rows. -/
def rowsLong (b : B) : Nat := (b.map fun d => d.length + 9).sum
def longB (b : B) : Nat := if wrong b = 0 then 11 + rowsLong b else 0
theorem rowsLong_snoc (b : B) (d : List UInt8) : rowsLong (b ++ [d]) = rowsLong b + (d.length + 9) := by simp [rowsLong]
theorem rowsLong_take {b : B} {k : Nat} (h : k < b.length) : rowsLong (b.take (k + 1)) = rowsLong (b.take k) + (b[k].length + 9) := by
  rw [List.take_succ_eq_append_getElem h, rowsLong_snoc]
theorem flat_rows (b : B) : (flat (b.map fun d => ((1 : UInt8), d))).length = rowsLong b := by
  rw [flat_length]; simp only [weight, rowsLong, List.map_map]; rfl
theorem put_length (b : B) : (put b).length = longB b := by
  unfold put longB
  split
  · unfold recs
    rw [flat_append, flat_one, List.length_append, bytes_length, flat_rows]
    simp [cnt_length]; omega
  · rfl
theorem rowsLong_le {b : B} (h : b.any long = false) : rowsLong b ≤ b.length * 4105 := by
  induction b with
  | nil => simp [rowsLong]
  | cons d t ih =>
    simp only [List.any_cons, Bool.or_eq_false_iff] at h
    have h1 : d.length ≤ 4096 := by have := h.1; unfold long at this; simpa using this
    have := ih h.2
    have e : rowsLong (d :: t) = d.length + 9 + rowsLong t := by simp [rowsLong]
    rw [e, List.length_cons]; omega
theorem short_get {b : B} (h : b.any long = false) {k : Nat} (hk : k < b.length) : b[k].length ≤ 4096 := by
  rw [List.any_eq_false] at h
  have := h b[k] (List.getElem_mem hk)
  unfold long at this; simpa using this
theorem fine1 : fine 1 = true := by decide
theorem fine2 : fine 2 = true := by decide
theorem recs_fine {b : B} (h : b.any long = false) : allFine (recs b) = true := by
  unfold allFine recs
  rw [List.all_append, List.all_map]
  refine Bool.and_eq_true_iff.2 ⟨?_, by simp [putErr, fine2, cnt_length]⟩
  rw [List.all_eq_true]
  intro d hd
  rw [List.any_eq_false] at h
  have := h d hd
  unfold long at this
  simp only [Function.comp, putErr, fine1, if_true, beq_iff_eq]
  rw [if_pos (by simpa using this)]

/-- The batches so far, and the rows that are kept. -/
abbrev St := List B × B
/-- What becomes of a record: the state, whether a batch ended, an error. -/
def take (s : St) (r : R) : St × Bool × Nat :=
  if r.1 = 1 then (if s.2.length = 1024 then (s, false, 34) else ((s.1, s.2 ++ [r.2]), false, 0))
  else if s.2.length = 0 ∨ r.2 ≠ cnt s.2.length then (s, false, 34) else ((s.1 ++ [s.2], []), true, 0)
/-- Record by record; e: the error behind them all. -/
def run (e : Nat) : List R → St → Nat → Nat → List B × Nat × Nat
  | [], s, _, tO => (s.1, tO, if e ≠ 0 then e else if 0 < s.2.length then 32 else 0)
  | r :: rs, s, at_, tO => if (take s r).2.2 ≠ 0 then (s.1, tO, (take s r).2.2) else run e rs (take s r).1 (at_ + (r.2.length + 9)) (if (take s r).2.1 then at_ + (r.2.length + 9) else tO)
def scan (b : List UInt8) : List B × Nat × Nat := run (all b).2.2 (all b).1 ([], []) 0 0
/-- So far: what a place, the state there, and the end so far, leave. -/
def So (b : List UInt8) (s : St) (at_ tO : Nat) : Prop := at_ ≤ b.length ∧ scan b = run (all (b.drop at_)).2.2 (all (b.drop at_)).1 s at_ tO
theorem So.start (b : List UInt8) : So b ([], []) 0 0 := ⟨Nat.zero_le _, by rw [List.drop_zero]; rfl⟩
theorem takeEnd_rec {b : List UInt8} (h : takeErr b = 0) : takeEnd b = (takeRec b).2.length + 9 := by
  obtain ⟨h9, hle, h4096, _, _⟩ := takeEnd_le h
  unfold takeRec; simp only [List.length_drop, List.length_take]; unfold takeEnd at *; omega
theorem So.stop {b : List UInt8} {s : St} {at_ tO : Nat} (h : So b s at_ tO) (hl : at_ < b.length) (he : takeErr (b.drop at_) ≠ 0) : scan b = (s.1, tO, takeErr (b.drop at_)) := by
  rw [h.2, all_err (by rw [List.length_drop]; omega) he]
  simp only [run, if_pos he]
theorem So.bad {b : List UInt8} {s : St} {at_ tO : Nat} (h : So b s at_ tO) (he : takeErr (b.drop at_) = 0) {q : St × Bool × Nat} (hq : take s (takeRec (b.drop at_)) = q) (h2 : q.2.2 ≠ 0) : scan b = (s.1, tO, q.2.2) := by
  subst hq
  rw [h.2, all_ok he]
  simp only [run, if_pos h2]
theorem So.next {b : List UInt8} {s : St} {at_ tO : Nat} (h : So b s at_ tO) (he : takeErr (b.drop at_) = 0) {q : St × Bool × Nat} (hq : take s (takeRec (b.drop at_)) = q) (h2 : q.2.2 = 0) :
    So b q.1 (at_ + takeEnd (b.drop at_)) (if q.2.1 then at_ + takeEnd (b.drop at_) else tO) := by
  subst hq
  have hl := (takeEnd_le he).2.1
  rw [List.length_drop] at hl
  refine ⟨by have := h.1; have : 9 ≤ takeEnd (b.drop at_) := by unfold takeEnd; omega
             omega, ?_⟩
  rw [h.2, all_ok he]
  simp only [run]
  rw [if_neg (by rw [h2]; simp), List.drop_drop, ← takeEnd_rec he]
theorem So.full {b : List UInt8} {s : St} {at_ tO : Nat} (h : So b s at_ tO) (hl : ¬ at_ < b.length) : scan b = (s.1, tO, if 0 < s.2.length then 32 else 0) := by
  have : at_ = b.length := by have := h.1; omega
  subst this
  rw [h.2, List.drop_length, all_nil]
  simp [run]
/-- How many rows may be kept. -/
theorem take_kept {s : St} {r : R} (h : s.2.length ≤ 1024) : (take s r).1.2.length ≤ 1024 := by
  unfold take
  split
  · split
    · exact h
    · simp; omega
  · split
    · exact h
    · simp
theorem take_bound {s : St} {r : R} {n : Nat} (h : s.1.length ≤ n) : (take s r).1.1.length ≤ n + 1 := by
  unfold take
  split
  · split
    · dsimp only; omega
    · dsimp only; omega
  · split
    · dsimp only; omega
    · simp; omega
end Go.Proofs.Ytmkijkkddoamgaa.Bat

namespace Go.Proofs.Ytmkijkkddoamgaa.BatW
set_option linter.unusedVariables false
open Go.RowKit Go.Proofs Go.Proofs.Ytmkijkkddoamgaa Go.Proofs.Ytmkijkkddoamgaa.Wd Go.Proofs.Ytmkijkkddoamgaa.RecW
open Go.Proofs.Ytmkijkkddoamgaa.Rec (R)
open Go.Proofs.Ytmkijkkddoamgaa.Bat (B)

/-- A value that reads as bytes. -/
def SB (w : World) (k : Nat) (v : Value) (d : List UInt8) : Prop := ∃ A c, v = .slice A d.length c ∧ d.length ≤ c ∧ c ≤ maxLen ∧ Bytes w k A d
/-- Rows of bytes. -/
def BRows (w : World) (k : Nat) (A : Option Addr) (ls : B) : Prop :=
  ∀ j (h : j < ls.length), ∃ b off v, A = some ⟨b, off, none⟩ ∧ b < k ∧ w.cell? ⟨b, off + j, none⟩ = some v ∧ SB w k v ls[j]
/-- A value that reads as rows. -/
def SR (w : World) (k : Nat) (v : Value) (ls : B) : Prop := ∃ A c, v = .slice A ls.length c ∧ ls.length ≤ c ∧ c ≤ maxLen ∧ BRows w k A ls
/-- Rows of rows. -/
def BRows3 (w : World) (k : Nat) (A : Option Addr) (ls : List B) : Prop :=
  ∀ j (h : j < ls.length), ∃ b off v, A = some ⟨b, off, none⟩ ∧ b < k ∧ w.cell? ⟨b, off + j, none⟩ = some v ∧ SR w k v ls[j]
section
variable {w w' : World} {k k' : Nat} {v : Value} {A : Option Addr} {d : List UInt8} {ls : B} {ll : List B}
theorem SB.below (h : SB w k v d) (hb : Below k w w') : SB w' k v d := by obtain ⟨A, c, e, h1, h2, h3⟩ := h; exact ⟨A, c, e, h1, h2, Row.below h3 hb⟩
theorem SB.more (h : SB w k v d) (hk : k ≤ k') : SB w k' v d := by obtain ⟨A, c, e, h1, h2, h3⟩ := h; exact ⟨A, c, e, h1, h2, Row.more h3 hk⟩
theorem SB.one (h : SB w k v d) : v.oneCell' = true := by obtain ⟨A, c, rfl, _⟩ := h; rfl
theorem BRows.below (h : BRows w k A ls) (hb : Below k w w') : BRows w' k A ls := fun j hj => by
  obtain ⟨b, off, v, e, hb1, hc, hv⟩ := h j hj
  exact ⟨b, off, v, e, hb1, (hb.cell (p := ⟨b, _, none⟩) hb1).trans hc, hv.below hb⟩
theorem BRows.more (h : BRows w k A ls) (hk : k ≤ k') : BRows w k' A ls := fun j hj => by
  obtain ⟨b, off, v, e, hb1, hc, hv⟩ := h j hj
  exact ⟨b, off, v, e, by omega, hc, hv.more hk⟩
theorem BRows.grow (h : BRows w w.heap.size A ls) (hb : Below w.heap.size w w') : BRows w' w'.heap.size A ls := (h.below hb).more hb.size
theorem BRows.nil : BRows w k A [] := fun j hj => absurd hj (Nat.not_lt_zero _)
theorem BRows.take (h : BRows w k A ls) (m : Nat) : BRows w k A (ls.take m) := fun j hj => by
  have hj' : j < ls.length := by simp at hj; omega
  obtain ⟨b, off, v, e, hb1, hc, hv⟩ := h j hj'
  exact ⟨b, off, v, e, hb1, hc, by rw [List.getElem_take]; exact hv⟩
theorem SR.below (h : SR w k v ls) (hb : Below k w w') : SR w' k v ls := by obtain ⟨A, c, e, h1, h2, h3⟩ := h; exact ⟨A, c, e, h1, h2, h3.below hb⟩
theorem SR.more (h : SR w k v ls) (hk : k ≤ k') : SR w k' v ls := by obtain ⟨A, c, e, h1, h2, h3⟩ := h; exact ⟨A, c, e, h1, h2, h3.more hk⟩
theorem SR.one (h : SR w k v ls) : v.oneCell' = true := by obtain ⟨A, c, rfl, _⟩ := h; rfl
theorem BRows3.below (h : BRows3 w k A ll) (hb : Below k w w') : BRows3 w' k A ll := fun j hj => by
  obtain ⟨b, off, v, e, hb1, hc, hv⟩ := h j hj
  exact ⟨b, off, v, e, hb1, (hb.cell (p := ⟨b, _, none⟩) hb1).trans hc, hv.below hb⟩
theorem BRows3.more (h : BRows3 w k A ll) (hk : k ≤ k') : BRows3 w k' A ll := fun j hj => by
  obtain ⟨b, off, v, e, hb1, hc, hv⟩ := h j hj
  exact ⟨b, off, v, e, by omega, hc, hv.more hk⟩
theorem BRows3.grow (h : BRows3 w w.heap.size A ll) (hb : Below w.heap.size w w') : BRows3 w' w'.heap.size A ll := (h.below hb).more hb.size
theorem BRows3.nil : BRows3 w k A [] := fun j hj => absurd hj (Nat.not_lt_zero _)
theorem BRows3.take (h : BRows3 w k A ll) (m : Nat) : BRows3 w k A (ll.take m) := fun j hj => by
  have hj' : j < ll.length := by simp at hj; omega
  obtain ⟨b, off, v, e, hb1, hc, hv⟩ := h j hj'
  exact ⟨b, off, v, e, hb1, hc, by rw [List.getElem_take]; exact hv⟩
theorem BRows.lt (h : BRows w k A ls) {m : Nat} (hm : m < ls.length) : ∃ b off v A' c, A = some ⟨b, off, none⟩ ∧ b < k ∧ w.cell? ⟨b, off + m, none⟩ = some v ∧ v = .slice A' ls[m].length c ∧ ls[m].length ≤ c ∧ c ≤ maxLen ∧ Bytes w k A' ls[m] := by
  obtain ⟨b, off, v, e, hb1, hc, A', c, h1, h2, h3, h4⟩ := h m hm
  exact ⟨b, off, v, A', c, e, hb1, hc, h1, h2, h3, h4⟩
/-- A row of values that all read as bytes. -/
def Reads (w : World) (k : Nat) (xs : List Value) (ls : B) : Prop := xs.length = ls.length ∧ ∀ j (h : j < ls.length), ∃ v, xs[j]? = some v ∧ SB w k v ls[j]
theorem BRows.of_row {xs : List Value} (hr : Row w k A xs) (h : Reads w k xs ls) : BRows w k A ls := fun j hj => by
  obtain ⟨v, h1, h2⟩ := h.2 j hj
  have hl := h.1
  obtain ⟨b, off, e, hb, hc⟩ := hr j (by omega)
  refine ⟨b, off, v, e, hb, ?_, h2⟩
  rw [hc, ← h1, List.getElem?_eq_getElem]
theorem BRows.reads (h : BRows w k A ls) : ∃ xs, Row w k A xs ∧ Reads w k xs ls ∧ ∀ u ∈ xs, u.oneCell' = true := by
  have ex : ∀ j, ∃ v, (hj : j < ls.length) → (∃ b off, A = some ⟨b, off, none⟩ ∧ b < k ∧ w.cell? ⟨b, off + j, none⟩ = some v) ∧ SB w k v ls[j] := fun j => by
    by_cases hj : j < ls.length
    · obtain ⟨b, off, v, e, hb1, hc, hv⟩ := h j hj
      exact ⟨v, fun _ => ⟨⟨b, off, e, hb1, hc⟩, hv⟩⟩
    · exact ⟨undef, fun h => absurd h hj⟩
  refine ⟨(List.range ls.length).map fun j => (ex j).choose, fun j hj => ?_, ⟨by simp, fun j hj => ?_⟩, fun u hu => ?_⟩
  · have hj' : j < ls.length := by simpa using hj
    obtain ⟨⟨b, off, e, hb, hc⟩, _⟩ := (ex j).choose_spec hj'
    exact ⟨b, off, e, hb, by simpa using hc⟩
  · exact ⟨(ex j).choose, by simp [hj], ((ex j).choose_spec hj).2⟩
  · obtain ⟨j, hj, rfl⟩ := List.mem_map.1 hu
    exact ((ex j).choose_spec (List.mem_range.1 hj)).2.one
theorem Reads.nil : Reads w k [] [] := ⟨rfl, fun j hj => absurd hj (Nat.not_lt_zero _)⟩
theorem Reads.append {xs ys : List Value} {l m : B} (h : Reads w k xs l) (h' : Reads w k ys m) : Reads w k (xs ++ ys) (l ++ m) := by
  have hl := h.1
  have hm := h'.1
  refine ⟨by simp [hl, hm], fun j hj => ?_⟩
  by_cases hlt : j < l.length
  · obtain ⟨v, h1, h2⟩ := h.2 j hlt
    exact ⟨v, by rw [List.getElem?_append_left (by omega)]; exact h1, by rw [List.getElem_append_left hlt]; exact h2⟩
  · obtain ⟨v, h1, h2⟩ := h'.2 (j - l.length) (by simp at hj; omega)
    exact ⟨v, by rw [List.getElem?_append_right (by omega), hl]; exact h1, by rw [List.getElem_append_right (by omega)]; exact h2⟩
theorem Reads.one {d : List UInt8} (h : SB w k v d) : Reads w k [v] [d] := ⟨rfl, fun j hj => by
  have : j = 0 := by simpa using hj
  subst this
  exact ⟨v, rfl, h⟩⟩
theorem Reads.below {xs : List Value} (h : Reads w k xs ls) (hb : Below k w w') : Reads w' k xs ls := ⟨h.1, fun j hj => by obtain ⟨v, h1, h2⟩ := h.2 j hj; exact ⟨v, h1, h2.below hb⟩⟩
theorem Reads.more {xs : List Value} (h : Reads w k xs ls) (hk : k ≤ k') : Reads w k' xs ls := ⟨h.1, fun j hj => by obtain ⟨v, h1, h2⟩ := h.2 j hj; exact ⟨v, h1, h2.more hk⟩⟩
/-- A row of values that all read as rows. -/
def Reads3 (w : World) (k : Nat) (xs : List Value) (ll : List B) : Prop := xs.length = ll.length ∧ ∀ j (h : j < ll.length), ∃ v, xs[j]? = some v ∧ SR w k v ll[j]
theorem BRows3.of_row {xs : List Value} (hr : Row w k A xs) (h : Reads3 w k xs ll) : BRows3 w k A ll := fun j hj => by
  obtain ⟨v, h1, h2⟩ := h.2 j hj
  have hl := h.1
  obtain ⟨b, off, e, hb, hc⟩ := hr j (by omega)
  refine ⟨b, off, v, e, hb, ?_, h2⟩
  rw [hc, ← h1, List.getElem?_eq_getElem]
theorem BRows3.reads (h : BRows3 w k A ll) : ∃ xs, Row w k A xs ∧ Reads3 w k xs ll ∧ ∀ u ∈ xs, u.oneCell' = true := by
  have ex : ∀ j, ∃ v, (hj : j < ll.length) → (∃ b off, A = some ⟨b, off, none⟩ ∧ b < k ∧ w.cell? ⟨b, off + j, none⟩ = some v) ∧ SR w k v ll[j] := fun j => by
    by_cases hj : j < ll.length
    · obtain ⟨b, off, v, e, hb1, hc, hv⟩ := h j hj
      exact ⟨v, fun _ => ⟨⟨b, off, e, hb1, hc⟩, hv⟩⟩
    · exact ⟨undef, fun h => absurd h hj⟩
  refine ⟨(List.range ll.length).map fun j => (ex j).choose, fun j hj => ?_, ⟨by simp, fun j hj => ?_⟩, fun u hu => ?_⟩
  · have hj' : j < ll.length := by simpa using hj
    obtain ⟨⟨b, off, e, hb, hc⟩, _⟩ := (ex j).choose_spec hj'
    exact ⟨b, off, e, hb, by simpa using hc⟩
  · exact ⟨(ex j).choose, by simp [hj], ((ex j).choose_spec hj).2⟩
  · obtain ⟨j, hj, rfl⟩ := List.mem_map.1 hu
    exact ((ex j).choose_spec (List.mem_range.1 hj)).2.one
theorem Reads3.append {xs ys : List Value} {l m : List B} (h : Reads3 w k xs l) (h' : Reads3 w k ys m) : Reads3 w k (xs ++ ys) (l ++ m) := by
  have hl := h.1
  have hm := h'.1
  refine ⟨by simp [hl, hm], fun j hj => ?_⟩
  by_cases hlt : j < l.length
  · obtain ⟨v, h1, h2⟩ := h.2 j hlt
    exact ⟨v, by rw [List.getElem?_append_left (by omega)]; exact h1, by rw [List.getElem_append_left hlt]; exact h2⟩
  · obtain ⟨v, h1, h2⟩ := h'.2 (j - l.length) (by simp at hj; omega)
    exact ⟨v, by rw [List.getElem?_append_right (by omega), hl]; exact h1, by rw [List.getElem_append_right (by omega)]; exact h2⟩
theorem Reads3.one {d : B} (h : SR w k v d) : Reads3 w k [v] [d] := ⟨rfl, fun j hj => by
  have : j = 0 := by simpa using hj
  subst this
  exact ⟨v, rfl, h⟩⟩
theorem Reads3.nil : Reads3 w k [] [] := ⟨rfl, fun j hj => absurd hj (Nat.not_lt_zero _)⟩
theorem Reads3.below {xs : List Value} (h : Reads3 w k xs ll) (hb : Below k w w') : Reads3 w' k xs ll := ⟨h.1, fun j hj => by obtain ⟨v, h1, h2⟩ := h.2 j hj; exact ⟨v, h1, h2.below hb⟩⟩
theorem Reads3.more {xs : List Value} (h : Reads3 w k xs ll) (hk : k ≤ k') : Reads3 w k' xs ll := ⟨h.1, fun j hj => by obtain ⟨v, h1, h2⟩ := h.2 j hj; exact ⟨v, h1, h2.more hk⟩⟩
end
theorem SB.of_own {w : World} {base : Nat} {e : TypeId} {v : Value} {n : Nat} {d : List UInt8} (h : w.ownsRow base e 1 v n (bs d)) : SB w w.heap.size v d := by
  obtain ⟨A, c, rfl, hc, rfl, hb⟩ := own_bytes h
  have : c ≤ maxLen := by
    rcases h.2 with ⟨h, _⟩ | ⟨g, cap, cur, h, _, _, _, h8, _⟩
    · simp only [Value.slice.injEq] at h; have := h.2.2; subst this; simp [maxLen]
    · simp only [Value.slice.injEq] at h; have := h.2.2; omega
  exact ⟨A, c, rfl, hc, this, hb⟩

theorem own_oneT {w : World} {base : Nat} {e : TypeId} {size n : Nat} {v : Value} {xs : List Value} (h : w.ownsRow base e size v n xs) : v.oneCell' = true := by
  rcases h.2 with ⟨rfl, _⟩ | ⟨g', cap, cur, rfl, hb, _⟩ <;> rfl
theorem own_belowT {B : Nat} {e : TypeId} {k : Nat} {v : Value} {n : Nat} {xs : List Value} {w w' : World} (h : w.ownsRow B e k v n xs) (hb : Below w.heap.size w w') : w'.ownsRow B e k v n xs := by
  obtain ⟨h1, h2⟩ := h
  refine ⟨h1, ?_⟩
  rcases h2 with h2 | ⟨g, cap, cur, hv, hg, hh, r⟩
  · exact .inl h2
  · exact .inr ⟨g, cap, cur, hv, hg, (hb.block g (Array.getElem?_eq_some_iff.1 hh).1).trans hh, r⟩
/-- Blocks of a type, that nothing froze, but for one, lie as they lay. -/
def KeepT (t : TypeId) (row : Option Nat) (w w' : World) : Prop := ∀ (g : Nat) (cs : Array Value), some g ≠ row → w.heap[g]? = some (.cells cs t (0, 0)) → w'.heap[g]? = some (.cells cs t (0, 0))
section
variable {t : TypeId} {row : Option Nat} {w w' w'' : World}
theorem KeepT.refl (t : TypeId) (row : Option Nat) (w : World) : KeepT t row w w := fun _ _ _ h => h
theorem KeepT.trans (h : KeepT t row w w') (h' : KeepT t row w' w'') : KeepT t row w w'' := fun g cs hg h1 => h' g cs hg (h g cs hg h1)
theorem KeepT.below (h : Below w.heap.size w w') : KeepT t row w w' := fun g _ _ hg => (h.block g (Array.getElem?_eq_some_iff.1 hg).1).trans hg
theorem KeepT.alloc (w : World) (o : Obj) : KeepT t row w (w.alloc o) := fun g _ _ hg => (Below.heap_alloc w o g (Array.getElem?_eq_some_iff.1 hg).1).trans hg
theorem KeepT.set_ {g : Nat} {t' : TypeId} {cs : Array Value} (h : Blk w g t' cs) (ht : t' ≠ t) (i : Nat) (u : Value) : KeepT t row w (w.setCell ⟨g, i, none⟩ u) := fun k cs' _ hk => by
  have hne : k ≠ g := fun e => by subst e; exact Blk.ne_ h (cs' := cs') hk ht rfl
  exact (heap_setCell_other w _ k u hne).trans hk
theorem KeepT.grown (h : w.grownBy w' row) : KeepT t row w w' := fun k cs' hr hk => (h.block k (Array.getElem?_eq_some_iff.1 hk).1 hr).trans hk
theorem KeepT.grownOther {row' : Option Nat} (h : w.grownBy w' row) (hr : ∀ g, row = some g → ∃ t' cs, Blk w g t' cs ∧ t' ≠ t) : KeepT t row' w w' := fun k cs' _ hk => by
  refine (h.block k (Array.getElem?_eq_some_iff.1 hk).1 (fun e => ?_)).trans hk
  obtain ⟨t', cs, hg, ht⟩ := hr k e.symm
  exact Blk.ne_ (t := t') (t' := t) hg hk ht rfl
theorem own_T {B n : Nat} {v : Value} {xs : List Value} (h : w.ownsRow B t 1 v n xs) (hk : KeepT t row w w') (hr : ∀ g, v.ownBlock = some g → some g ≠ row) : w'.ownsRow B t 1 v n xs := by
  obtain ⟨h1, h2⟩ := h
  refine ⟨h1, ?_⟩
  rcases h2 with h2 | ⟨g, cap, cur, hv, hg, hh, r⟩
  · exact .inl h2
  · exact .inr ⟨g, cap, cur, hv, hg, hk g cur (hr g (by subst hv; rfl)) hh, r⟩
end
/-- A row of slices of bytes of the call's own. -/
def RowsAt (w : World) (k : Nat) (xs : List Value) (ls : B) : Prop := xs.length = ls.length ∧ ∀ j (h : j < ls.length), ∃ v, xs[j]? = some v ∧ w.ownsRow k 5 1 v ls[j].length (bs ls[j])
def Kept (w : World) (k : Nat) (v : Value) (ls : B) : Prop := ∃ xs, w.ownsRow k 23 1 v ls.length xs ∧ RowsAt w k xs ls
def Outs (w : World) (k : Nat) (v : Value) (ll : List B) (u : Value) : Prop :=
  ∃ xs, w.ownsRow k 30 1 v ll.length xs ∧ ∀ j (h : j < ll.length), ∃ v, xs[j]? = some v ∧ Kept w k v ll[j] ∧ ∀ g, v.ownBlock = some g → u.ownBlock ≠ some g
section
variable {w w' : World} {k : Nat} {v u : Value} {xs : List Value} {ls : B} {ll : List B}
theorem RowsAt.nil (w : World) (k : Nat) : RowsAt w k [] [] := ⟨rfl, fun j hj => absurd hj (Nat.not_lt_zero _)⟩
theorem RowsAt.keep (h : RowsAt w k xs ls) (hk : KeepT 5 none w w') : RowsAt w' k xs ls :=
  ⟨h.1, fun j hj => by obtain ⟨v, h1, h2⟩ := h.2 j hj; exact ⟨v, h1, own_T h2 hk (fun g _ => by simp)⟩⟩
theorem RowsAt.snoc {d : List UInt8} (h : RowsAt w k xs ls) (hv : w.ownsRow k 5 1 v d.length (bs d)) : RowsAt w k (xs ++ [v]) (ls ++ [d]) := by
  have hl := h.1
  refine ⟨by simp [hl], fun j hj => ?_⟩
  by_cases hlt : j < ls.length
  · obtain ⟨v, h1, h2⟩ := h.2 j hlt
    exact ⟨v, by rw [List.getElem?_append_left (by omega)]; exact h1, by rw [List.getElem_append_left hlt]; exact h2⟩
  · have : j = ls.length := by simp at hj; omega
    subst this
    exact ⟨v, by rw [List.getElem?_append_right (by omega), hl]; simp, by simpa using hv⟩
theorem Kept.nil (w : World) (k : Nat) : Kept w k (.slice none 0 0) [] := ⟨[], own_nil _ _ _, RowsAt.nil _ _⟩
theorem Kept.keep (h : Kept w k v ls) {row : Option Nat} (h1 : KeepT 5 none w w') (h2 : KeepT 23 row w w') (hr : ∀ g, v.ownBlock = some g → some g ≠ row) : Kept w' k v ls := by
  obtain ⟨xs, ho, hx⟩ := h
  exact ⟨xs, own_T ho h2 hr, hx.keep h1⟩
theorem Kept.below (h : Kept w k v ls) (hb : Below w.heap.size w w') : Kept w' k v ls := h.keep (row := none) (KeepT.below hb) (KeepT.below hb) (fun _ _ => by simp)
theorem Kept.reads (h : Kept w k v ls) : SR w w.heap.size v ls := by
  obtain ⟨xs, ho, hx⟩ := h
  obtain ⟨A, c, rfl, hr⟩ := own_slice ho
  have hc : ls.length ≤ c ∧ c ≤ maxLen := by
    rcases ho.2 with ⟨h, h0⟩ | ⟨g, cap, cur, h, _, _, h7, h8, _⟩
    · simp only [Value.slice.injEq] at h; have := h.2; have := this.2; subst this; simp [maxLen]; have := h.2.1; exact List.eq_nil_of_length_eq_zero this
    · simp only [Value.slice.injEq] at h; have := h.2.2; omega
  exact ⟨A, c, rfl, hc.1, hc.2, BRows.of_row hr ⟨hx.1, fun j hj => by obtain ⟨v, h1, h2⟩ := hx.2 j hj; exact ⟨v, h1, SB.of_own h2⟩⟩⟩
theorem Outs.nil (w : World) (k : Nat) (u : Value) : Outs w k (.slice none 0 0) [] u := ⟨[], own_nil _ _ _, fun j hj => absurd hj (Nat.not_lt_zero _)⟩
theorem Outs.keep (h : Outs w k v ll u) (h1 : KeepT 5 none w w') (h2 : KeepT 23 u.ownBlock w w') (h3 : KeepT 30 none w w') : Outs w' k v ll u := by
  obtain ⟨xs, ho, hx⟩ := h
  exact ⟨xs, own_T ho h3 (fun _ _ => by simp), fun j hj => by obtain ⟨v, e, hv, hu⟩ := hx j hj; exact ⟨v, e, hv.keep h1 h2 (fun g hg e => hu g hg e.symm), hu⟩⟩
theorem Outs.below (h : Outs w k v ll u) (hb : Below w.heap.size w w') : Outs w' k v ll u := h.keep (KeepT.below hb) (KeepT.below hb) (KeepT.below hb)
/-- What is kept is another block. -/
theorem Kept.lt (h : Kept w k v ls) {g : Nat} (hg : v.ownBlock = some g) : k ≤ g ∧ ∃ cs, Blk w g 23 cs := by obtain ⟨xs, ho, _⟩ := h; exact own_row ho hg
theorem Outs.lt (h : Outs w k v ll u) {g : Nat} (hg : v.ownBlock = some g) : k ≤ g ∧ ∃ cs, Blk w g 30 cs := by obtain ⟨xs, ho, _⟩ := h; exact own_row ho hg
theorem Outs.turn (h : Outs w k v ll u) {u' : Value} (hu : u'.ownBlock = u.ownBlock ∨ u'.ownBlock = none ∨ ∃ g, u'.ownBlock = some g ∧ w.heap.size ≤ g) : Outs w k v ll u' := by
  obtain ⟨xs, ho, hx⟩ := h
  refine ⟨xs, ho, fun j hj => ?_⟩
  obtain ⟨v, e, hv, h1⟩ := hx j hj
  refine ⟨v, e, hv, fun g hg => ?_⟩
  rcases hu with h2 | h2 | ⟨g', h2, h3⟩
  · rw [h2]; exact h1 g hg
  · rw [h2]; simp
  · rw [h2]; intro e
    obtain ⟨_, cs, hb⟩ := hv.lt hg
    have := hb.lt
    injection e with e; omega
theorem Outs.grow (h : Outs w k v ll u) (h1 : KeepT 5 none w w') (h2 : KeepT 23 u.ownBlock w w') (h3 : KeepT 30 none w w') {u' : Value} (hu : u'.ownBlock = u.ownBlock ∨ u'.ownBlock = none ∨ ∃ g, u'.ownBlock = some g ∧ w.heap.size ≤ g) : Outs w' k v ll u' := by
  obtain ⟨ys, hy, hyx⟩ := h
  refine ⟨ys, own_T hy h3 (fun _ _ => by simp), fun j hj => ?_⟩
  obtain ⟨v, e, hv, hne⟩ := hyx j hj
  refine ⟨v, e, hv.keep h1 h2 (fun g hg e => hne g hg e.symm), fun g hg => ?_⟩
  rcases hu with h4 | h4 | ⟨g', h4, h5⟩
  · rw [h4]; exact hne g hg
  · rw [h4]; simp
  · rw [h4]; intro e
    obtain ⟨_, cs, hb⟩ := hv.lt hg
    have := hb.lt
    injection e with e; omega
theorem Outs.out (h : Outs w k v ll u) : ∃ A c, v = .slice A ll.length c ∧ ll.length ≤ c ∧ c ≤ maxLen ∧ BRows3 w w.heap.size A ll := by
  obtain ⟨xs, ho, hx⟩ := h
  have hl := ho.1
  rw [Nat.mul_one] at hl
  obtain ⟨A, c, rfl, hr⟩ := own_slice ho
  have hc : ll.length ≤ c ∧ c ≤ maxLen := by
    rcases ho.2 with ⟨h, h0⟩ | ⟨g, cap, cur, h, _, _, h7, h8, _⟩
    · simp only [Value.slice.injEq] at h; have := h.2; have := this.2; subst this; simp [maxLen]; have := h.2.1; exact List.eq_nil_of_length_eq_zero this
    · simp only [Value.slice.injEq] at h; have := h.2.2; omega
  exact ⟨A, c, rfl, hc.1, hc.2, BRows3.of_row hr ⟨hl, fun j hj => by obtain ⟨v, h1, h2, _⟩ := hx j hj; exact ⟨v, h1, h2.reads⟩⟩⟩
end
end Go.Proofs.Ytmkijkkddoamgaa.BatW

namespace Go.Proofs.Ytmkijkkddoamgaa.BatW
set_option linter.unusedVariables false
open Go.RowKit Go.Proofs Go.Proofs.Ytmkijkkddoamgaa Go.Proofs.Ytmkijkkddoamgaa.Wd Go.Proofs.Ytmkijkkddoamgaa.RecW
open Go.Proofs.Ytmkijkkddoamgaa.Rec (R flat flat_append flat_one allFine allFine_get putErr)
open Go.Proofs.Ytmkijkkddoamgaa.Bat (B cnt long wrong recs put rowsLong longB)

theorem wrong1_any (d : List UInt8) (A : Option Addr) (n c : Nat) (hn : n = d.length) (w : World) :
    Calls Try.prog 59 #[.slice A n c] w fun e w' => e = .returned (.bool (long d)) ∧ w = w' := by
  subst hn
  have h : (decide ((4096 : Int) < (d.length : Int))) = long d := by unfold long; rw [Bool.eq_iff_iff]; simp only [decide_eq_true_eq]; omega
  go_enter Try.func59, Try.ntmps59
  go_wp2
  go_ret
  exact ⟨by rw [← h]; rfl, rfl⟩
/-- Where the first long one is, or a number below 0. -/
def Idx (b : B) (w : World) (e : Ending) (w' : World) : Prop := ∃ z : Int, e = .returned (.int .i64 z) ∧ w = w' ∧ decide (0 ≤ z) = b.any long
theorem any_take {b : B} {k : Nat} (h : k < b.length) (ht : (b.take k).any long = false) (hk : long b[k] = false) : (b.take (k + 1)).any long = false := by
  rw [List.take_succ_eq_append_getElem h, List.any_append, ht]; simp [hk]
theorem any_get {b : B} {k : Nat} (h : k < b.length) (hk : long b[k] = true) : b.any long = true := List.any_eq_true.2 ⟨b[k], List.getElem_mem h, hk⟩
theorem index_any (A : Option Addr) (n c : Nat) (b : B) (hn : n = b.length) (hnc : n ≤ maxLen) (w : World) (hI : BRows w w.heap.size A b) :
    Calls Try.prog 73 #[.slice A n c, .func (.func 59) #[] #[]] w (Idx b w) := by
  unfold maxLen at hnc
  have HN := Lib.hid hn
  clear hn
  go_enter Try.func73, Try.ntmps73
  go_wp2
  go_loop [8] (fun i => ∃ k : Nat, k ≤ n ∧ i = .int .i64 k ∧ Hid ((b.take k).any long = false)) (fun i => n - (intOf i).toNat)
  case atStart => exact ⟨0, Nat.zero_le _, rfl, Lib.hid rfl⟩
  case round =>
    obtain ⟨k, hk, rfl, hT⟩ := hrel
    by_cases hlt : k < n
    · have hkl : k < b.length := by have := HN.out; omega
      obtain ⟨bb, off, v, A', c', rfl, hb1, hc, rfl, h1, h2, h3⟩ := hI.lt hkl
      have i1 : (0 : Int) ≤ (k : Int) := by omega
      have i2 : (k : Int) < (n : Int) := by omega
      have HE1 := Lib.hid (any_take hkl hT.out)
      have HE2 := Lib.hid (any_get hkl)
      generalize b[k] = d at *
      clear h1 h2 h3 hT
      go_wp2_with fail
      refine Calls.mono (wrong1_any d _ _ _ rfl _) ?_
      rintro e w' ⟨rfl, rfl⟩
      cases hl : long d
      · have HT := Lib.hid (HE1.out hl)
        clear HE1 HE2 hl
        go_wp2_with fail
        go_round
        case rel => exact ⟨k + 1, by omega, by go_num, HT⟩
        case measure => simp [intOf]; omega
      · have HT := Lib.hid (HE2.out hl)
        clear HE1 HE2 hl
        go_wp2_with fail
        go_ret
        exact ⟨_, rfl, rfl, by rw [HT.out]; simp⟩
    · have HT : Hid (b.any long = false) := Lib.hid (by have := hT.out; rwa [List.take_of_length_le (by have := HN.out; omega)] at this)
      clear hT
      go_wp2_with fail
      go_ret
      exact ⟨_, rfl, rfl, by rw [HT.out]; simp⟩
theorem contains_any (A : Option Addr) (n c : Nat) (b : B) (hn : n = b.length) (hnc : n ≤ maxLen) (w : World) (hI : BRows w w.heap.size A b) :
    Calls Try.prog 60 #[.slice A n c, .func (.func 59) #[] #[]] w fun e w' => e = .returned (.bool (b.any long)) ∧ w = w' := by
  have HC := Lib.hid (index_any A n c b hn hnc w hI)
  clear hn
  go_enter Try.func60, Try.ntmps60
  go_wp2_with fail
  refine Calls.mono HC.out ?_
  rintro e w' ⟨z, rfl, rfl, hz⟩
  have HZ := Lib.hid hz
  clear hz
  go_wp2_with fail
  go_ret
  exact ⟨by rw [← HZ.out]; rfl, rfl⟩
theorem wrong_any (A : Option Addr) (n c : Nat) (b : B) (hn : n = b.length) (hnc : n ≤ maxLen) (w : World) (hI : BRows w w.heap.size A b) :
    Calls Try.prog 36 #[.slice A n c] w fun e w' => e = .returned (.int .i64 (wrong b : Nat)) ∧ w = w' := by
  have HC := Lib.hid (contains_any A n c b hn hnc w hI)
  by_cases h0 : n = 0
  · have HW := Lib.hid (show wrong b = 34 by unfold wrong; rw [if_pos (by omega)])
    have u1 : (n : Int) = 0 := by omega
    clear hn h0 hI HC
    go_enter Try.func36, Try.ntmps36
    go_wp2_with fail
    go_ret
    exact ⟨by rw [HW.out]; rfl, rfl⟩
  by_cases h1 : 1024 < n
  · have HW := Lib.hid (show wrong b = 34 by unfold wrong; rw [if_pos (by omega)])
    have u1 : ¬ (n : Int) = 0 := by omega
    have u2 : (1024 : Int) < (n : Int) := by omega
    clear hn h0 hI HC
    go_enter Try.func36, Try.ntmps36
    go_wp2_with fail
    go_ret
    exact ⟨by rw [HW.out]; rfl, rfl⟩
  have u1 : ¬ (n : Int) = 0 := by omega
  have u2 : ¬ (1024 : Int) < (n : Int) := by omega
  cases ha : b.any long
  · have HW := Lib.hid (show wrong b = 0 by unfold wrong; rw [if_neg (by omega), ha]; rfl)
    rw [ha] at HC
    clear hn h0 hI ha
    go_enter Try.func36, Try.ntmps36
    go_wp2_with fail
    refine Calls.mono HC.out ?_
    rintro e w' ⟨rfl, rfl⟩
    go_wp2_with fail
    go_ret
    exact ⟨by rw [HW.out]; rfl, rfl⟩
  · have HW := Lib.hid (show wrong b = 31 by unfold wrong; rw [if_neg (by omega), ha]; rfl)
    rw [ha] at HC
    clear hn h0 hI ha
    go_enter Try.func36, Try.ntmps36
    go_wp2_with fail
    refine Calls.mono HC.out ?_
    rintro e w' ⟨rfl, rfl⟩
    go_wp2_with fail
    go_ret
    exact ⟨by rw [HW.out]; rfl, rfl⟩

/-- Two bytes of a number. -/
theorem cnts (n : Nat) (hn : n < 65536) : bs (cnt n) = [.int .u8 ((n : Int) % 256), .int .u8 ((n : Int) / 256)] := by
  simp only [bs, cnt, List.map_cons, List.map_nil, UInt8.toNat_ofNat', List.cons.injEq, Value.int.injEq, true_and, and_true]
  omega
theorem count_any (n : Nat) (hn : n < 65536) (w : World) :
    Calls Try.prog 38 #[.int .i64 n] w fun e w' => e = .returned (.slice (some ⟨w.heap.size, 0, none⟩) 2 2) ∧ w' = w.alloc (.cells (bs (cnt n)).toArray 5) := by
  have HC := Lib.hid (cnts n hn)
  go_enter Try.func38, Try.ntmps38
  go_wp2
  go_ret
  exact ⟨rfl, by rw [HC.out]⟩
end Go.Proofs.Ytmkijkkddoamgaa.BatW

namespace Go.Proofs.Ytmkijkkddoamgaa.BatW
set_option linter.unusedVariables false
open Go.RowKit Go.Proofs Go.Proofs.Ytmkijkkddoamgaa Go.Proofs.Ytmkijkkddoamgaa.Wd Go.Proofs.Ytmkijkkddoamgaa.RecW
open Go.Proofs.Ytmkijkkddoamgaa.Rec (R)
open Go.Proofs.Ytmkijkkddoamgaa.Bat (B cnt St)

structure TS (w : World) (base gs : Nat) (vo vk : Value) (s : St) : Prop where
  lo : base ≤ gs
  blk : Blk w gs 117 #[vo, vk]
  kept : Kept w base vk s.2
  outs : Outs w base vo s.1 vk
section
variable {w w' w2 : World} {base gs : Nat} {vo vk : Value} {s : St}
theorem TS.below (h : TS w base gs vo vk s) (hb : Below w.heap.size w w') : TS w' base gs vo vk s := ⟨h.lo, h.blk.below hb h.blk.lt, h.kept.below hb, h.outs.below hb⟩
theorem row_other {e t : TypeId} {v : Value} {n : Nat} {xs : List Value} (ho : w.ownsRow base e 1 v n xs) (hne : e ≠ t) : ∀ g, v.ownBlock = some g → ∃ t' cs, Blk w g t' cs ∧ t' ≠ t := fun g hg => by
  obtain ⟨_, cs, hc⟩ := own_row ho hg
  exact ⟨_, cs, hc, hne⟩
theorem TS.app (h : TS w base gs vo vk s) {vd : Value} {d : List UInt8} (hd : w.ownsRow base 5 1 vd d.length (bs d)) {n : Nat} {xs : List Value} (ho : w.ownsRow base 23 1 vk n xs) (hx : RowsAt w base xs s.2) (hg : w.grownBy w2 vk.ownBlock)
    {v' : Value} {m : Nat} (hm : m = s.2.length + 1) (hn : w2.ownsRow base 23 1 v' m (xs ++ [vd])) (hv : v'.ownBlock = vk.ownBlock ∨ v'.ownBlock = some w.heap.size) : TS (w2.setCell ⟨gs, 1, none⟩ v') base gs vo v' (s.1, s.2 ++ [d]) ∧ Below base w2 (w2.setCell ⟨gs, 1, none⟩ v') := by
  subst hm
  have hne : ∀ g, vk.ownBlock = some g → g ≠ gs := fun g hg e => by
    obtain ⟨_, cs, hc⟩ := own_row ho hg
    exact Blk.ne_ hc h.blk (by decide) e
  have b2 : Blk w2 gs 117 #[vo, vk] := h.blk.grown hg (fun e => hne gs e.symm rfl)
  have k8 : KeepT 5 none w2 (w2.setCell ⟨gs, 1, none⟩ v') := KeepT.set_ b2 (by decide) _ _
  have kS : ∀ row, KeepT 23 row w2 (w2.setCell ⟨gs, 1, none⟩ v') := fun row => KeepT.set_ b2 (by decide) _ _
  have kSS : KeepT 30 none w2 (w2.setCell ⟨gs, 1, none⟩ v') := KeepT.set_ b2 (by decide) _ _
  have j8 : KeepT 5 none w w2 := KeepT.grownOther hg (row_other ho (by decide))
  have jSS : KeepT 30 none w w2 := KeepT.grownOther hg (row_other ho (by decide))
  have o2 : Outs w2 base vo s.1 vk := h.outs.keep j8 (KeepT.grown hg) jSS
  refine ⟨⟨h.lo, b2.set_ 1 v', ⟨xs ++ [vd], ?_, ?_⟩, ?_⟩, (Below.refl base w2).setCell (p := ⟨gs, 1, none⟩) h.lo v'⟩
  · have := own_T hn (kS none) (fun _ _ => by simp)
    simpa using this
  · exact ((hx.keep j8).snoc (own_T hd j8 (fun _ _ => by simp))).keep k8
  · refine (h.outs.grow j8 (KeepT.grown hg) jSS (u' := v') ?_).keep k8 (kS _) kSS
    rcases hv with e | e
    · exact .inl e
    · exact .inr (.inr ⟨_, e, Nat.le_refl _⟩)
theorem TS.end_ (h : TS w base gs vo vk s) {n : Nat} {xs : List Value} (ho : w.ownsRow base 30 1 vo n xs) (hx : ∀ j (hj : j < s.1.length), ∃ v, xs[j]? = some v ∧ Kept w base v s.1[j] ∧ ∀ g, v.ownBlock = some g → vk.ownBlock ≠ some g) (hxl : xs.length = s.1.length) (hg : w.grownBy w2 vo.ownBlock)
    {v' : Value} {m : Nat} (hm : m = s.1.length + 1) (hn : w2.ownsRow base 30 1 v' m (xs ++ [vk])) :
    TS ((w2.setCell ⟨gs, 0, none⟩ v').setCell ⟨gs, 1, none⟩ (.slice none 0 0)) base gs v' (.slice none 0 0) (s.1 ++ [s.2], []) ∧ Below base w2 ((w2.setCell ⟨gs, 0, none⟩ v').setCell ⟨gs, 1, none⟩ (.slice none 0 0)) := by
  subst hm
  have hne : ∀ g, vo.ownBlock = some g → g ≠ gs := fun g hg e => by
    obtain ⟨_, cs, hc⟩ := own_row ho hg
    exact Blk.ne_ hc h.blk (by decide) e
  have b2 : Blk w2 gs 117 #[vo, vk] := h.blk.grown hg (fun e => hne gs e.symm rfl)
  have b3 := b2.set_ 0 v'
  have j8 : KeepT 5 none w w2 := KeepT.grownOther hg (row_other ho (by decide))
  have jS : KeepT 23 none w w2 := KeepT.grownOther hg (row_other ho (by decide))
  have k8 : KeepT 5 none w2 ((w2.setCell ⟨gs, 0, none⟩ v').setCell ⟨gs, 1, none⟩ (.slice none 0 0)) := (KeepT.set_ b2 (by decide) _ _).trans (KeepT.set_ b3 (by decide) _ _)
  have kS : ∀ row, KeepT 23 row w2 ((w2.setCell ⟨gs, 0, none⟩ v').setCell ⟨gs, 1, none⟩ (.slice none 0 0)) := fun row => (KeepT.set_ b2 (by decide) _ _).trans (KeepT.set_ b3 (by decide) _ _)
  have kSS : KeepT 30 none w2 ((w2.setCell ⟨gs, 0, none⟩ v').setCell ⟨gs, 1, none⟩ (.slice none 0 0)) := (KeepT.set_ b2 (by decide) _ _).trans (KeepT.set_ b3 (by decide) _ _)
  have keep : ∀ {v : Value} {ls : B}, Kept w base v ls → Kept ((w2.setCell ⟨gs, 0, none⟩ v').setCell ⟨gs, 1, none⟩ (.slice none 0 0)) base v ls := fun hv => (hv.keep j8 jS (fun _ _ => by simp)).keep k8 (kS none) (fun _ _ => by simp)
  refine ⟨⟨h.lo, b3.set_ 1 _, Kept.nil _ _, ⟨xs ++ [vk], ?_, fun j hj => ?_⟩⟩, ((Below.refl base w2).setCell (p := ⟨gs, 0, none⟩) h.lo v').setCell (p := ⟨gs, 1, none⟩) h.lo _⟩
  · have := own_T hn kSS (fun _ _ => by simp)
    simpa using this
  · by_cases hlt : j < s.1.length
    · obtain ⟨v, e, hv, _⟩ := hx j hlt
      exact ⟨v, by rw [List.getElem?_append_left (by omega)]; exact e, by rw [List.getElem_append_left hlt]; exact keep hv, fun g hg => by simp [Value.ownBlock]⟩
    · have : j = s.1.length := by simp at hj; omega
      subst this
      exact ⟨vk, by rw [List.getElem?_append_right (by omega), hxl]; simp, by simpa using keep h.kept, fun g hg => by simp [Value.ownBlock]⟩
end
end Go.Proofs.Ytmkijkkddoamgaa.BatW

namespace Go.Proofs.Ytmkijkkddoamgaa.BatW
set_option linter.unusedVariables false
open Go.RowKit Go.Proofs Go.Proofs.Ytmkijkkddoamgaa Go.Proofs.Ytmkijkkddoamgaa.Wd Go.Proofs.Ytmkijkkddoamgaa.RecW
open Go.Proofs.Ytmkijkkddoamgaa.Rec (R)
open Go.Proofs.Ytmkijkkddoamgaa.Bat (B cnt St)

/-- What take answers. -/
def TakeOut (w : World) (base gs : Nat) (s : St) (r : R) (e : Ending) (w' : World) : Prop :=
  e = .returned (.tuple #[.bool (Bat.take s r).2.1, .int .i64 ((Bat.take s r).2.2 : Nat)]) ∧ Below base w w' ∧ ∃ vo vk, TS w' base gs vo vk (Bat.take s r).1
theorem infoSl : (Try.prog.info? 23).map (fun i => (i.zero, i.size, i.bytes)) = some (some (.slice none 0 0), 1, 24) := by kernel_rfl
theorem infoSS : (Try.prog.info? 30).map (fun i => (i.zero, i.size, i.bytes)) = some (some (.slice none 0 0), 1, 24) := by kernel_rfl
theorem out_nil (w : World) (base gs : Nat) (vo vk : Value) (s : St) (r : R) {w' : World} {e : Ending} (h : Bat.take s r = (s, false, 34)) (ht : TS w' base gs vo vk s) (hb : Below base w w') (he : e = .returned (.tuple #[.bool false, .int .i64 34])) : TakeOut w base gs s r e w' := by
  unfold TakeOut
  rw [h]
  exact ⟨he, hb, vo, vk, ht⟩
set_option maxRecDepth 100000 in
set_option maxHeartbeats 4000000 in
theorem take1_any {w : World} {base gs : Nat} {vo vk vd : Value} {s : St} {d : List UInt8} (h : TS w base gs vo vk s) (hd : w.ownsRow base 5 1 vd d.length (bs d)) (hm : s.2.length ≤ 1024) (hbase : base ≤ w.heap.size) :
    Calls Try.prog 68 #[.pointer (some ⟨gs, 0, none⟩), .agg #[.int .u8 1, vd]] w (TakeOut w base gs s (1, d)) := by
  obtain ⟨i0, hi0, hz0, hz1, hz2⟩ := info_parts infoSl
  obtain ⟨Ad, cd, rfl, -, -, -⟩ := own_bytes hd
  have gr := Blk.new_ w 88 #[.int .u8 1, .slice Ad d.length cd] rfl
  have hbw : Below w.heap.size w (w.alloc (.cells #[.int .u8 1, .slice Ad d.length cd] 88)) := (Below.refl _ w).alloc (Nat.le_refl _) _
  have hT := h.below hbw
  have hd1 := own_belowT hd hbw
  have hB : Below base w (w.alloc (.cells #[.int .u8 1, .slice Ad d.length cd] 88)) := hbw.mono hbase
  obtain ⟨m, hmm⟩ : ∃ m, m = s.2.length := ⟨_, rfl⟩
  obtain ⟨xs, hxo, hxr⟩ := hT.kept
  rw [← hmm] at hxo hm
  obtain ⟨Ak, ck, rfl, -⟩ := own_slice hxo
  have f0 := Blk.at_ gr 0 (v := .int .u8 1) rfl
  have HM := Lib.hid hmm
  have HT := Lib.hid hT
  have HX := Lib.hid (And.intro hxo hxr)
  have HD := Lib.hid hd1
  have HB := Lib.hid hB
  have HG := Lib.hid gr
  have f1 := Blk.at_ hT.blk 1 (v := .slice Ak m ck) rfl
  clear h hd hbw hT hd1 hB hmm hxo hxr gr
  go_enter Try.func68, Try.ntmps68
  by_cases h1 : m = 1024
  · have HR := Lib.hid (show Bat.take s (1, d) = (s, false, 34) by unfold Bat.take; rw [if_pos rfl, if_pos (by rw [← HM.out]; exact h1)])
    have u1 : (m : Int) = 1024 := by omega
    clear h1
    go_wp2_with fail
    go_ret2
    exact out_nil _ _ _ _ _ _ _ HR.out HT.out HB.out rfl
  · have HR := Lib.hid (show Bat.take s (1, d) = ((s.1, s.2 ++ [d]), false, 0) by unfold Bat.take; rw [if_pos rfl, if_neg (by rw [← HM.out]; exact h1)])
    have u1 : ¬ (m : Int) = 1024 := by omega
    go_upto_region 4 with fail
    generalize hwq : w.alloc (.cells #[.int .u8 1, .slice Ad d.length cd] 88) = wq at *
    generalize hgr : w.heap.size = gr at *
    have hS : Below wq.heap.size wq wq.drew := (Below.refl _ _).drew
    have HC1 : Hid (∀ W, Below wq.heap.size wq W → W.cell? ⟨gs, 1, none⟩ = some (.slice Ak m ck)) := Lib.hid fun W hW => (hW.cell (p := ⟨gs, 1, none⟩) HT.out.blk.lt).trans f1
    have HC2 : Hid (∀ W, Below wq.heap.size wq W → W.cell? ⟨gr, 1, none⟩ = some (.slice Ad d.length cd)) := Lib.hid fun W hW => (hW.cell (p := ⟨gr, 1, none⟩) HG.out.lt).trans (Blk.at_ HG.out 1 rfl)
    have HC3 : Hid (∀ W, Below wq.heap.size wq W → True) := Lib.hid fun W hW => trivial
    have hba : Below wq.heap.size wq (wq.drew.alloc (.cells #[.slice Ad d.length cd] 23)) := hS.alloc hS.size _
    have HXO : Hid ((wq.drew.alloc (.cells #[.slice Ad d.length cd] 23)).ownsRow base 23 1 (.slice Ak m ck) m xs) := Lib.hid (own_belowT HX.out.1 hba)
    have HXR : Hid (Row (wq.drew.alloc (.cells #[.slice Ad d.length cd] 23)) (wq.heap.size + 1) (some ⟨wq.heap.size, 0, none⟩) [.slice Ad d.length cd]) := Lib.hid (by
      have := Row.blk (Blk.new_ wq.drew 23 #[.slice Ad d.length cd] rfl) (B := wq.heap.size + 1) (Nat.lt_succ_self _)
      exact this)
    have HXB : Hid (base ≤ (wq.drew.alloc (.cells #[.slice Ad d.length cd] 23)).heap.size) := Lib.hid (by have := HB.out.size; simp; omega)
    have HAP : Hid (∀ w2 v', w2.ownsRow base 23 1 v' (m + 1) (xs ++ [.slice Ad d.length cd]) → (wq.drew.alloc (.cells #[.slice Ad d.length cd] 23)).grownBy w2 (Value.slice Ak m ck).ownBlock → (v'.ownBlock = (Value.slice Ak m ck).ownBlock ∨ v'.ownBlock = some (wq.drew.alloc (.cells #[.slice Ad d.length cd] 23)).heap.size) →
        w2.frozen? ⟨gs, 1, none⟩ = false ∧ w2.cell? ⟨gs, 1, none⟩ = some (.slice Ak m ck) ∧ TS (w2.setCell ⟨gs, 1, none⟩ v') base gs vo v' (s.1, s.2 ++ [d]) ∧ Below base w (w2.setCell ⟨gs, 1, none⟩ v')) := Lib.hid fun w2 v' h1 h2 h3 => by
      have ht := HT.out.below hba
      obtain ⟨k1, k2⟩ := ht.app (own_belowT HD.out hba) HXO.out (HX.out.2.keep (KeepT.below hba)) h2 (by rw [← HM.out]) h1 h3
      have hne : (Value.slice Ak m ck).ownBlock ≠ some gs := fun e => by
        obtain ⟨_, cs, hc⟩ := own_row HXO.out e
        exact Blk.ne_ hc ht.blk (by decide) rfl
      have b2 : Blk w2 gs 117 #[vo, .slice Ak m ck] := ht.blk.grown h2 (fun e => hne e.symm)
      refine ⟨b2.frozen 1, Blk.at_ b2 1 rfl, k1, (((HB.out.trans (hba.mono (by have := HB.out.size; omega))).trans ?_).trans k2)⟩
      exact (Below.refl base _).grown h2 HXB.out (fun g hg => (own_row HXO.out hg).1)
    clear hba f0 f1
    refine wp_region_heldG [7, 8] (fun c W => (c 7 = true ∧ c 8 = true) ∨ Below wq.heap.size wq W) (by kernel_rfl) ?_
    change wpAnyG _ _ _ _ _ _ 12 _ _ wq.drew
    -- take0 take1 take2 take3 take4 take5 take6 one7 one8 take9 take10 one11 done
    refine g_take (i := 0) rfl rfl (by kernel_rfl) (by kernel_rfl) (by kernel_rfl) (by kernel_rfl) (by kernel_rfl) (fun _ _ _ h => h) (.inr hS) (fun L W hL hW => by go_simp; rfl) ?_
    refine g_take (i := 1) rfl rfl (by kernel_rfl) (by kernel_rfl) (by kernel_rfl) (by kernel_rfl) (by kernel_rfl) (fun _ _ _ h => h) (.inr hS) (fun L W hL hW => by go_simp; rfl) ?_
    refine g_take (i := 2) rfl rfl (by kernel_rfl) (by kernel_rfl) (by kernel_rfl) (by kernel_rfl) (by kernel_rfl) (fun _ _ _ h => h) (.inr hS) (fun L W hL hW => by go_simp; rfl) ?_
    refine g_take (i := 3) rfl rfl (by kernel_rfl) (by kernel_rfl) (by kernel_rfl) (by kernel_rfl) (by kernel_rfl) (fun _ _ _ h => h) (.inr hS) (fun L W hL hW => by go_simp; rfl) ?_
    refine g_take (i := 4) rfl rfl (by kernel_rfl) (by kernel_rfl) (by kernel_rfl) (by kernel_rfl) (by kernel_rfl) (fun _ _ _ h => h) (.inr hS) (fun L W hL hW => by have hb := hW.resolve_left (by simp [came, hL 8 (by kernel_rfl)]); have q1 := HC1.out _ hb; have q2 := HC2.out _ hb; have q3 := HC3.out _ hb; go_simp; rfl) ?_
    refine g_take (i := 5) rfl rfl (by kernel_rfl) (by kernel_rfl) (by kernel_rfl) (by kernel_rfl) (by kernel_rfl) (fun _ _ _ h => h) (.inr hS) (fun L W hL hW => by go_simp; rfl) ?_
    refine g_take (i := 6) rfl rfl (by kernel_rfl) (by kernel_rfl) (by kernel_rfl) (by kernel_rfl) (by kernel_rfl) (fun _ _ _ h => h) (.inr hS) (fun L W hL hW => by have hb := hW.resolve_left (by simp [came, hL 7 (by kernel_rfl)]); have q1 := HC1.out _ hb; have q2 := HC2.out _ hb; have q3 := HC3.out _ hb; go_simp; rfl) ?_
    refine g_one (i := 7) rfl rfl (by kernel_rfl) fun K hK => ?_
    go_simp
    have hSa : Below wq.heap.size wq (wq.drew.alloc (.cells #[.slice Ad d.length cd] 23)) := hS.alloc hS.size _
    refine hK _ _ (.inr hSa) ?_
    clear hK K
    refine g_one (i := 8) rfl rfl (by kernel_rfl) fun K hK => ?_
    refine wp_append_row _ (.tmp 19) (.tmp 22) _ rfl base 23 i0 _ 24 Try.underlying30 hi0 hz0 hz1 hz2 rfl (.slice Ak m ck) m xs rfl (by exact HXO.out) (wq.heap.size + 1) (some ⟨wq.heap.size, 0, none⟩) 1 1 [.slice Ad d.length cd] rfl rfl (by exact HXR.out) (by intro u hu; simp only [List.mem_singleton] at hu; subst hu; rfl) (by unfold maxLen; omega) (by omega) (by exact HXB.out) ?_
    intro v' w2 hown2 hgrow _ hvb
    obtain ⟨A2, c2, hv2⟩ := own_form hown2
    subst hv2
    have HF := Lib.hid (HAP.out w2 _ hown2 hgrow hvb)
    clear hown2 hgrow hvb
    have fz := HF.out.1
    have fc := HF.out.2.1
    refine hK _ _ (.inl ⟨by decide, by decide⟩) ?_
    clear hK K
    refine g_take (i := 9) rfl rfl (by kernel_rfl) (by kernel_rfl) (by kernel_rfl) (by kernel_rfl) (by kernel_rfl) (fun _ _ _ h => h) (.inl ⟨by decide, by decide⟩) (fun L W hL hW => by go_simp; rfl) ?_
    refine g_take (i := 10) rfl rfl (by kernel_rfl) (by kernel_rfl) (by kernel_rfl) (by kernel_rfl) (by kernel_rfl) (fun _ _ _ h => h) (.inl ⟨by decide, by decide⟩) (fun L W hL hW => by go_simp; rfl) ?_
    refine g_one (i := 11) rfl rfl (by kernel_rfl) fun K hK => ?_
    go_simp
    refine hK _ _ (.inl ⟨by decide, by decide⟩) ?_
    clear hK K
    refine wpAnyG_done (by kernel_rfl) ?_ _
    go_simp
    go_wp2_with fail
    go_ret2
    unfold TakeOut
    rw [HR.out]
    exact ⟨rfl, HF.out.2.2.2, _, _, HF.out.2.2.1⟩
set_option maxRecDepth 100000 in
set_option maxHeartbeats 4000000 in
theorem take2_any {w : World} {base gs : Nat} {vo vk vd : Value} {s : St} {k : UInt8} {d : List UInt8} (hk : k ≠ 1) (h : TS w base gs vo vk s) (hd : w.ownsRow base 5 1 vd d.length (bs d)) (hm : s.2.length ≤ 1024) (hmo : s.1.length ≤ 1000000000000) (hdl : d.length ≤ 1000000) (hbase : base ≤ w.heap.size) :
    Calls Try.prog 68 #[.pointer (some ⟨gs, 0, none⟩), .agg #[.int .u8 (k.toNat : Nat), vd]] w (TakeOut w base gs s (k, d)) := by
  obtain ⟨j0, hj0, hy0, hy1, hy2⟩ := info_parts infoSS
  obtain ⟨Ad, cd, rfl, hdc, -, hbd⟩ := own_bytes hd
  have gr := Blk.new_ w 88 #[.int .u8 (k.toNat : Nat), .slice Ad d.length cd] rfl
  have hbw : Below w.heap.size w (w.alloc (.cells #[.int .u8 (k.toNat : Nat), .slice Ad d.length cd] 88)) := (Below.refl _ w).alloc (Nat.le_refl _) _
  have hT := h.below hbw
  have hB : Below base w (w.alloc (.cells #[.int .u8 (k.toNat : Nat), .slice Ad d.length cd] 88)) := hbw.mono hbase
  have hbd1 := hbd.grow hbw
  obtain ⟨m, hmm⟩ : ∃ m, m = s.2.length := ⟨_, rfl⟩
  obtain ⟨nd, hnd⟩ : ∃ n, n = d.length := ⟨_, rfl⟩
  obtain ⟨mo, hmoo⟩ : ∃ m, m = s.1.length := ⟨_, rfl⟩
  obtain ⟨Ak, ck, hvk, -, -, -⟩ := hT.kept.reads
  obtain ⟨Ao, co, hvo, -, -, -⟩ := hT.outs.out
  subst hvk
  subst hvo
  have HTx := Lib.hid hT
  rw [← hmm] at hT hm
  rw [← hmoo] at hT hmo
  rw [← hnd] at gr hbw hB hdc hdl hbd1 ⊢
  have HT : Hid (TS (w.alloc (.cells #[.int .u8 (k.toNat : Nat), .slice Ad nd cd] 88)) base gs (.slice Ao mo co) (.slice Ak m ck) s) := Lib.hid (by rw [hnd]; exact hT)
  have HBD0 : Hid (Bytes (w.alloc (.cells #[.int .u8 (k.toNat : Nat), .slice Ad nd cd] 88)) (w.alloc (.cells #[.int .u8 (k.toNat : Nat), .slice Ad nd cd] 88)).heap.size Ad d) := Lib.hid (by rw [hnd]; exact hbd.grow (by rw [← hnd]; exact hbw))
  have f0 := Blk.at_ gr 0 (v := .int .u8 (k.toNat : Nat)) rfl
  have HM := Lib.hid hmm
  have HMO := Lib.hid hmoo
  have HND := Lib.hid hnd
  have HB := Lib.hid hB
  have HG := Lib.hid gr
  have g1 : ¬ ((k.toNat : Nat) : Int) = 1 := fun e => hk (UInt8.toNat_inj.1 (show k.toNat = 1 by omega))
  have HK := Lib.hid hk
  clear h hd hbw hT hB hmm hmoo hnd gr hbd hbd1 hk HTx
  generalize hkk : k.toNat = kk at *
  go_enter Try.func68, Try.ntmps68
  go_upto_region 6 with fail
  generalize hwq : w.alloc (.cells #[.int .u8 (kk : Nat), .slice Ad nd cd] 88) = wq at *
  generalize hgr : w.heap.size = gr at *
  clear g1 f0
  have hS : Below wq.heap.size wq wq.drew := (Below.refl _ _).drew
  have HC1 : Hid (∀ W, Below wq.heap.size wq W → W.cell? ⟨gs, 1, none⟩ = some (.slice Ak m ck)) := Lib.hid fun W hW => (hW.cell (p := ⟨gs, 1, none⟩) HT.out.blk.lt).trans (Blk.at_ HT.out.blk 1 rfl)
  have HC2 : Hid (∀ W, Below wq.heap.size wq W → W.cell? ⟨gr, 1, none⟩ = some (.slice Ad nd cd)) := Lib.hid fun W hW => (hW.cell (p := ⟨gr, 1, none⟩) HG.out.lt).trans (Blk.at_ HG.out 1 rfl)
  have HC3 : Hid (∀ W, Below wq.heap.size wq W → W.cell? ⟨gs, 0, none⟩ = some (.slice Ao mo co)) := Lib.hid fun W hW => (hW.cell (p := ⟨gs, 0, none⟩) HT.out.blk.lt).trans (Blk.at_ HT.out.blk 0 rfl)
  have HBD : Hid (∀ W, Below wq.heap.size wq W → Bytes W W.heap.size Ad d) := Lib.hid fun W hW => HBD0.out.grow hW
  have HBC : Hid (Bytes (wq.drew.alloc (.cells (bs (cnt m)).toArray 5)) (wq.drew.alloc (.cells (bs (cnt m)).toArray 5)).heap.size (some ⟨wq.heap.size, 0, none⟩) (cnt m)) := Lib.hid (Bytes.new_ wq.drew 5 (bs (cnt m)).toArray (0, 0) (cnt m) (by simp) rfl (by simp))
  by_cases h0 : m = 0
  · have HR := Lib.hid (show Bat.take s (k, d) = (s, false, 34) by unfold Bat.take; rw [if_neg HK.out, if_pos (.inl (by rw [← HM.out]; exact h0))])
    have u1 : (m : Int) = 0 := by omega
    refine wp_region_heldG [] (fun _ W => Below wq.heap.size wq W) (by kernel_rfl) ?_
    change wpAnyG _ _ _ _ _ _ 18 _ _ wq.drew
    -- take0 take1 take2 take3 take4 take5 take6 take7G take8G take9G take10G take11G take12G take13G one14G one15G take16G take17 done
    refine g_take (i := 0) rfl rfl (by kernel_rfl) (by kernel_rfl) (by kernel_rfl) (by kernel_rfl) (by kernel_rfl) (fun _ _ _ h => h) hS (fun L W hL hW => by go_simp; rfl) ?_
    refine g_take (i := 1) rfl rfl (by kernel_rfl) (by kernel_rfl) (by kernel_rfl) (by kernel_rfl) (by kernel_rfl) (fun _ _ _ h => h) hS (fun L W hL hW => by go_simp; rfl) ?_
    refine g_take (i := 2) rfl rfl (by kernel_rfl) (by kernel_rfl) (by kernel_rfl) (by kernel_rfl) (by kernel_rfl) (fun _ _ _ h => h) hS (fun L W hL hW => by go_simp; rfl) ?_
    refine g_take (i := 3) rfl rfl (by kernel_rfl) (by kernel_rfl) (by kernel_rfl) (by kernel_rfl) (by kernel_rfl) (fun _ _ _ h => h) hS (fun L W hL hW => by have q1 := HC1.out _ hW; have q2 := HC2.out _ hW; have q3 := HC3.out _ hW; go_simp; rfl) ?_
    refine g_take (i := 4) rfl rfl (by kernel_rfl) (by kernel_rfl) (by kernel_rfl) (by kernel_rfl) (by kernel_rfl) (fun _ _ _ h => h) hS (fun L W hL hW => by go_simp; rfl) ?_
    refine g_take (i := 5) rfl rfl (by kernel_rfl) (by kernel_rfl) (by kernel_rfl) (by kernel_rfl) (by kernel_rfl) (fun _ _ _ h => h) hS (fun L W hL hW => by go_simp; rfl) ?_
    refine g_take (i := 6) rfl rfl (by kernel_rfl) (by kernel_rfl) (by kernel_rfl) (by kernel_rfl) (by kernel_rfl) (fun _ _ _ h => h) hS (fun L W hL hW => by go_simp; rfl) ?_
    refine g_skip (i := 7) rfl (by simp only [Region.wanted, yielded]; go_simp) (by kernel_rfl) (by kernel_rfl) (by kernel_rfl) (by kernel_rfl) (by kernel_rfl) (fun _ _ _ h => h) hS ?_
    refine g_skip (i := 8) rfl (by simp only [Region.wanted, yielded]; go_simp) (by kernel_rfl) (by kernel_rfl) (by kernel_rfl) (by kernel_rfl) (by kernel_rfl) (fun _ _ _ h => h) hS ?_
    refine g_skip (i := 9) rfl (by simp only [Region.wanted, yielded]; go_simp) (by kernel_rfl) (by kernel_rfl) (by kernel_rfl) (by kernel_rfl) (by kernel_rfl) (fun _ _ _ h => h) hS ?_
    refine g_skip (i := 10) rfl (by simp only [Region.wanted, yielded]; go_simp) (by kernel_rfl) (by kernel_rfl) (by kernel_rfl) (by kernel_rfl) (by kernel_rfl) (fun _ _ _ h => h) hS ?_
    refine g_skip (i := 11) rfl (by simp only [Region.wanted, yielded]; go_simp) (by kernel_rfl) (by kernel_rfl) (by kernel_rfl) (by kernel_rfl) (by kernel_rfl) (fun _ _ _ h => h) hS ?_
    refine g_skip (i := 12) rfl (by simp only [Region.wanted, yielded]; go_simp) (by kernel_rfl) (by kernel_rfl) (by kernel_rfl) (by kernel_rfl) (by kernel_rfl) (fun _ _ _ h => h) hS ?_
    refine g_skip (i := 13) rfl (by simp only [Region.wanted, yielded]; go_simp) (by kernel_rfl) (by kernel_rfl) (by kernel_rfl) (by kernel_rfl) (by kernel_rfl) (fun _ _ _ h => h) hS ?_
    refine g_skip (i := 14) rfl (by simp only [Region.wanted, yielded]; go_simp) (by kernel_rfl) (by kernel_rfl) (by kernel_rfl) (by kernel_rfl) (by kernel_rfl) (fun _ _ _ h => h) hS ?_
    refine g_skip (i := 15) rfl (by simp only [Region.wanted, yielded]; go_simp) (by kernel_rfl) (by kernel_rfl) (by kernel_rfl) (by kernel_rfl) (by kernel_rfl) (fun _ _ _ h => h) hS ?_
    refine g_skip (i := 16) rfl (by simp only [Region.wanted, yielded]; go_simp) (by kernel_rfl) (by kernel_rfl) (by kernel_rfl) (by kernel_rfl) (by kernel_rfl) (fun _ _ _ h => h) hS ?_
    refine g_take (i := 17) rfl rfl (by kernel_rfl) (by kernel_rfl) (by kernel_rfl) (by kernel_rfl) (by kernel_rfl) (fun _ _ _ h => h) hS (fun L W hL hW => by go_simp; rfl) ?_
    refine wpAnyG_done (by kernel_rfl) ?_ _
    go_simp
    have HTf := Lib.hid (HT.out.below hS)
    have HBf := Lib.hid (HB.out.trans (hS.mono (by have := HB.out.size; omega)))
    go_wp2_with fail
    go_ret2
    exact out_nil _ _ _ _ _ _ _ HR.out HTf.out HBf.out rfl
  have u1 : ¬ (m : Int) = 0 := by omega
  have u1b : ((m : Int) == 0) = false := by rw [beq_eq_false_iff_ne]; exact u1
  refine wp_region_heldG [] (fun _ W => Below wq.heap.size wq W) (by kernel_rfl) ?_
  change wpAnyG _ _ _ _ _ _ 18 _ _ wq.drew
  -- take0 take1 take2 take3 take4 take5 take6 take7G take8G take9G take10G take11G take12G take13G one14G one15G take16G take17 done
  refine g_take (i := 0) rfl rfl (by kernel_rfl) (by kernel_rfl) (by kernel_rfl) (by kernel_rfl) (by kernel_rfl) (fun _ _ _ h => h) hS (fun L W hL hW => by go_simp; rfl) ?_
  refine g_take (i := 1) rfl rfl (by kernel_rfl) (by kernel_rfl) (by kernel_rfl) (by kernel_rfl) (by kernel_rfl) (fun _ _ _ h => h) hS (fun L W hL hW => by go_simp; rfl) ?_
  refine g_take (i := 2) rfl rfl (by kernel_rfl) (by kernel_rfl) (by kernel_rfl) (by kernel_rfl) (by kernel_rfl) (fun _ _ _ h => h) hS (fun L W hL hW => by go_simp; rfl) ?_
  refine g_take (i := 3) rfl rfl (by kernel_rfl) (by kernel_rfl) (by kernel_rfl) (by kernel_rfl) (by kernel_rfl) (fun _ _ _ h => h) hS (fun L W hL hW => by have q1 := HC1.out _ hW; have q2 := HC2.out _ hW; have q3 := HC3.out _ hW; go_simp; rfl) ?_
  refine g_take (i := 4) rfl rfl (by kernel_rfl) (by kernel_rfl) (by kernel_rfl) (by kernel_rfl) (by kernel_rfl) (fun _ _ _ h => h) hS (fun L W hL hW => by go_simp; rfl) ?_
  refine g_take (i := 5) rfl rfl (by kernel_rfl) (by kernel_rfl) (by kernel_rfl) (by kernel_rfl) (by kernel_rfl) (fun _ _ _ h => h) hS (fun L W hL hW => by go_simp; rfl) ?_
  refine g_take (i := 6) rfl rfl (by kernel_rfl) (by kernel_rfl) (by kernel_rfl) (by kernel_rfl) (by kernel_rfl) (fun _ _ _ h => h) hS (fun L W hL hW => by go_simp; rfl) ?_
  refine g_takeG (i := 7) rfl (by simp only [Region.wanted, yielded]; go_simp) (by kernel_rfl) (by kernel_rfl) (by kernel_rfl) (by kernel_rfl) (by kernel_rfl) (fun _ _ _ h => h) hS (fun L W hL hW => by go_simp; rfl) ?_
  refine g_takeG (i := 8) rfl (by simp only [Region.wanted, yielded]; go_simp) (by kernel_rfl) (by kernel_rfl) (by kernel_rfl) (by kernel_rfl) (by kernel_rfl) (fun _ _ _ h => h) hS (fun L W hL hW => by have q1 := HC1.out _ hW; have q2 := HC2.out _ hW; have q3 := HC3.out _ hW; go_simp; rfl) ?_
  refine g_takeG (i := 9) rfl (by simp only [Region.wanted, yielded]; go_simp) (by kernel_rfl) (by kernel_rfl) (by kernel_rfl) (by kernel_rfl) (by kernel_rfl) (fun _ _ _ h => h) hS (fun L W hL hW => by go_simp; rfl) ?_
  refine g_takeG (i := 10) rfl (by simp only [Region.wanted, yielded]; go_simp) (by kernel_rfl) (by kernel_rfl) (by kernel_rfl) (by kernel_rfl) (by kernel_rfl) (fun _ _ _ h => h) hS (fun L W hL hW => by go_simp; rfl) ?_
  refine g_takeG (i := 11) rfl (by simp only [Region.wanted, yielded]; go_simp) (by kernel_rfl) (by kernel_rfl) (by kernel_rfl) (by kernel_rfl) (by kernel_rfl) (fun _ _ _ h => h) hS (fun L W hL hW => by go_simp; rfl) ?_
  refine g_takeG (i := 12) rfl (by simp only [Region.wanted, yielded]; go_simp) (by kernel_rfl) (by kernel_rfl) (by kernel_rfl) (by kernel_rfl) (by kernel_rfl) (fun _ _ _ h => h) hS (fun L W hL hW => by have q1 := HC1.out _ hW; have q2 := HC2.out _ hW; have q3 := HC3.out _ hW; go_simp; rfl) ?_
  refine g_takeG (i := 13) rfl (by simp only [Region.wanted, yielded]; go_simp) (by kernel_rfl) (by kernel_rfl) (by kernel_rfl) (by kernel_rfl) (by kernel_rfl) (fun _ _ _ h => h) hS (fun L W hL hW => by go_simp; rfl) ?_
  refine g_one (i := 14) rfl (by simp only [Region.wanted, yielded]; go_simp) (by kernel_rfl) fun K hK => ?_
  go_simp
  refine Calls.mono (count_any m (by omega) _) ?_
  rintro e w3 ⟨rfl, rfl⟩
  have hSa : Below wq.heap.size wq (wq.drew.alloc (.cells (bs (cnt m)).toArray 5)) := hS.alloc hS.size _
  refine hK _ _ hSa ?_
  clear hK K
  refine g_one (i := 15) rfl (by simp only [Region.wanted, yielded]; go_simp) (by kernel_rfl) fun K hK => ?_
  go_simp
  refine Calls.mono (equal_any Ad (some ⟨wq.heap.size, 0, none⟩) cd 2 d (cnt m) nd 2 HND.out rfl hdc (by decide) (by omega) _ (by exact HBD.out _ hSa) (by exact HBC.out)) ?_
  rintro e w3 ⟨rfl, hb3⟩
  have hS3 := hSa.trans (hb3.mono hSa.size)
  refine hK _ _ hS3 ?_
  clear hK K
  refine g_takeG (i := 16) rfl (by simp only [Region.wanted, yielded]; go_simp) (by kernel_rfl) (by kernel_rfl) (by kernel_rfl) (by kernel_rfl) (by kernel_rfl) (fun _ _ _ h => h) hS3 (fun L W hL hW => by go_simp; rfl) ?_
  refine g_take (i := 17) rfl rfl (by kernel_rfl) (by kernel_rfl) (by kernel_rfl) (by kernel_rfl) (by kernel_rfl) (fun _ _ _ h => h) hS3 (fun L W hL hW => by go_simp; rfl) ?_
  refine wpAnyG_done (by kernel_rfl) ?_ _
  go_simp
  have HTf := Lib.hid (HT.out.below hS3)
  have HBf := Lib.hid (HB.out.trans (hS3.mono (by have := HB.out.size; omega)))
  clear hb3 hSa
  cases hdd : (d == cnt m)
  · have HR := Lib.hid (show Bat.take s (k, d) = (s, false, 34) by unfold Bat.take; rw [if_neg HK.out, if_pos (.inr (by rw [← HM.out]; intro e; rw [show d = cnt m from e] at hdd; simp at hdd))])
    have u9 : (d != cnt m) = true := by unfold bne; rw [hdd]; rfl
    go_wp2_with fail
    go_ret2
    exact out_nil _ _ _ _ _ _ _ HR.out HTf.out HBf.out rfl
  have HR := Lib.hid (show Bat.take s (k, d) = ((s.1 ++ [s.2], []), true, 0) by
    unfold Bat.take; rw [if_neg HK.out, if_neg (by rw [← HM.out]; intro e; rcases e with e | e; exact h0 e; exact e (by simpa using hdd))])
  have u9 : (d != cnt m) = false := by unfold bne; rw [hdd]; rfl
  clear HT HB HC1 HC2 HC3 HBD HBC HG HBD0 hS hS3
  go_upto_region 8 with fail
  clear hwq hdd u9
  generalize w3 = wq at *
  have hS : Below wq.heap.size wq wq.drew := (Below.refl _ _).drew
  have HC1 : Hid (∀ W, Below wq.heap.size wq W → W.cell? ⟨gs, 1, none⟩ = some (.slice Ak m ck)) := Lib.hid fun W hW => (hW.cell (p := ⟨gs, 1, none⟩) HTf.out.blk.lt).trans (Blk.at_ HTf.out.blk 1 rfl)
  have HC2 : Hid (∀ W, Below wq.heap.size wq W → True) := Lib.hid fun W hW => trivial
  have HC3 : Hid (∀ W, Below wq.heap.size wq W → W.cell? ⟨gs, 0, none⟩ = some (.slice Ao mo co)) := Lib.hid fun W hW => (hW.cell (p := ⟨gs, 0, none⟩) HTf.out.blk.lt).trans (Blk.at_ HTf.out.blk 0 rfl)
  have hba : Below wq.heap.size wq (wq.drew.alloc (.cells #[.slice Ak m ck] 30)) := hS.alloc hS.size _
  obtain ⟨ys, hyo, hyx⟩ := (HTf.out.below hba).outs
  rw [← HMO.out] at hyo
  have HYO := Lib.hid hyo
  have HYX := Lib.hid hyx
  clear hyo hyx
  have HYR : Hid (Row (wq.drew.alloc (.cells #[.slice Ak m ck] 30)) (wq.heap.size + 1) (some ⟨wq.heap.size, 0, none⟩) [.slice Ak m ck]) := Lib.hid (by
    have := Row.blk (Blk.new_ wq.drew 30 #[.slice Ak m ck] rfl) (B := wq.heap.size + 1) (Nat.lt_succ_self _)
    exact this)
  have HXB : Hid (base ≤ (wq.drew.alloc (.cells #[.slice Ak m ck] 30)).heap.size) := Lib.hid (by have := HBf.out.size; simp; omega)
  have HAP : Hid (∀ w2 v', w2.ownsRow base 30 1 v' (mo + 1) (ys ++ [.slice Ak m ck]) → (wq.drew.alloc (.cells #[.slice Ak m ck] 30)).grownBy w2 (Value.slice Ao mo co).ownBlock →
      (w2.frozen? ⟨gs, 0, none⟩ = false ∧ w2.cell? ⟨gs, 0, none⟩ = some (.slice Ao mo co) ∧ ((w2.setCell ⟨gs, 0, none⟩ v').frozen? ⟨gs, 1, none⟩ = false ∧ (w2.setCell ⟨gs, 0, none⟩ v').cell? ⟨gs, 1, none⟩ = some (.slice Ak m ck))) ∧ TS ((w2.setCell ⟨gs, 0, none⟩ v').setCell ⟨gs, 1, none⟩ (.slice none 0 0)) base gs v' (.slice none 0 0) (s.1 ++ [s.2], []) ∧ Below base w ((w2.setCell ⟨gs, 0, none⟩ v').setCell ⟨gs, 1, none⟩ (.slice none 0 0))) := Lib.hid fun w2 v' h1 h2 => by
    have ht := HTf.out.below hba
    have hl := HYO.out.1
    rw [Nat.mul_one] at hl
    obtain ⟨k1, k2⟩ := ht.end_ HYO.out HYX.out (by rw [hl, HMO.out]) h2 (by rw [← HMO.out]) h1
    have hne : (Value.slice Ao mo co).ownBlock ≠ some gs := fun e => by
      obtain ⟨_, cs, hc⟩ := own_row HYO.out e
      exact Blk.ne_ hc ht.blk (by decide) rfl
    have b2 : Blk w2 gs 117 #[.slice Ao mo co, .slice Ak m ck] := ht.blk.grown h2 (fun e => hne e.symm)
    have b3 := b2.set_ 0 v'
    refine ⟨⟨b2.frozen 0, Blk.at_ b2 0 rfl, b3.frozen 1, Blk.at_ b3 1 rfl⟩, k1, (((HBf.out.trans (hba.mono (by have := HBf.out.size; omega))).trans ?_).trans k2)⟩
    exact (Below.refl base _).grown h2 HXB.out (fun g hg => (own_row HYO.out hg).1)
  clear hba
  refine wp_region_heldG [10, 11] (fun c W => (c 10 = true ∧ c 11 = true) ∨ Below wq.heap.size wq W) (by kernel_rfl) ?_
  change wpAnyG _ _ _ _ _ _ 18 _ _ wq.drew
  -- take0 take1 take2 take3 take4 take5 take6 take7 take8 take9 one10 one11 take12 take13 one14 take15 take16 one17 done
  refine g_take (i := 0) rfl rfl (by kernel_rfl) (by kernel_rfl) (by kernel_rfl) (by kernel_rfl) (by kernel_rfl) (fun _ _ _ h => h) (.inr hS) (fun L W hL hW => by go_simp; rfl) ?_
  refine g_take (i := 1) rfl rfl (by kernel_rfl) (by kernel_rfl) (by kernel_rfl) (by kernel_rfl) (by kernel_rfl) (fun _ _ _ h => h) (.inr hS) (fun L W hL hW => by go_simp; rfl) ?_
  refine g_take (i := 2) rfl rfl (by kernel_rfl) (by kernel_rfl) (by kernel_rfl) (by kernel_rfl) (by kernel_rfl) (fun _ _ _ h => h) (.inr hS) (fun L W hL hW => by go_simp; rfl) ?_
  refine g_take (i := 3) rfl rfl (by kernel_rfl) (by kernel_rfl) (by kernel_rfl) (by kernel_rfl) (by kernel_rfl) (fun _ _ _ h => h) (.inr hS) (fun L W hL hW => by go_simp; rfl) ?_
  refine g_take (i := 4) rfl rfl (by kernel_rfl) (by kernel_rfl) (by kernel_rfl) (by kernel_rfl) (by kernel_rfl) (fun _ _ _ h => h) (.inr hS) (fun L W hL hW => by go_simp; rfl) ?_
  refine g_take (i := 5) rfl rfl (by kernel_rfl) (by kernel_rfl) (by kernel_rfl) (by kernel_rfl) (by kernel_rfl) (fun _ _ _ h => h) (.inr hS) (fun L W hL hW => by have hb := hW.resolve_left (by simp [came, hL 11 (by kernel_rfl)]); have q1 := HC1.out _ hb; have q2 := HC2.out _ hb; have q3 := HC3.out _ hb; go_simp; rfl) ?_
  refine g_take (i := 6) rfl rfl (by kernel_rfl) (by kernel_rfl) (by kernel_rfl) (by kernel_rfl) (by kernel_rfl) (fun _ _ _ h => h) (.inr hS) (fun L W hL hW => by go_simp; rfl) ?_
  refine g_take (i := 7) rfl rfl (by kernel_rfl) (by kernel_rfl) (by kernel_rfl) (by kernel_rfl) (by kernel_rfl) (fun _ _ _ h => h) (.inr hS) (fun L W hL hW => by go_simp; rfl) ?_
  refine g_take (i := 8) rfl rfl (by kernel_rfl) (by kernel_rfl) (by kernel_rfl) (by kernel_rfl) (by kernel_rfl) (fun _ _ _ h => h) (.inr hS) (fun L W hL hW => by go_simp; rfl) ?_
  refine g_take (i := 9) rfl rfl (by kernel_rfl) (by kernel_rfl) (by kernel_rfl) (by kernel_rfl) (by kernel_rfl) (fun _ _ _ h => h) (.inr hS) (fun L W hL hW => by have hb := hW.resolve_left (by simp [came, hL 10 (by kernel_rfl)]); have q1 := HC1.out _ hb; have q2 := HC2.out _ hb; have q3 := HC3.out _ hb; go_simp; rfl) ?_
  refine g_one (i := 10) rfl rfl (by kernel_rfl) fun K hK => ?_
  go_simp
  have hSa : Below wq.heap.size wq (wq.drew.alloc (.cells #[.slice Ak m ck] 30)) := hS.alloc hS.size _
  refine hK _ _ (.inr hSa) ?_
  clear hK K
  refine g_one (i := 11) rfl rfl (by kernel_rfl) fun K hK => ?_
  refine wp_append_row _ (.tmp 49) (.tmp 54) _ rfl base 30 j0 _ 24 Try.underlying22 hj0 hy0 hy1 hy2 rfl (.slice Ao mo co) mo ys rfl (by exact HYO.out) (wq.heap.size + 1) (some ⟨wq.heap.size, 0, none⟩) 1 1 [.slice Ak m ck] rfl rfl (by exact HYR.out) (by intro u hu; simp only [List.mem_singleton] at hu; subst hu; rfl) (by unfold maxLen; omega) (by omega) (by exact HXB.out) ?_
  intro v' w2 hown2 hgrow _ hvb
  obtain ⟨A2, c2, hv2⟩ := own_form hown2
  subst hv2
  have HF := Lib.hid (HAP.out w2 _ hown2 hgrow)
  clear hown2 hgrow hvb
  have fz := HF.out.1.1
  have fc := HF.out.1.2.1
  have fd := HF.out.1.2.2.1
  have fe := HF.out.1.2.2.2
  refine hK _ _ (.inl ⟨by decide, by decide⟩) ?_
  clear hK K
  refine g_take (i := 12) rfl rfl (by kernel_rfl) (by kernel_rfl) (by kernel_rfl) (by kernel_rfl) (by kernel_rfl) (fun _ _ _ h => h) (.inl ⟨by decide, by decide⟩) (fun L W hL hW => by go_simp; rfl) ?_
  refine g_take (i := 13) rfl rfl (by kernel_rfl) (by kernel_rfl) (by kernel_rfl) (by kernel_rfl) (by kernel_rfl) (fun _ _ _ h => h) (.inl ⟨by decide, by decide⟩) (fun L W hL hW => by go_simp; rfl) ?_
  refine g_one (i := 14) rfl rfl (by kernel_rfl) fun K hK => ?_
  go_simp
  refine hK _ _ (.inl ⟨by decide, by decide⟩) ?_
  clear hK K
  refine g_take (i := 15) rfl rfl (by kernel_rfl) (by kernel_rfl) (by kernel_rfl) (by kernel_rfl) (by kernel_rfl) (fun _ _ _ h => h) (.inl ⟨by decide, by decide⟩) (fun L W hL hW => by go_simp; rfl) ?_
  refine g_take (i := 16) rfl rfl (by kernel_rfl) (by kernel_rfl) (by kernel_rfl) (by kernel_rfl) (by kernel_rfl) (fun _ _ _ h => h) (.inl ⟨by decide, by decide⟩) (fun L W hL hW => by go_simp; rfl) ?_
  refine g_one (i := 17) rfl rfl (by kernel_rfl) fun K hK => ?_
  go_simp
  refine hK _ _ (.inl ⟨by decide, by decide⟩) ?_
  clear hK K
  refine wpAnyG_done (by kernel_rfl) ?_ _
  go_simp
  go_wp2_with fail
  go_ret2
  unfold TakeOut
  rw [HR.out]
  exact ⟨rfl, HF.out.2.2, _, _, HF.out.2.1⟩
end Go.Proofs.Ytmkijkkddoamgaa.BatW

namespace Go.Proofs.Ytmkijkkddoamgaa.BatW
set_option linter.unusedVariables false
open Go.RowKit Go.Proofs Go.Proofs.Ytmkijkkddoamgaa Go.Proofs.Ytmkijkkddoamgaa.Wd Go.Proofs.Ytmkijkkddoamgaa.RecW
open Go.Proofs.Ytmkijkkddoamgaa.Rec (R takeErr takeEnd takeRec)
open Go.Proofs.Ytmkijkkddoamgaa.Bat (B cnt St So scan)

theorem take_all {w : World} {base gs : Nat} {vo vk vd : Value} {s : St} {k : UInt8} {d : List UInt8} (h : TS w base gs vo vk s) (hd : w.ownsRow base 5 1 vd d.length (bs d)) (hm : s.2.length ≤ 1024) (hmo : s.1.length ≤ 1000000000000) (hdl : d.length ≤ 1000000) (hbase : base ≤ w.heap.size) :
    Calls Try.prog 68 #[.pointer (some ⟨gs, 0, none⟩), .agg #[.int .u8 (k.toNat : Nat), vd]] w (TakeOut w base gs s (k, d)) := by
  by_cases hk : k = 1
  · subst hk; exact take1_any h hd hm hbase
  · exact take2_any hk h hd hm hmo hdl hbase
theorem take_bad {s : St} {r : R} (h : (Bat.take s r).2.2 ≠ 0) : (Bat.take s r).1 = s := by
  unfold Bat.take at h ⊢
  split
  · split
    · rfl
    · rename_i h1 h2; rw [if_pos h1, if_neg h2] at h; exact absurd rfl h
  · split
    · rfl
    · rename_i h1 h2; rw [if_neg h1, if_neg h2] at h; exact absurd rfl h
theorem take_err (s : St) (r : R) : (Bat.take s r).2.2 = 0 ∨ (Bat.take s r).2.2 = 34 := by
  unfold Bat.take
  split <;> split <;> simp
theorem rec_short {b : List UInt8} (h : takeErr b = 0) : (takeRec b).2.length ≤ 4096 := by
  have h1 := (Rec.takeEnd_le h)
  have h2 := Bat.takeEnd_rec h
  have : takeEnd b = 9 + Rec.number (b.drop 5) := rfl
  omega
/-- What Scan answers. -/
def ScanOut (w : World) (b : List UInt8) (e : Ending) (w' : World) : Prop :=
  ∃ A c, e = .returned (.tuple #[.slice A (scan b).1.length c, .int .i64 ((scan b).2.1 : Nat), .int .i64 ((scan b).2.2 : Nat)]) ∧ Below w.heap.size w w' ∧ (scan b).1.length ≤ c ∧ c ≤ maxLen ∧ BRows3 w' w'.heap.size A (scan b).1 ∧ ∃ u, Outs w' w.heap.size (.slice A (scan b).1.length c) (scan b).1 u
theorem scan_out {w w' : World} {b : List UInt8} {ll : List B} {te er : Nat} (h : scan b = (ll, te, er)) {A : Option Addr} {c : Nat} (hl : ll.length ≤ c) (hc : c ≤ maxLen) (hr : BRows3 w' w'.heap.size A ll ∧ ∃ u, Outs w' w.heap.size (.slice A ll.length c) ll u) (hB : Below w.heap.size w w') {e : Ending} (he : e = .returned (.tuple #[.slice A ll.length c, .int .i64 (te : Nat), .int .i64 (er : Nat)])) : ScanOut w b e w' := by
  unfold ScanOut; rw [h]; exact ⟨A, c, he, hB, hl, hc, hr.1, hr.2⟩

set_option maxRecDepth 100000 in
set_option maxHeartbeats 4000000 in
theorem bscan_any (A : Option Addr) (c : Nat) (b : List UInt8) (n : Nat) (hn : n = b.length) (hbc : n ≤ c) (hreach : n ≤ 1000000000000) (w : World) (hI : Bytes w w.heap.size A b) :
    Calls Try.prog 46 #[.slice A n c] w (ScanOut w b) := by
  have HN := Lib.hid hn
  clear hn
  have g2 : (n : Int) ≤ (c : Int) := by omega
  have infoR : (Try.prog.info? 88).map (·.size) = some 2 := by kernel_rfl
  have hg := Blk.new_ w 117 #[.slice none 0 0, .slice none 0 0] rfl
  have hbw : Below w.heap.size w (w.alloc (.cells #[.slice none 0 0, .slice none 0 0] 117)) := (Below.refl _ w).alloc (Nat.le_refl _) _
  have hT : TS (w.alloc (.cells #[.slice none 0 0, .slice none 0 0] 117)) w.heap.size w.heap.size (.slice none 0 0) (.slice none 0 0) ([], []) := ⟨Nat.le_refl _, hg, Kept.nil _ _, Outs.nil _ _ _⟩
  have HT0 := Lib.hid hT
  have HB0 := Lib.hid hbw
  clear hg hbw hT
  go_enter Try.func46, Try.ntmps46
  go_wp2
  go_loopw [6, 7] (fun e i wr => ∃ (k te : Nat) (s : St) (vo vk : Value), k ≤ n ∧ te ≤ n ∧ i = .int .i64 k ∧ e = .int .i64 te ∧ Hid (So b s k te) ∧ Hid (TS wr w.heap.size w.heap.size vo vk s) ∧ Hid (Below w.heap.size w wr) ∧ Hid (s.2.length ≤ 1024) ∧ Hid (s.1.length ≤ k)) (fun _ i _ => n - (intOf i).toNat)
  case atStart => exact ⟨0, 0, ([], []), _, _, Nat.zero_le _, Nat.zero_le _, rfl, rfl, Lib.hid (So.start b), HT0, HB0, Lib.hid (Nat.zero_le _), Lib.hid (Nat.zero_le _)⟩
  case round =>
    clear HT0 HB0
    obtain ⟨k, te, s, vo, vk, hk, hto, rfl, rfl, HS, HT, HB, HM, HO⟩ := hrel
    by_cases hlt : k < n
    · have hkl : k < b.length := by have := HN.out; omega
      obtain ⟨bb, off, rfl, hbb, -⟩ := hI.at_ hkl
      have hcd : Bytes w w.heap.size (some ⟨bb, off + k, none⟩) (b.drop k) := by
        unfold Bytes; rw [show bs (b.drop k) = (bs b).drop k by simp [bs, List.map_drop]]
        exact Row.drop hI (fun _ _ _ h => by cases h; rfl)
      have HK := Lib.hid hkl
      have HTK := Lib.hid (take_any (some ⟨bb, off + k, none⟩) (c - k) (b.drop k) (n - k) (by have := HN.out; simp; omega) (by have := HN.out; simp; omega) (by have := HN.out; simp; omega) wr (by exact (hcd.below HB.out).more HB.out.size))
      have g4 : ¬ c = k := by omega
      have g5 : (k : Int) ≤ (n : Int) := by omega
      clear hcd hkl
      go_wp2_with fail
      refine Calls.mono HTK.out ?_
      rintro e w1 hw
      obtain ⟨A1, c1, rfl, hb1, h4, h5, hown⟩ := hw.out
      clear HTK hw
      have HB1 := Lib.hid (HB.out.trans (hb1.mono HB.out.size))
      have HT1 := Lib.hid (HT.out.below hb1)
      obtain ⟨⟨rk, rd⟩, hr⟩ : ∃ r, tkRec (b.drop k) = r := ⟨_, rfl⟩
      obtain ⟨er, her⟩ : ∃ r, takeErr (b.drop k) = r := ⟨_, rfl⟩
      obtain ⟨m, hme⟩ : ∃ r, tkEnd (b.drop k) = r := ⟨_, rfl⟩
      rw [hr] at hown h4 ⊢
      rw [her, hme]
      dsimp only at hown h4 ⊢
      have HOW := Lib.hid (own_base hown HB.out.size)
      have HR := Lib.hid hr
      have HE := Lib.hid her
      have HME := Lib.hid hme
      clear HB HT hown hb1 hr her hme
      have hzr := Blk.new_ w1 88 #[.int .u8 0, .slice none 0 0] rfl
      have hb2 : Below w1.heap.size w1 ((w1.alloc (.cells #[.int .u8 0, .slice none 0 0] 88)).setRow w1.heap.size #[.int .u8 (rk.toNat : Nat), .slice A1 rd.length c1]) := below_setRow ((Below.refl _ w1).alloc (Nat.le_refl _) _) (Nat.le_refl _) _
      have HL1 : Hid (w.heap.size < w1.heap.size) := Lib.hid HT1.out.blk.lt
      have HB2 := Lib.hid (HB1.out.trans (hb2.mono HB1.out.size))
      have HT2 := Lib.hid (HT1.out.below hb2)
      have HOW2 := Lib.hid (own_belowT HOW.out hb2)
      clear hb2 HB1 HT1 HOW
      by_cases he : er = 0
      · have E0 := Lib.hid (HE.out.trans he)
        have hm1 : m = takeEnd (b.drop k) := by rw [← HME.out]; unfold tkEnd; rw [if_pos E0.out]
        have HRC : Hid (takeRec (b.drop k) = (rk, rd)) := Lib.hid (by rw [← HR.out]; unfold tkRec; rw [if_pos E0.out])
        have hle : k + m ≤ n ∧ 9 ≤ m := by
          have h1 := (Rec.takeEnd_le E0.out).2.1
          rw [List.length_drop, ← hm1] at h1
          have h2 := HN.out
          have h9 : 9 ≤ takeEnd (b.drop k) := by unfold takeEnd; omega
          omega
        have HM1 := Lib.hid hm1
        have hrd : rd.length ≤ 4096 := by have := rec_short E0.out; rw [HRC.out] at this; exact this
        obtain ⟨hle1, hle2⟩ := hle
        subst he
        have HTA := Lib.hid (take_all (k := rk) HT2.out HOW2.out HM.out (by have := HO.out; omega) (by omega) (by have := HB2.out.size; exact this))
        clear hm1
        go_wp2_with (first | (refine wpList_put_row rfl rfl 88 _ _ rfl w1.heap.size rfl 88 _ #[.int .u8 (rk.toNat : Nat), .slice A1 rd.length c1] rfl hzr (by rw [infoR]; rfl) rfl (by intro u hu; simp at hu; rcases hu with rfl | rfl <;> rfl) ?_) | (refine wpList_load_row rfl 88 (.tmp 8) rfl w1.heap.size rfl 88 #[.int .u8 (rk.toNat : Nat), .slice A1 rd.length c1] _ _ (hzr.row _) Try.underlying88 rfl (by rw [infoR]; rfl) ?_))
        refine Calls.mono HTA.out ?_
        rintro e w2 ⟨rfl, hb3, vo2, vk2, hT3⟩
        clear HTA hzr HT2 HOW2
        have HB3 := Lib.hid (HB2.out.trans hb3)
        obtain ⟨⟨⟨q1, q2⟩, qw, qe⟩, hq⟩ : ∃ q, Bat.take s (rk, rd) = q := ⟨_, rfl⟩
        rw [hq] at hT3 ⊢
        dsimp only at hT3 ⊢
        have HQ : Hid (Bat.take s (takeRec (b.drop k)) = ((q1, q2), qw, qe)) := Lib.hid (by rw [HRC.out, hq])
        have HT3 := Lib.hid hT3
        obtain ⟨Ao, co, hvo, hl1, hl2, hr3⟩ := hT3.outs.out
        subst hvo
        have HR3 := Lib.hid (And.intro hr3 (Exists.intro _ hT3.outs))
        have f0 := Blk.at_ hT3.blk 0 rfl
        clear hb3 hT3 hq hr3 HB2
        by_cases hqe : qe = 0
        · subst hqe
          have HNX := Lib.hid (HS.out.next E0.out HQ.out rfl)
          have HM2 : Hid (q2.length ≤ 1024) := Lib.hid (by have := Bat.take_kept (s := s) (r := takeRec (b.drop k)) HM.out; rw [HQ.out] at this; exact this)
          have HO2 : Hid (q1.length ≤ k + m) := Lib.hid (by have := Bat.take_bound (s := s) (r := takeRec (b.drop k)) HO.out; rw [HQ.out] at this; dsimp only at this; omega)
          rw [← HM1.out] at HNX
          dsimp only at HNX
          clear f0 HR3 HQ HRC HM1 HS HM HO E0 HE HME HR
          cases qw
          · go_wp2_with fail
            go_roundw
            case rel => exact ⟨k + m, te, (q1, q2), _, _, hle1, hto, by go_num, rfl, HNX, HT3, HB3, HM2, HO2⟩
            case measure => simp [intOf]; omega
          · go_wp2_with fail
            go_roundw
            case rel => exact ⟨k + m, k + m, (q1, q2), _, _, hle1, hle1, by go_num, by go_num, HNX, HT3, HB3, HM2, HO2⟩
            case measure => simp [intOf]; omega
        · have hqe2 : qe = 34 := by
            have := take_err s (takeRec (b.drop k)); rw [HQ.out] at this; exact this.resolve_left hqe
          subst hqe2
          have HST := Lib.hid (HS.out.bad E0.out HQ.out (show (34 : Nat) ≠ 0 by decide))
          have HSS : Hid (q1 = s.1) := Lib.hid (by have := take_bad (s := s) (r := takeRec (b.drop k)) (by rw [HQ.out]; show (34 : Nat) ≠ 0; decide); rw [HQ.out] at this; dsimp only at this; rw [← this])
          rw [← HSS.out] at HST
          clear HQ HRC HM1 HS HM HO E0 HE HME HR hqe
          go_wp2_with fail
          go_ret3
          exact scan_out HST.out hl1 hl2 HR3.out HB3.out rfl
      · have hst := Lib.hid (HS.out.stop HK.out (by rw [HE.out]; exact he))
        rw [HE.out] at hst
        obtain ⟨Ao, co, hvo, hl1, hl2, hr3⟩ := HT2.out.outs.out
        subst hvo
        have HR3 := Lib.hid (And.intro hr3 (Exists.intro _ HT2.out.outs))
        have f0 := Blk.at_ HT2.out.blk 0 rfl
        have hne : ((er : Int) != 0) = true := by rw [bne_iff_ne]; omega
        have hgg : ¬ w.heap.size = w1.heap.size := by have := HL1.out; omega
        clear hr3 he HS HM HO HE HME HR HOW2 HT2
        go_wp2_with (refine wpList_put_row rfl rfl 88 _ _ rfl w1.heap.size rfl 88 _ #[.int .u8 (rk.toNat : Nat), .slice A1 rd.length c1] rfl hzr (by rw [infoR]; rfl) rfl (by intro u hu; simp at hu; rcases hu with rfl | rfl <;> rfl) ?_)
        go_ret3
        exact scan_out hst.out hl1 hl2 HR3.out HB2.out rfl
    · obtain rfl : k = n := by omega
      have hfu := Lib.hid (HS.out.full (by have := HN.out; omega))
      obtain ⟨Ao, co, hvo, hl1, hl2, hr3⟩ := HT.out.outs.out
      obtain ⟨Ak, ck, hvk, hk1, hk2, hrk⟩ := HT.out.kept.reads
      subst hvo hvk
      have HR3 := Lib.hid (And.intro hr3 (Exists.intro _ HT.out.outs))
      have f0 := Blk.at_ HT.out.blk 0 rfl
      have f1 := Blk.at_ HT.out.blk 1 rfl
      clear hr3 HS HT hrk
      obtain ⟨nk, hnk⟩ : ∃ x, x = s.2.length := ⟨_, rfl⟩
      rw [← hnk] at f1 hfu hk1
      clear hnk
      by_cases h0 : 0 < nk
      · have u1 : (0 : Int) < (nk : Int) := by omega
        rw [if_pos h0] at hfu
        go_wp2_with fail
        go_ret3
        exact scan_out hfu.out hl1 hl2 HR3.out HB.out rfl
      · have u1 : ¬ (0 : Int) < (nk : Int) := by omega
        rw [if_neg h0] at hfu
        go_wp2_with fail
        go_ret3
        exact scan_out hfu.out hl1 hl2 HR3.out HB.out rfl
end Go.Proofs.Ytmkijkkddoamgaa.BatW

namespace Go.Proofs.Ytmkijkkddoamgaa.BatW
set_option linter.unusedVariables false
open Go.RowKit Go.Proofs Go.Proofs.Ytmkijkkddoamgaa Go.Proofs.Ytmkijkkddoamgaa.Wd Go.Proofs.Ytmkijkkddoamgaa.RecW
open Go.Proofs.Ytmkijkkddoamgaa.Rec (R flat flat_append flat_one allFine allFine_get putErr longOf)
open Go.Proofs.Ytmkijkkddoamgaa.Bat (B cnt long wrong recs put rowsLong longB)

/-- What is put of rows. -/
def PutOut (w : World) (b : B) (e : Ending) (w' : World) : Prop :=
  ∃ A c, e = .returned (.tuple #[.slice A (put b).length c, .int .i64 (wrong b : Nat)]) ∧ Below w.heap.size w w' ∧ (put b).length ≤ c ∧ c ≤ maxLen ∧ w'.ownsRow w.heap.size 5 1 (.slice A (put b).length c) (put b).length (bs (put b))
/-- The records of the first rows. -/
def rec1 (b : B) : List R := b.map fun d => ((1 : UInt8), d)
theorem rec1_snoc {b : B} {k : Nat} (h : k < b.length) : flat (rec1 (b.take (k + 1))) = flat (rec1 (b.take k)) ++ Rec.bytes (1, b[k]) := by
  unfold rec1
  rw [List.take_succ_eq_append_getElem h, List.map_append, flat_append]
  congr 1
  exact flat_one _
theorem u1 : ((((1 : UInt8).toNat : Nat)) : Int) = 1 := rfl
theorem u2 : ((((2 : UInt8).toNat : Nat)) : Int) = 2 := rfl
theorem putL_row {d : List UInt8} (h : d.length ≤ 4096) : putL (1, d) = Rec.bytes (1, d) ∧ putErr ((1 : UInt8), d) = 0 := by
  have : putErr ((1 : UInt8), d) = 0 := by unfold putErr; rw [if_pos (show Rec.fine 1 = true from Bat.fine1), if_pos h]
  exact ⟨by unfold putL; rw [if_pos this], this⟩
theorem putL_end (n : Nat) : putL (2, cnt n) = Rec.bytes (2, cnt n) ∧ putErr ((2 : UInt8), cnt n) = 0 := by
  have : putErr ((2 : UInt8), cnt n) = 0 := by unfold putErr; rw [if_pos (show Rec.fine 2 = true from Bat.fine2), if_pos (by show (cnt n).length ≤ 4096; rw [Bat.cnt_length]; decide)]
  exact ⟨by unfold putL; rw [if_pos this], this⟩
theorem put_ok {b : B} (h : wrong b = 0) : put b = flat (rec1 b) ++ Rec.bytes (2, cnt b.length) := by
  unfold put recs rec1
  rw [if_pos h, flat_append, flat_one]

set_option maxRecDepth 100000 in
set_option maxHeartbeats 2000000 in
theorem bput_any (A : Option Addr) (n c : Nat) (b : B) (hn : n = b.length) (hnc : n ≤ maxLen) (w : World) (hI : BRows w w.heap.size A b) :
    Calls Try.prog 14 #[.slice A n c] w (PutOut w b) := by
  obtain ⟨i0, hi0, hz0, hz1, hz2⟩ := info_parts infoU8
  have HWR := Lib.hid (wrong_any A n c b hn hnc w hI)
  have HN := Lib.hid hn
  unfold maxLen at hnc
  clear hn
  by_cases h0 : wrong b = 0
  · obtain ⟨hb0, hb1, hb2⟩ := Bat.wrong_zero h0
    have HS := Lib.hid hb2
    have HOK := Lib.hid (put_ok h0)
    have H0 := Lib.hid h0
    have hn1 : n ≤ 1024 := by have := HN.out; omega
    rw [h0] at HWR
    clear h0 hb2 hb0 hb1
    go_enter Try.func14, Try.ntmps14
    go_wp2_with fail
    refine Calls.mono HWR.out ?_
    rintro e w' ⟨rfl, rfl⟩
    clear HWR
    go_wp2_with fail
    go_loopw [5, 19] (fun v i wr => ∃ (k : Nat) (l : List UInt8), k ≤ n ∧ i = .int .i64 k ∧ Hid (l = flat (rec1 (b.take k))) ∧ l.length ≤ k * 4105 ∧ wr.ownsRow w.heap.size 5 1 v l.length (bs l) ∧ Below w.heap.size w wr) (fun _ i _ => n - (intOf i).toNat)
    case atStart => exact ⟨0, [], Nat.zero_le _, rfl, Lib.hid rfl, Nat.le_refl _, own_nil _ _ _, Below.refl _ _⟩
    case round =>
      obtain ⟨k, l, hk, rfl, hT, hll, ho, hB⟩ := hrel
      by_cases hlt : k < n
      · have hkl : k < b.length := by have := HN.out; omega
        obtain ⟨bb, off, v0, A', c', rfl, hbb, hc, rfl, h1, h2, h3⟩ := hI.lt hkl
        have hsh := Bat.short_get HS.out hkl
        have HE := Lib.hid (rec1_snoc hkl)
        rw [← hT.out] at HE
        generalize b[k] = d at *
        have hc' := (hB.cell (p := ⟨bb, _, none⟩) hbb).trans hc
        have hd' : Bytes wr wr.heap.size A' d := (Row.below h3 hB).more hB.size
        have i1 : (0 : Int) ≤ (k : Int) := by omega
        have i2 : (k : Int) < (n : Int) := by omega
        have HP := put_any 1 A' c' d d.length rfl wr hd'
        simp only [u1] at HP
        obtain ⟨e1, e2⟩ := putL_row hsh
        have E1 := Lib.hid e1
        have E2 := Lib.hid e2
        clear hc h3 hd' e1 e2 hT
        go_wp2_with fail
        refine Calls.mono HP ?_
        rintro e w1 hw
        obtain ⟨A1, c1, rfl, hb1, h4, h5, ho1⟩ := hw.out
        rw [E1.out] at *
        rw [E2.out]
        have hlen : (Rec.bytes ((1 : UInt8), d)).length = d.length + 9 := Rec.bytes_length _
        have ho' := own_below ho hb1
        have hB1 := hB.trans (hb1.mono hB.size)
        obtain ⟨A2, c2, ee, hr⟩ := own_slice ho1
        cases ee
        generalize Rec.bytes ((1 : UInt8), d) = x at *
        have hxl : x.length ≤ 4105 := by omega
        clear hlen hw HP ho E1 E2
        go_wp2_with (at_builtin; refine wpList_append_row _ rfl (.tmp 29) (.tmp 30) _ rfl w.heap.size 5 i0 _ 1 Try.underlying23 hi0 hz0 hz1 hz2 rfl _ l.length (bs l) rfl ho' w1.heap.size A1 x.length c1 (bs x) rfl (bs_length x).symm (by exact hr) (bs_one x) (by unfold maxLen; omega) (by omega) hB1.size ?_)
        intro v1 w2 hown hgrow _ _
        have hB2 : Below w.heap.size w w2 := hB1.grown hgrow hB1.size (fun g hg => (own_row ho' hg).1)
        have HO : Hid (w2.ownsRow w.heap.size 5 1 v1 (l ++ x).length (bs (l ++ x))) := Lib.hid (by rw [List.length_append, bs_append]; exact hown)
        have HL : Hid ((l ++ x).length ≤ (k + 1) * 4105) := Lib.hid (by rw [List.length_append]; omega)
        have HT : Hid (l ++ x = flat (rec1 (b.take (k + 1)))) := Lib.hid HE.out.symm
        clear hown hgrow ho' hr ho1 HE
        go_wp2_with fail
        go_roundw
        case rel => exact ⟨k + 1, l ++ x, by omega, by go_num, HT, HL.out, HO.out, hB2⟩
        case measure => simp [intOf]; omega
      · obtain rfl : k = n := by omega
        have HT : Hid (l = flat (rec1 b)) := Lib.hid (by have := hT.out; rwa [List.take_of_length_le (by have := HN.out; omega)] at this)
        have HC := fun W => count_any k (by omega) W
        have HPE := Lib.hid (putL_end b.length)
        rw [← HN.out] at HPE HOK
        rw [← HT.out] at HOK
        clear hT HT
        go_wp2_with fail
        refine Calls.mono (HC _) ?_
        rintro e w1 ⟨rfl, rfl⟩
        have hbc : Bytes (wr.alloc (.cells (bs (cnt k)).toArray 5)) (wr.heap.size + 1) (some ⟨wr.heap.size, 0, none⟩) (cnt k) := Bytes.new_ wr 5 (bs (cnt k)).toArray (0, 0) (cnt k) (by simp) rfl (by omega)
        have hBa : Below w.heap.size w (wr.alloc (.cells (bs (cnt k)).toArray 5)) := hB.alloc hB.size _
        have hoa := ho.alloc (.cells (bs (cnt k)).toArray 5)
        have hsz : (wr.alloc (.cells (bs (cnt k)).toArray 5)).heap.size = wr.heap.size + 1 := by simp
        have HP := put_any 2 (some ⟨wr.heap.size, 0, none⟩) 2 (cnt k) 2 rfl (wr.alloc (.cells (bs (cnt k)).toArray 5)) (by rw [hsz]; exact hbc)
        simp only [u2] at HP
        generalize wr.alloc (.cells (bs (cnt k)).toArray 5) = wa at *
        clear hbc HC hsz
        go_wp2_with fail
        refine Calls.mono HP ?_
        rintro e w1 hw
        obtain ⟨A1, c1, rfl, hb1, h4, h5, ho1⟩ := hw.out
        rw [HPE.out.1] at *
        rw [HPE.out.2]
        have hlen : (Rec.bytes ((2 : UInt8), cnt k)).length = 11 := Rec.bytes_length _
        have ho' := own_below hoa hb1
        have hB1 := hBa.trans (hb1.mono hBa.size)
        obtain ⟨A2, c2, ee, hr⟩ := own_slice ho1
        cases ee
        generalize Rec.bytes ((2 : UInt8), cnt k) = x at *
        have hxl : x.length ≤ 4105 := by omega
        clear hlen hw HP ho hoa
        go_wp2_with (at_builtin; refine wpList_append_row _ rfl (.tmp 41) (.tmp 42) _ rfl w.heap.size 5 i0 _ 1 Try.underlying23 hi0 hz0 hz1 hz2 rfl _ l.length (bs l) rfl ho' w1.heap.size A1 x.length c1 (bs x) rfl (bs_length x).symm (by exact hr) (bs_one x) (by unfold maxLen; omega) (by omega) hB1.size ?_)
        intro v1 w2 hown hgrow _ _
        have hB2 : Below w.heap.size w w2 := hB1.grown hgrow hB1.size (fun g hg => (own_row ho' hg).1)
        have HO : Hid (w2.ownsRow w.heap.size 5 1 v1 (l ++ x).length (bs (l ++ x))) := Lib.hid (by rw [List.length_append, bs_append]; exact hown)
        clear hown hgrow ho' hr ho1
        go_wp2_with fail
        go_ret2
        obtain ⟨A3, c3, rfl, h6, _, _⟩ := own_bytes HO.out
        have h7 := own_cap HO.out
        refine ⟨A3, c3, ?_, hB2, ?_, h7, ?_⟩
        · rw [HOK.out, H0.out]; rfl
        · rw [HOK.out]; exact h6
        · rw [HOK.out]; exact HO.out
  · have hp := Lib.hid (show put b = [] by unfold put; rw [if_neg h0])
    have hne : (((wrong b : Nat) : Int) != 0) = true := by rw [bne_iff_ne]; omega
    obtain ⟨x, hx⟩ : ∃ x, x = wrong b := ⟨_, rfl⟩
    rw [← hx] at HWR hne
    have HX := Lib.hid hx
    clear hx h0
    go_enter Try.func14, Try.ntmps14
    go_wp2_with fail
    refine Calls.mono HWR.out ?_
    rintro e w' ⟨rfl, rfl⟩
    clear HWR
    go_wp2_with fail
    go_ret2
    refine ⟨none, 0, ?_, Below.refl _ _, ?_, by simp [maxLen], ?_⟩
    · rw [hp.out, ← HX.out]; rfl
    · rw [hp.out]; exact Nat.le_refl _
    · rw [hp.out]; exact own_nil _ _ _
end Go.Proofs.Ytmkijkkddoamgaa.BatW

namespace Go.Proofs.Ytmkijkkddoamgaa.BatW
set_option linter.unusedVariables false
open Go.RowKit Go.Proofs Go.Proofs.Ytmkijkkddoamgaa Go.Proofs.Ytmkijkkddoamgaa.Wd Go.Proofs.Ytmkijkkddoamgaa.RecW
open Go.Proofs.Ytmkijkkddoamgaa.Rec (R flat flat_append flat_one allFine allFine_get putErr longOf)
open Go.Proofs.Ytmkijkkddoamgaa.Bat (B cnt long wrong recs put rowsLong longB)

theorem longOf_row {d : List UInt8} (h : d.length ≤ 4096) : longOf (d.length : Int) = 9 + (d.length : Int) := by unfold longOf; rw [if_pos (by omega)]
set_option maxRecDepth 100000 in
set_option maxHeartbeats 1000000 in
theorem blong_any (A : Option Addr) (n c : Nat) (b : B) (hn : n = b.length) (hnc : n ≤ maxLen) (w : World) (hI : BRows w w.heap.size A b) :
    Calls Try.prog 25 #[.slice A n c] w fun e w' => e = .returned (.tuple #[.int .i64 (longB b : Nat), .int .i64 (wrong b : Nat)]) ∧ w = w' := by
  have HWR := Lib.hid (wrong_any A n c b hn hnc w hI)
  have HN := Lib.hid hn
  unfold maxLen at hnc
  clear hn
  by_cases h0 : wrong b = 0
  · obtain ⟨hb0, hb1, hb2⟩ := Bat.wrong_zero h0
    have HS := Lib.hid hb2
    have HOK := Lib.hid (show longB b = 11 + rowsLong b by unfold longB; rw [if_pos h0])
    have H0 := Lib.hid h0
    have hn1 : n ≤ 1024 := by have := HN.out; omega
    rw [h0] at HWR
    have H2 := fun W => long_any 2 (by decide) (by decide) W
    simp only [show longOf 2 = 11 from rfl] at H2
    clear h0 hb2 hb0 hb1
    go_enter Try.func25, Try.ntmps25
    go_wp2_with fail
    refine Calls.mono HWR.out ?_
    rintro e w' ⟨rfl, rfl⟩
    clear HWR
    go_wp2_with fail
    refine Calls.mono (H2 _) ?_
    rintro e w' ⟨rfl, rfl⟩
    clear H2
    go_wp2_with fail
    go_loop [5, 16] (fun v i => ∃ (k m : Nat), k ≤ n ∧ i = .int .i64 k ∧ v = .int .i64 m ∧ Hid (m = 11 + rowsLong (b.take k)) ∧ m ≤ 11 + k * 4105) (fun _ i => n - (intOf i).toNat)
    case atStart => exact ⟨0, 11, Nat.zero_le _, rfl, rfl, Lib.hid rfl, by omega⟩
    case round =>
      obtain ⟨k, m, hk, rfl, rfl, hT, hm⟩ := hrel
      by_cases hlt : k < n
      · have hkl : k < b.length := by have := HN.out; omega
        obtain ⟨bb, off, v0, A', c', rfl, hbb, hc, rfl, h1, h2, h3⟩ := hI.lt hkl
        have hsh := Bat.short_get HS.out hkl
        have HE := Lib.hid (Bat.rowsLong_take hkl)
        generalize b[k] = d at *
        have i1 : (0 : Int) ≤ (k : Int) := by omega
        have i2 : (k : Int) < (n : Int) := by omega
        have HP := long_any (d.length : Int) (by omega) (by omega) w
        rw [longOf_row hsh] at HP
        clear h3
        go_wp2_with fail
        refine Calls.mono HP ?_
        rintro e w' ⟨rfl, rfl⟩
        clear HP
        have HT : Hid (m + (9 + d.length) = 11 + rowsLong (b.take (k + 1))) := Lib.hid (by rw [HE.out, hT.out]; omega)
        clear hT HE
        go_wp2_with fail
        go_round
        case rel => exact ⟨k + 1, m + (9 + d.length), by omega, by go_num, by go_num, HT, by omega⟩
        case measure => simp [intOf]; omega
      · obtain rfl : k = n := by omega
        have HT : Hid (m = 11 + rowsLong b) := Lib.hid (by have := hT.out; rwa [List.take_of_length_le (by have := HN.out; omega)] at this)
        clear hT
        go_wp2_with fail
        go_ret2
        exact ⟨by rw [HOK.out, H0.out, HT.out]; rfl, rfl⟩
  · have hp := Lib.hid (show longB b = 0 by unfold longB; rw [if_neg h0])
    have hne : (((wrong b : Nat) : Int) != 0) = true := by rw [bne_iff_ne]; omega
    obtain ⟨x, hx⟩ : ∃ x, x = wrong b := ⟨_, rfl⟩
    rw [← hx] at HWR hne
    have HX := Lib.hid hx
    clear hx h0
    go_enter Try.func25, Try.ntmps25
    go_wp2_with fail
    refine Calls.mono HWR.out ?_
    rintro e w' ⟨rfl, rfl⟩
    clear HWR
    go_wp2_with fail
    go_ret2
    exact ⟨by rw [hp.out, ← HX.out]; rfl, rfl⟩

/-- How many bytes there are in rows. -/
def bytesOf (b : B) : Nat := (b.map List.length).sum
theorem bytesOf_take {b : B} {k : Nat} (h : k < b.length) : bytesOf (b.take (k + 1)) = bytesOf (b.take k) + b[k].length := by
  unfold bytesOf; rw [List.take_succ_eq_append_getElem h, List.map_append, List.sum_append]; simp
theorem bytesOf_bound {b : B} (h : ∀ d ∈ b, d.length ≤ 140737488351232) : bytesOf b ≤ b.length * 140737488351232 := by
  induction b with
  | nil => simp [bytesOf]
  | cons d t ih =>
    have h1 := h d (List.mem_cons_self ..)
    have h2 := ih fun x hx => h x (List.mem_cons_of_mem _ hx)
    have e : bytesOf (d :: t) = d.length + bytesOf t := by simp [bytesOf]
    rw [e, List.length_cons]; omega
theorem le_bytesOf {b : B} {d : List UInt8} (h : d ∈ b) : d.length ≤ bytesOf b := by
  induction b with
  | nil => cases h
  | cons x t ih =>
    have e : bytesOf (x :: t) = x.length + bytesOf t := by simp [bytesOf]
    rw [e]
    rcases List.mem_cons.1 h with rfl | h
    · omega
    · have := ih h; omega
/-- Few rows, of no more bytes than there may be. -/
def Fit (b : B) : Prop := b.length ≤ 5000 ∧ ∀ d ∈ b, d.length ≤ 140737488351232
theorem Fit.take {b : B} (h : Fit b) (k : Nat) : bytesOf (b.take k) ≤ 703687441756160000 := by
  have := bytesOf_bound (b := b.take k) fun d hd => h.2 d (List.mem_of_mem_take hd)
  have h2 : (b.take k).length ≤ 5000 := by have := h.1; rw [List.length_take]; omega
  omega
/-- A number of bytes: right, if they are few. -/
def Sum (b : B) (w : World) (e : Ending) (w' : World) : Prop := ∃ z : Int, e = .returned (.int .i64 z) ∧ w = w' ∧ -9223372036854775808 ≤ z ∧ z ≤ 9223372036854775807 ∧ (Fit b → z = (bytesOf b : Nat))
theorem wrap_in (z : Int) : -9223372036854775808 ≤ IntKind.i64.wrap z ∧ IntKind.i64.wrap z ≤ 9223372036854775807 := by
  rw [IntKind.wrap_i64]; omega
set_option maxHeartbeats 1000000 in
theorem bytesof_any (A : Option Addr) (n c : Nat) (b : B) (hn : n = b.length) (hnc : n ≤ maxLen) (w : World) (hI : BRows w w.heap.size A b) :
    Calls Try.prog 19 #[.slice A n c] w (Sum b w) := by
  have HN := Lib.hid hn
  unfold maxLen at hnc
  clear hn
  go_enter Try.func19, Try.ntmps19
  go_wp2
  go_loop [3, 8] (fun v i => ∃ (k : Nat) (z : Int), k ≤ n ∧ i = .int .i64 k ∧ v = .int .i64 z ∧ -9223372036854775808 ≤ z ∧ z ≤ 9223372036854775807 ∧ Hid (Fit b → z = (bytesOf (b.take k) : Nat))) (fun _ i => n - (intOf i).toNat)
  case atStart => exact ⟨0, 0, Nat.zero_le _, rfl, rfl, by decide, by decide, Lib.hid fun _ => rfl⟩
  case round =>
    obtain ⟨k, z, hk, rfl, rfl, z1, z2, hT⟩ := hrel
    by_cases hlt : k < n
    · have hkl : k < b.length := by have := HN.out; omega
      obtain ⟨bb, off, v0, A', c', rfl, hbb, hc, rfl, h1, h2, h3⟩ := hI.lt hkl
      have HE := Lib.hid (bytesOf_take hkl)
      generalize b[k] = d at *
      have i1 : (0 : Int) ≤ (k : Int) := by omega
      have i2 : (k : Int) < (n : Int) := by omega
      obtain ⟨z', hz'⟩ : ∃ x, x = IntKind.i64.wrap (z + (d.length : Int)) := ⟨_, rfl⟩
      have w1 := wrap_in (z + (d.length : Int))
      have HZ : Hid (IntKind.i64.wrap (z + (d.length : Int)) = z') := Lib.hid hz'.symm
      have HT : Hid (Fit b → z' = (bytesOf (b.take (k + 1)) : Nat)) := Lib.hid fun h => by
        have b1 := h.take (k + 1)
        rw [hz', hT.out h, HE.out]
        rw [HE.out] at b1
        exact IntWalk.i64_in _ (by omega)
      rw [← hz'] at w1
      clear h3 hT HE hz'
      have hz := HZ.out
      go_wp2_with fail
      go_round
      case rel => exact ⟨k + 1, z', by omega, by go_num, rfl, w1.1, w1.2, HT⟩
      case measure => simp [intOf]; omega
    · obtain rfl : k = n := by omega
      have HT : Hid (Fit b → z = (bytesOf b : Nat)) := Lib.hid (by have := hT.out; rwa [List.take_of_length_le (by have := HN.out; omega)] at this)
      clear hT
      go_wp2_with fail
      go_ret
      exact ⟨z, rfl, rfl, z1, z2, HT.out⟩
end Go.Proofs.Ytmkijkkddoamgaa.BatW

namespace Go.Proofs.Ytmkijkkddoamgaa.Bat
set_option linter.unusedVariables false
open Go.Proofs.Ytmkijkkddoamgaa.Rec

theorem run_shift (e : Nat) (o : List B) (a : Nat) : ∀ (rs : List R) (out : List B) (kept : B) (k te : Nat),
    run e rs (o ++ out, kept) (a + k) (a + te) = (o ++ (run e rs (out, kept) k te).1, a + (run e rs (out, kept) k te).2.1, (run e rs (out, kept) k te).2.2) := by
  intro rs
  induction rs with
  | nil => intro out kept k te; rfl
  | cons r rs ih =>
    intro out kept k te
    have ht : take (o ++ out, kept) r = ((o ++ (take (out, kept) r).1.1, (take (out, kept) r).1.2), (take (out, kept) r).2) := by
      unfold take
      split
      · split <;> rfl
      · split
        · rfl
        · simp
    simp only [run]
    rw [ht]
    dsimp only
    by_cases h : (take (out, kept) r).2.2 = 0
    · have hne : ¬ (take (out, kept) r).2.2 ≠ 0 := by rw [h]; simp
      simp only [if_neg hne]
      have := ih (take (out, kept) r).1.1 (take (out, kept) r).1.2 (k + (r.2.length + 9)) (if (take (out, kept) r).2.1 = true then k + (r.2.length + 9) else te)
      rw [← this]
      congr 1
      · omega
      · split <;> omega
    · simp only [if_pos (show (take (out, kept) r).2.2 ≠ 0 from h)]
theorem run_rows (e : Nat) (out : List B) (te : Nat) (rs : List R) : ∀ (l kept : B) (k : Nat), kept.length + l.length ≤ 1024 →
    run e (l.map (fun d => ((1 : UInt8), d)) ++ rs) (out, kept) k te = run e rs (out, kept ++ l) (k + rowsLong l) te := by
  intro l
  induction l with
  | nil => intro kept k _; simp [rowsLong]
  | cons d t ih =>
    intro kept k h
    simp only [List.length_cons] at h
    have ht : take (out, kept) ((1 : UInt8), d) = ((out, kept ++ [d]), false, 0) := by
      unfold take; rw [if_pos rfl, if_neg (by dsimp only; omega)]
    simp only [List.map_cons, List.cons_append, run]
    rw [ht]
    dsimp only
    rw [if_neg (by simp), if_neg (by simp), ih (kept ++ [d]) _ (by simp; omega), List.append_assoc]
    have : rowsLong (d :: t) = d.length + 9 + rowsLong t := by simp [rowsLong]
    rw [this, Nat.add_assoc]
    rfl
theorem run_put {b : B} (h : wrong b = 0) (e : Nat) (rs : List R) (out : List B) (k te : Nat) :
    run e (recs b ++ rs) (out, []) k te = run e rs (out ++ [b], []) (k + (put b).length) (k + (put b).length) := by
  obtain ⟨h0, h1, h2⟩ := wrong_zero h
  have hp : (put b).length = rowsLong b + 11 := by rw [put_length]; unfold longB; rw [if_pos h]; omega
  unfold recs
  rw [List.append_assoc, run_rows e out te _ b [] k (by simpa using h1)]
  have ht : take (out, [] ++ b) ((2 : UInt8), cnt b.length) = ((out ++ [b], []), true, 0) := by
    unfold take; rw [if_neg (show ¬ (2 : UInt8) = 1 by decide), if_neg (by simp; intro e; subst e; simp at h0)]; simp
  simp only [List.cons_append, List.nil_append, run]
  rw [show (out, b) = (out, [] ++ b) from rfl, ht]
  dsimp only
  rw [if_neg (by simp), if_pos rfl, hp, cnt_length]
  rfl
/-- Batches one behind the other. -/
def writ (l : List B) : List UInt8 := l.flatMap put
def allRight (l : List B) : Bool := l.all fun b => wrong b == 0
theorem writ_snoc (l : List B) (b : B) : writ (l ++ [b]) = writ l ++ put b := by simp [writ]
theorem writ_append (l m : List B) : writ (l ++ m) = writ l ++ writ m := by simp [writ]
theorem scan_put {b : B} (h : wrong b = 0) (more : List UInt8) : scan (put b ++ more) = (b :: (scan more).1, (put b).length + (scan more).2.1, (scan more).2.2) := by
  obtain ⟨h0, h1, h2⟩ := wrong_zero h
  have hp : put b = flat (recs b) := by unfold put; rw [if_pos h]
  unfold scan
  rw [hp, all_flat (recs_fine h2) more]
  dsimp only
  rw [run_put h]
  have := run_shift (all more).2.2 [b] (put b).length (all more).1 [] [] 0 0
  simp only [List.append_nil, Nat.add_zero] at this
  rw [Nat.zero_add, List.nil_append, this, hp]
  rfl
theorem scan_writ {l : List B} (h : allRight l = true) (more : List UInt8) : scan (writ l ++ more) = (l ++ (scan more).1, (writ l).length + (scan more).2.1, (scan more).2.2) := by
  induction l with
  | nil => simp [writ]
  | cons b t ih =>
    unfold allRight at h ih
    simp only [List.all_cons, Bool.and_eq_true, beq_iff_eq] at h
    have e : writ (b :: t) ++ more = put b ++ (writ t ++ more) := by simp [writ]
    have hl : (writ (b :: t)).length = (put b).length + (writ t).length := by simp [writ]
    rw [e, scan_put h.1, ih h.2, hl]
    simp [Nat.add_assoc]
theorem scan_nil : scan [] = ([], 0, 0) := rfl
theorem scan_err {b : List UInt8} (h0 : 0 < b.length) (h : takeErr b ≠ 0) : scan b = ([], 0, takeErr b) := by
  unfold scan
  rw [all_err h0 h]
  simp only [run, if_pos h]
theorem scan_few {b : List UInt8} (h0 : 0 < b.length) (h : b.length < 9) : scan b = ([], 0, 32) := by
  have he : takeErr b = 32 := by unfold takeErr; rw [if_pos h]
  rw [scan_err h0 (by rw [he]; decide), he]
/-- A batch that is cut. -/
theorem scan_cut {b : B} (h : wrong b = 0) {j : Nat} (hj : j < (put b).length) : scan ((put b).take j) = ([], 0, if j = 0 then 0 else 32) := by
  obtain ⟨h0, h1, h2⟩ := wrong_zero h
  have hp : put b = flat (recs b) := by unfold put; rw [if_pos h]
  rw [hp] at hj ⊢
  obtain ⟨hc, hle⟩ := all_cut (recs_fine h2) (k := j) (by omega)
  obtain ⟨W, w1, w2, w3, w4⟩ := cutAt_spec (rs := recs b) j (by omega)
  rw [w2] at hc
  dsimp only at hc
  have hlen : (recs b).length = b.length + 1 := by simp [recs]
  have hW : W ≤ b.length := by
    rcases Nat.lt_or_ge b.length W with hlt | hge
    · have : W = (recs b).length := by omega
      rw [this, List.take_length] at w3; omega
    · exact hge
  have htk : (recs b).take W = (b.take W).map (fun d => ((1 : UInt8), d)) := by
    unfold recs
    rw [List.take_append_of_le_length (by simpa using hW), List.map_take]
  unfold scan
  rw [hc, htk]
  have hrr := run_rows (if (flat ((recs b).take W)).length = j then 0 else 32) [] 0 [] (b.take W) [] 0 (by simp; omega)
  rw [List.append_nil] at hrr
  rw [htk] at hrr
  rw [hrr]
  simp only [run, List.nil_append, List.length_take]
  have hfl : (flat ((b.take W).map (fun d => ((1 : UInt8), d)))).length = rowsLong (b.take W) := flat_rows _
  rw [hfl]
  have hz : W = 0 → rowsLong (b.take W) = 0 := fun e => by subst e; simp [rowsLong]
  have hz2 : 0 < W → 0 < rowsLong (b.take W) := fun e => by
    have : b.take W ≠ [] := by intro e2; have := congrArg List.length e2; rw [List.length_take, List.length_nil] at this; omega
    cases hbt : b.take W with
    | nil => exact absurd hbt this
    | cons d t => simp [rowsLong]; omega
  congr 2
  by_cases hj0 : rowsLong (b.take W) = j
  · rw [if_pos hj0, if_neg (by simp)]
    by_cases hW0 : W = 0
    · rw [if_neg (by omega), if_pos (by have := hz hW0; omega)]
    · rw [if_pos (by omega), if_neg (by have := hz2 (by omega); omega)]
  · rw [if_neg hj0, if_pos (by decide)]
    rw [if_neg (by
      intro e; subst e
      rw [htk, hfl] at w3; omega)]
end Go.Proofs.Ytmkijkkddoamgaa.Bat
