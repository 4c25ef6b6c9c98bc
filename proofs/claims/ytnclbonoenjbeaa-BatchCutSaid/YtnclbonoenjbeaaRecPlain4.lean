/-
  Records written one behind the other.
-/
import Derived.Test.YtnclbonoenjbeaaRecPlain3
namespace Go.Proofs.Ytnclbonoenjbeaa.Rec

def flat (rs : List R) : List UInt8 := rs.flatMap bytes
def ends : Nat → List R → List Nat
  | _, [] => []
  | s, r :: t => (s + (bytes r).length) :: ends (s + (bytes r).length) t
def allFine (rs : List R) : Bool := rs.all fun r => putErr r == 0
def weight (rs : List R) : Nat := (rs.map fun r => r.2.length + 9).sum
theorem flat_append (a b : List R) : flat (a ++ b) = flat a ++ flat b := by simp [flat]
theorem flat_one (r : R) : flat [r] = bytes r := by simp [flat]
theorem flat_length (rs : List R) : (flat rs).length = weight rs := by
  induction rs with
  | nil => rfl
  | cons r t ih =>
    rw [show flat (r :: t) = bytes r ++ flat t by simp [flat], List.length_append, ih, bytes_length]
    simp [weight]
theorem weight_append (a b : List R) : weight (a ++ b) = weight a + weight b := by simp [weight]
theorem weight_take (rs : List R) (k : Nat) : weight (rs.take k) ≤ weight rs := by
  have := weight_append (rs.take k) (rs.drop k)
  rw [List.take_append_drop] at this; omega
theorem length_le_weight (rs : List R) : rs.length * 9 ≤ weight rs := by
  induction rs with
  | nil => simp
  | cons r t ih => simp [weight] at ih ⊢; omega
theorem ends_length (s : Nat) (rs : List R) : (ends s rs).length = rs.length := by
  induction rs generalizing s with
  | nil => rfl
  | cons r t ih => simp [ends, ih]
theorem ends_snoc (s : Nat) (rs : List R) (r : R) : ends s (rs ++ [r]) = ends s rs ++ [s + (flat (rs ++ [r])).length] := by
  induction rs generalizing s with
  | nil => simp [ends, flat]
  | cons x t ih =>
    simp only [List.cons_append, ends, ih]
    congr 3
    simp [flat]; omega
theorem ends_get (rs : List R) (k : Nat) (hk : k < rs.length) : (ends 0 rs)[k]'(by rw [ends_length]; exact hk) = (flat (rs.take (k + 1))).length := by
  have key : ∀ (s : Nat) (rs : List R) (k : Nat) (hk : k < rs.length), (ends s rs)[k]'(by rw [ends_length]; exact hk) = s + (flat (rs.take (k + 1))).length := by
    intro s rs
    induction rs generalizing s with
    | nil => intro k hk; simp at hk
    | cons x t ih =>
      intro k hk
      cases k with
      | zero => simp [ends, flat]
      | succ k =>
        simp only [ends, List.getElem_cons_succ, List.take_succ_cons]
        rw [ih _ k (by simpa using hk)]
        simp [flat]; omega
  simpa using key 0 rs k hk
theorem allFine_take {rs : List R} (h : allFine rs = true) (k : Nat) : allFine (rs.take k) = true := by
  unfold allFine at *
  rw [List.all_eq_true] at *
  exact fun r hr => h r (List.mem_of_mem_take hr)
theorem allFine_get {rs : List R} (h : allFine rs = true) (k : Nat) (hk : k < rs.length) : putErr rs[k] = 0 := by
  unfold allFine at h
  rw [List.all_eq_true] at h
  simpa using h rs[k] (List.getElem_mem hk)
theorem not_allFine {rs : List R} {k : Nat} (hk : k < rs.length) (h : putErr rs[k] ≠ 0) : allFine rs = false := by
  rw [Bool.eq_false_iff]
  exact fun hf => h (allFine_get hf k hk)
theorem allFine_snoc {rs : List R} {k : Nat} (hk : k < rs.length) (h : allFine (rs.take k) = true) (h2 : putErr rs[k] = 0) : allFine (rs.take (k + 1)) = true := by
  rw [List.take_succ_eq_append_getElem hk]
  unfold allFine at *
  rw [List.all_append, h]; simp [h2]
/-- All records of records put one behind the other, whatever stands behind. -/
theorem all_flat {rs : List R} (h : allFine rs = true) (more : List UInt8) : all (flat rs ++ more) = (rs ++ (all more).1, (flat rs).length + (all more).2.1, (all more).2.2) := by
  induction rs with
  | nil => simp [flat]
  | cons r t ih =>
    unfold allFine at h
    simp only [List.all_cons, Bool.and_eq_true, beq_iff_eq] at h
    have h1 := take_bytes h.1 (flat t ++ more)
    have e : flat (r :: t) ++ more = bytes r ++ (flat t ++ more) := by simp [flat]
    rw [e, all_ok h1.1, h1.2.1, h1.2.2, List.drop_left, ih h.2]
    have hl : (flat (r :: t)).length = (bytes r).length + (flat t).length := by simp [flat]
    simp [hl, Nat.add_assoc]
/-- What was taken is what was put. -/
theorem bytes_take {b : List UInt8} (h : takeErr b = 0) : putErr (takeRec b) = 0 ∧ bytes (takeRec b) = b.take (takeEnd b) := by
  obtain ⟨h9, hle, h4096, hsum, hf⟩ := takeEnd_le h
  have hd : (takeRec b).2.length = number (b.drop 5) := by
    unfold takeRec; simp only [List.length_drop, List.length_take]; unfold takeEnd at *; omega
  have hk : (takeRec b).1 = b.getD 4 0 := rfl
  refine ⟨by unfold putErr; rw [hk, hf, if_pos rfl, hd, if_pos h4096], ?_⟩
  have e9 : 9 ≤ takeEnd b := by unfold takeEnd; omega
  have four_of : ∀ l : List UInt8, 4 ≤ l.length → four (number l) = l.take 4 := fun l hl => by
    rcases l with _ | ⟨x0, _ | ⟨x1, _ | ⟨x2, _ | ⟨x3, r⟩⟩⟩⟩
    · simp at hl
    · simp at hl
    · simp at hl
    · simp at hl
    · have : number (x0 :: x1 :: x2 :: x3 :: r) = number [x0, x1, x2, x3] := by simp [number]
      rw [this, four_number]; rfl
  have hrest : rest (takeRec b) = (b.take (takeEnd b)).drop 4 := by
    unfold rest
    rw [hd, four_of (b.drop 5) (by rw [List.length_drop]; omega), hk]
    show b.getD 4 0 :: ((b.drop 5).take 4 ++ (b.take (takeEnd b)).drop 9) = _
    have h4 : (b.take (takeEnd b)).drop 4 = b.getD 4 0 :: (b.take (takeEnd b)).drop 5 := by
      rw [List.drop_eq_getElem_cons (by rw [List.length_take]; omega)]
      congr 1
      simp [show 4 < b.length by omega]
    have h5 : (b.take (takeEnd b)).drop 5 = (b.drop 5).take 4 ++ (b.take (takeEnd b)).drop 9 := by
      have := (List.take_append_drop 4 ((b.take (takeEnd b)).drop 5)).symm
      rw [List.drop_drop] at this
      rw [this]
      congr 1
      rw [List.drop_take, List.take_take]
      congr 1
      omega
    rw [h4, h5]
  unfold bytes
  rw [hrest, hsum, four_of b (by omega)]
  have := List.take_append_drop 4 (b.take (takeEnd b))
  rw [List.take_take, Nat.min_eq_left (by omega)] at this
  exact this
/-- What All tells of any bytes is what was put, byte by byte. -/
theorem all_any_bytes (n : Nat) : ∀ b : List UInt8, b.length ≤ n → allFine (all b).1 = true ∧ flat (all b).1 = b.take (all b).2.1 ∧ (all b).2.1 ≤ b.length ∧ ((all b).2.2 = 0 ↔ (all b).2.1 = b.length) := by
  induction n with
  | zero =>
    intro b hb
    have : b = [] := List.eq_nil_of_length_eq_zero (by omega)
    subst this
    simp [all_nil, allFine, flat]
  | succ n ih =>
    intro b hb
    by_cases h0 : b.length = 0
    · have : b = [] := List.eq_nil_of_length_eq_zero h0
      subst this
      simp [all_nil, allFine, flat]
    by_cases he : takeErr b = 0
    · obtain ⟨h9, hle, _, _, _⟩ := takeEnd_le he
      have e9 : 9 ≤ takeEnd b := by unfold takeEnd; omega
      obtain ⟨i1, i2, i3, i4⟩ := ih (b.drop (takeEnd b)) (by rw [List.length_drop]; omega)
      obtain ⟨p1, p2⟩ := bytes_take he
      rw [List.length_drop] at i3 i4
      rw [all_ok he]
      refine ⟨?_, ?_, by dsimp only; omega, ?_⟩
      · unfold allFine at i1 ⊢
        simp [p1, i1]
      · show flat (takeRec b :: _) = _
        rw [show flat (takeRec b :: (all (b.drop (takeEnd b))).1) = bytes (takeRec b) ++ flat (all (b.drop (takeEnd b))).1 by simp [flat], p2, i2]
        dsimp only
        rw [List.take_add]
      · dsimp only
        rw [i4]; omega
    · rw [all_err (by omega) he]
      exact ⟨rfl, rfl, Nat.zero_le _, ⟨fun h => absurd h he, fun h => absurd h.symm h0⟩⟩
end Go.Proofs.Ytnclbonoenjbeaa.Rec
