/-
  All records of bytes, plainly.
-/
import Derived.Test.YtnclbonoenjbeaaRecPlain
namespace Go.Proofs.Ytnclbonoenjbeaa.Rec

def allF : Nat → List UInt8 → List R × Nat × Nat
  | 0, _ => ([], 0, 0)
  | f + 1, b => if b.length = 0 then ([], 0, 0) else if takeErr b ≠ 0 then ([], 0, takeErr b) else
      (takeRec b :: (allF f (b.drop (takeEnd b))).1, takeEnd b + (allF f (b.drop (takeEnd b))).2.1, (allF f (b.drop (takeEnd b))).2.2)
theorem allF_enough : ∀ (f g : Nat) (b : List UInt8), b.length ≤ f → b.length ≤ g → allF f b = allF g b := by
  intro f
  induction f with
  | zero =>
    intro g b hf _
    have h0 : b.length = 0 := by omega
    cases g with
    | zero => rfl
    | succ g => simp [allF, h0]
  | succ f ih =>
    intro g b hf hg
    cases g with
    | zero =>
      have h0 : b.length = 0 := by omega
      simp [allF, h0]
    | succ g =>
      unfold allF
      have h9 : 9 ≤ takeEnd b := by unfold takeEnd; omega
      by_cases h0 : b.length = 0
      · rw [if_pos h0, if_pos h0]
      · rw [if_neg h0, if_neg h0, ih g (b.drop (takeEnd b)) (by simp; omega) (by simp; omega)]
/-- All records of bytes, where they end, and the error there. -/
def all (b : List UInt8) : List R × Nat × Nat := allF b.length b
theorem all_nil : all [] = ([], 0, 0) := rfl
theorem all_err {b : List UInt8} (h0 : 0 < b.length) (h : takeErr b ≠ 0) : all b = ([], 0, takeErr b) := by
  unfold all
  obtain ⟨n, hn⟩ : ∃ n, b.length = n + 1 := ⟨b.length - 1, by omega⟩
  rw [hn, allF, if_neg (by omega), if_pos h]
theorem all_ok {b : List UInt8} (h : takeErr b = 0) : all b = (takeRec b :: (all (b.drop (takeEnd b))).1, takeEnd b + (all (b.drop (takeEnd b))).2.1, (all (b.drop (takeEnd b))).2.2) := by
  have h9 := (takeEnd_le h).1
  have he : 9 ≤ takeEnd b := by unfold takeEnd; omega
  unfold all
  obtain ⟨n, hn⟩ : ∃ n, b.length = n + 1 := ⟨b.length - 1, by omega⟩
  rw [hn, allF, if_neg (by omega), if_neg (by simp [h]), allF_enough n (b.drop (takeEnd b)).length _ (by simp; omega) (Nat.le_refl _)]
/-- So far: the records ahead of a place, and what is told of the rest. -/
def Reach (b : List UInt8) (pre : List R) (at_ : Nat) : Prop :=
  at_ ≤ b.length ∧ all b = (pre ++ (all (b.drop at_)).1, at_ + (all (b.drop at_)).2.1, (all (b.drop at_)).2.2)
theorem Reach.start (b : List UInt8) : Reach b [] 0 := ⟨Nat.zero_le _, by simp⟩
theorem Reach.next {b : List UInt8} {pre : List R} {at_ : Nat} (h : Reach b pre at_) (he : takeErr (b.drop at_) = 0) : Reach b (pre ++ [takeRec (b.drop at_)]) (at_ + takeEnd (b.drop at_)) := by
  obtain ⟨h1, h2⟩ := h
  have hl := (takeEnd_le he).2.1
  rw [List.length_drop] at hl
  have h3 := all_ok he
  rw [List.drop_drop] at h3
  refine ⟨by omega, ?_⟩
  rw [h2, h3]
  simp [Nat.add_assoc]
theorem Reach.stop {b : List UInt8} {pre : List R} {at_ : Nat} (h : Reach b pre at_) (hl : at_ < b.length) (he : takeErr (b.drop at_) ≠ 0) : all b = (pre, at_, takeErr (b.drop at_)) := by
  have := h.2
  rw [all_err (by rw [List.length_drop]; omega) he] at this
  simpa using this
theorem Reach.full {b : List UInt8} {pre : List R} {at_ : Nat} (h : Reach b pre at_) (hl : ¬ at_ < b.length) : all b = (pre, b.length, 0) := by
  obtain ⟨h1, h2⟩ := h
  have : at_ = b.length := by omega
  subst this
  rw [List.drop_length, all_nil] at h2
  simpa using h2
end Go.Proofs.Ytnclbonoenjbeaa.Rec
