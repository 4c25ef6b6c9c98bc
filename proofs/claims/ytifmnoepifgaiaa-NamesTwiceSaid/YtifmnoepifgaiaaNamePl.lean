/-
  Names, without a program: who has a name in a scope, who is seen by one, whether one is there twice.
-/
import Derived.Test.YtifmnoepifgaiaaScopeA
namespace Go.Proofs.Ytifmnoepifgaiaa.Nm
set_option linter.unusedVariables false
open Go.Proofs.Ytifmnoepifgaiaa.Sc (N own flow rightAt right chain place chainI deep over below owned)

abbrev Str := ByteArray
def none_ : Str := ⟨#[]⟩
/-- A place's name. -/
def nm (ss : List Str) (k : Nat) : Str := ss.getD k none_
/-- A scope, and a name in it. -/
abbrev Key := Int × Int × Str
def key (ns : List N) (ss : List Str) (k : Nat) : Key := (flow ns k, own ns k, nm ss k)
/-- The first of the first i that has a name in a scope. -/
def lookN (ns : List N) (ss : List Str) (i : Nat) (x : Key) : Option Nat :=
  (List.range i).find? fun k => decide (nm ss k ≠ none_) && decide (key ns ss k = x)
/-- Is a name there twice, among the first i? -/
def twiceTo (ns : List N) (ss : List Str) (i : Nat) : Bool := (List.range i).any fun k => (lookN ns ss k (key ns ss k)).isSome
/-- Who is seen. -/
def seenN (ns : List N) (ss : List Str) (i : Int) (s : Str) : Option Nat :=
  if place ns i then (chain ns i.toNat |>.map (fun n : Nat => (n : Int)) |> (· ++ [-1])).findSome? fun o => lookN ns ss ns.length (flow ns i.toNat, o, s) else none

section
variable {ns : List N} {ss : List Str}
theorem lookN_zero (x : Key) : lookN ns ss 0 x = none := rfl
theorem lookN_succ (i : Nat) (x : Key) : lookN ns ss (i + 1) x = (lookN ns ss i x).or (if nm ss i ≠ none_ ∧ key ns ss i = x then some i else none) := by
  unfold lookN
  rw [List.range_succ, List.find?_append]
  congr 1
  by_cases h : nm ss i ≠ none_ ∧ key ns ss i = x
  · rw [if_pos h]; simp [h.1, h.2]
  · rw [if_neg h]
    have : (decide (nm ss i ≠ none_) && decide (key ns ss i = x)) = false := by
      rw [Bool.and_eq_false_iff, decide_eq_false_iff_not, decide_eq_false_iff_not]
      exact Decidable.not_and_iff_or_not.1 h
    simp only [List.find?_cons, this, List.find?_nil]
theorem lookN_none {i : Nat} {f o : Int} : lookN ns ss i (f, o, none_) = none := by
  unfold lookN
  rw [List.find?_eq_none]
  intro k _ h
  simp only [Bool.and_eq_true, decide_eq_true_eq] at h
  obtain ⟨h1, h2⟩ := h
  unfold key at h2
  injection h2 with _ h2
  injection h2 with _ h2
  exact h1 h2
theorem lookN_iff {i k : Nat} {x : Key} : lookN ns ss i x = some k → k < i ∧ nm ss k ≠ none_ ∧ key ns ss k = x ∧ ∀ j, j < k → nm ss j ≠ none_ → key ns ss j ≠ x := by
  unfold lookN
  intro h
  rw [List.find?_range_eq_some] at h
  obtain ⟨h1, h2, h3⟩ := h
  simp only [Bool.and_eq_true, decide_eq_true_eq] at h1
  refine ⟨by simpa using h2, h1.1, h1.2, fun j hj h4 h5 => ?_⟩
  have := h3 j hj
  simp [h4, h5] at this
theorem lookN_isSome {i : Nat} {x : Key} : (lookN ns ss i x).isSome = true ↔ ∃ k, k < i ∧ nm ss k ≠ none_ ∧ key ns ss k = x := by
  unfold lookN
  rw [List.find?_isSome]
  constructor
  · rintro ⟨k, h1, h2⟩
    simp only [Bool.and_eq_true, decide_eq_true_eq] at h2
    exact ⟨k, by simpa using h1, h2.1, h2.2⟩
  · rintro ⟨k, h1, h2, h3⟩
    exact ⟨k, by simpa using h1, by simp [h2, h3]⟩
theorem lookN_lt {i k : Nat} {x : Key} (h : lookN ns ss i x = some k) : k < i := (lookN_iff h).1
theorem twice_zero : twiceTo ns ss 0 = false := rfl
theorem twice_succ (i : Nat) : twiceTo ns ss (i + 1) = (twiceTo ns ss i || (lookN ns ss i (key ns ss i)).isSome) := by
  unfold twiceTo
  rw [List.range_succ, List.any_append]
  simp
end
end Go.Proofs.Ytifmnoepifgaiaa.Nm
