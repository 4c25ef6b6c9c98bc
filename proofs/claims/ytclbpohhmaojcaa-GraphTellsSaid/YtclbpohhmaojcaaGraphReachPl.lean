/-
  What a search from vertex to vertex tells, plainly: paths, and what is closed.
-/
import Derived.Test.YtclbpohhmaojcaaGraphHas
namespace Go.Proofs.Ytclbpohhmaojcaa.Gr
set_option linter.unusedVariables false

/-- There is an edge. -/
def E (L : List (List Int)) (x y : Nat) : Prop := (y : Int) ∈ L.getD (2 * x) []
inductive Path (L : List (List Int)) : Nat → Nat → Prop
  | refl (u : Nat) : Path L u u
  | step {u x v : Nat} : E L u x → Path L x v → Path L u v
theorem Path.trans {L : List (List Int)} {u v x : Nat} (h : Path L u v) (k : Path L v x) : Path L u x := by
  induction h with
  | refl => exact k
  | step h _ ih => exact .step h (ih k)
def Inside (n : Nat) (L : List (List Int)) : Prop := ∀ l ∈ L, ∀ x ∈ l, (0 : Int) ≤ x ∧ x < n
theorem Inside.at_ {n : Nat} {L : List (List Int)} (h : Inside n L) (i : Nat) {x : Int} (hx : x ∈ L.getD i []) : 0 ≤ x ∧ x < n := by
  by_cases hi : i < L.length
  · have e : L.getD i [] = L[i] := by simp [List.getD, hi]
    rw [e] at hx; exact h _ (List.getElem_mem hi) x hx
  · have e : L.getD i [] = [] := by simp [List.getD, List.getElem?_eq_none (Nat.le_of_not_lt hi)]
    rw [e] at hx; simp at hx
def is (met : List Bool) (i : Nat) : Bool := met.getD i false
/-- All that is met behind, and was not ahead, is not v, and its edges end at what is met. -/
def Closed (L : List (List Int)) (v : Nat) (met met' : List Bool) : Prop := ∀ y, is met' y = true → is met y = true ∨ (y ≠ v ∧ ∀ z, E L y z → is met' z = true)
def Mono (met met' : List Bool) : Prop := met'.length = met.length ∧ ∀ i, is met i = true → is met' i = true
theorem Mono.refl (met : List Bool) : Mono met met := ⟨rfl, fun _ h => h⟩
theorem Mono.trans {a b c : List Bool} (h : Mono a b) (k : Mono b c) : Mono a c := ⟨k.1.trans h.1, fun i hi => k.2 i (h.2 i hi)⟩
def Dfs (L : List (List Int)) (v : Nat) (met met' : List Bool) (x : Nat) (b : Bool) : Prop :=
  Mono met met' ∧ (b = true → Path L x v) ∧ (b = false → is met' x = true ∧ Closed L v met met')
/-- How many are not met. -/
def un (met : List Bool) : Nat := met.countP (!·)
theorem un_mono : ∀ {a b : List Bool}, Mono a b → un b ≤ un a
  | [], b, h => by
    have := h.1
    have e : b = [] := List.eq_nil_of_length_eq_zero this
    subst e; exact Nat.le_refl _
  | x :: a, [], h => by have := h.1; simp at this
  | x :: a, y :: b, h => by
    have hm : Mono a b := ⟨by have := h.1; simpa using this, fun i hi => by have := h.2 (i + 1); simpa [is, List.getD] using this (by simpa [is, List.getD] using hi)⟩
    have ih := un_mono hm
    have h0 : x = true → y = true := by have := h.2 0; simpa [is, List.getD] using this
    unfold un at ih ⊢
    rw [List.countP_cons, List.countP_cons]
    cases x <;> cases y <;> simp at h0 ⊢ <;> omega
theorem is_set {met : List Bool} {x : Nat} (hx : x < met.length) (i : Nat) : is (met.set x true) i = (decide (i = x) || is met i) := by
  unfold is
  simp only [List.getD]
  by_cases h : x = i
  · subst h; simp [hx]
  · rw [List.getElem?_set_ne h]
    have : ¬ i = x := fun e => h e.symm
    simp [this]
theorem mono_set {met : List Bool} {x : Nat} (hx : x < met.length) : Mono met (met.set x true) := ⟨by simp, fun i hi => by rw [is_set hx, hi]; simp⟩
theorem un_set : ∀ {met : List Bool} {x : Nat}, x < met.length → is met x = false → un (met.set x true) < un met
  | [], x, h, _ => by simp at h
  | y :: met, 0, h, hy => by
    have : y = false := by simpa [is, List.getD] using hy
    subst this
    simp only [List.set_cons_zero, un, List.countP_cons]
    simp
  | y :: met, x + 1, h, hy => by
    have ih := un_set (met := met) (x := x) (by simpa using h) (by simpa [is, List.getD] using hy)
    simp only [List.set_cons_succ, un, List.countP_cons] at ih ⊢
    omega
theorem un_pos {met : List Bool} {x : Nat} (hx : x < met.length) (h : is met x = false) : 0 < un met := Nat.lt_of_le_of_lt (Nat.zero_le _) (un_set hx h)
/-- While the ends of x's edges are looked at: those of the first k were not v, nor lead there. -/
def Scan (L : List (List Int)) (v : Nat) (met met' : List Bool) (l : List Int) (k : Nat) : Prop :=
  Mono met met' ∧ (∀ z : Nat, (z : Int) ∈ l.take k → is met' z = true) ∧ Closed L v met met'
theorem Scan.zero (L : List (List Int)) (v : Nat) (met : List Bool) (l : List Int) : Scan L v met met l 0 := ⟨Mono.refl _, fun z h => by simp at h, fun y h => .inl h⟩
theorem Closed.trans {L : List (List Int)} {v : Nat} {a b c : List Bool} (h : Closed L v a b) (k : Closed L v b c) (m : Mono b c) : Closed L v a c := fun y hy => by
  rcases k y hy with h1 | h1
  · rcases h y h1 with h2 | h2
    · exact .inl h2
    · exact .inr ⟨h2.1, fun z hz => m.2 z (h2.2 z hz)⟩
  · exact .inr h1
theorem Scan.met {L : List (List Int)} {v : Nat} {met met' : List Bool} {l : List Int} {k : Nat} (h : Scan L v met met' l k) (hk : k < l.length) {z : Nat} (hz : l[k] = (z : Int)) (hm : is met' z = true) : Scan L v met met' l (k + 1) := ⟨h.1, fun y hy => by
  rw [List.take_succ_eq_append_getElem hk, List.mem_append, List.mem_singleton] at hy
  rcases hy with hy | hy
  · exact h.2.1 y hy
  · rw [hz] at hy
    have : y = z := by omega
    rw [this]; exact hm, h.2.2⟩
theorem Scan.next {L : List (List Int)} {v : Nat} {met met' met2 : List Bool} {l : List Int} {k : Nat} (h : Scan L v met met' l k) (hk : k < l.length) {z : Nat} (hz : l[k] = (z : Int)) (hd : Dfs L v met' met2 z false) : Scan L v met met2 l (k + 1) := by
  obtain ⟨hm, -, hd⟩ := hd
  obtain ⟨h1, h2⟩ := hd rfl
  refine Scan.met ⟨h.1.trans hm, fun y hy => hm.2 y (h.2.1 y hy), h.2.2.trans h2 hm⟩ hk hz h1
theorem Scan.done {L : List (List Int)} {v : Nat} {met met' : List Bool} {x : Nat} (hx : x < met.length) (hne : x ≠ v) (h : Scan L v (met.set x true) met' (L.getD (2 * x) []) (L.getD (2 * x) []).length) : Dfs L v met met' x false := by
  refine ⟨(mono_set hx).trans h.1, fun e => by simp at e, fun _ => ⟨h.1.2 x (by rw [is_set hx]; simp), fun y hy => ?_⟩⟩
  rcases h.2.2 y hy with h1 | h1
  · rw [is_set hx] at h1
    by_cases e : y = x
    · subst e
      exact .inr ⟨hne, fun z hz => h.2.1 z (by rw [List.take_length]; exact hz)⟩
    · exact .inl (by simpa [e] using h1)
  · exact .inr h1
theorem Scan.hit {L : List (List Int)} {v : Nat} {met met' met2 : List Bool} {x k z : Nat} (hx : x < met.length) (h : Scan L v (met.set x true) met' (L.getD (2 * x) []) k) (hk : k < (L.getD (2 * x) []).length) (hz : (L.getD (2 * x) [])[k] = (z : Int)) (hd : Dfs L v met' met2 z true) : Dfs L v met met2 x true :=
  ⟨((mono_set hx).trans h.1).trans hd.1, fun _ => .step (by unfold E; rw [← hz]; exact List.getElem_mem hk) (hd.2.1 rfl), fun e => by simp at e⟩
theorem is_none (n i : Nat) : is (List.replicate n false) i = false := by
  unfold is
  simp only [List.getD]
  by_cases h : i < n
  · simp [h]
  · rw [List.getElem?_eq_none (by simpa using Nat.le_of_not_lt h)]; rfl
/-- A search from nothing met tells whether there is a path. -/
theorem Dfs.tells {L : List (List Int)} {v n : Nat} {met' : List Bool} {u : Nat} {b : Bool} (h : Dfs L v (List.replicate n false) met' u b) : b = true ↔ Path L u v := by
  refine ⟨h.2.1, fun hp => ?_⟩
  cases b
  · exfalso
    obtain ⟨h1, h2⟩ := h.2.2 rfl
    have all : ∀ {a c : Nat}, Path L a c → is met' a = true → is met' c = true ∧ c ≠ v := by
      intro a c hp
      induction hp with
      | refl a => exact fun ha => ⟨ha, ((h2 a ha).resolve_left (by rw [is_none]; simp)).1⟩
      | step he _ ih => exact fun ha => ih (((h2 _ ha).resolve_left (by rw [is_none]; simp)).2 _ he)
    exact (all hp h1).2 rfl
  · rfl
end Go.Proofs.Ytclbpohhmaojcaa.Gr
