/-
  What GraphUndone asks, plainly: edges that are put and cut again.
-/
import Derived.Test.YtclbpohhmaojcaaGraphSortsPl
namespace Go.Proofs.Ytclbpohhmaojcaa.Gr
set_option linter.unusedVariables false
open Go.Proofs.Ytclbpohhmaojcaa.GrW (isV reached hasE canPut)

/-- A graph that is another one, and some edges more. -/
structure Und (n : Nat) (L0 L : List (List Int)) (fl : List (Int × Int)) : Prop where
  ok : OK n L
  mem : ∀ (u : Nat) (x : Int), u < n → (x ∈ outs L u ↔ x ∈ outs L0 u ∨ ((u : Int), x) ∈ fl)
  nodup : fl.Nodup
  new : ∀ y ∈ fl, ∃ a b : Nat, y = ((a : Int), (b : Int)) ∧ a < n ∧ b < n ∧ a ≠ b ∧ (b : Int) ∉ outs L0 a
theorem Und.start {n : Nat} {L0 : List (List Int)} (ok : OK n L0) : Und n L0 L0 [] := ⟨ok, fun u x _ => by simp, List.nodup_nil, fun y hy => by simp at hy⟩
theorem hasE_nat {n : Nat} {L : List (List Int)} {a b : Nat} (ha : a < n) : hasE n L a b = true ↔ (b : Int) ∈ outs L a := by
  unfold hasE outs
  rw [isV_of ha, Int.toNat_natCast, Bool.true_and, List.contains_iff_mem]
theorem Und.put {n : Nat} {L0 L : List (List Int)} {fl : List (Int × Int)} (h : Und n L0 L fl) {a b : Nat} (ha : a < n) (hb : b < n) (hne : a ≠ b) (hh : hasE n L a b = false) : Und n L0 (putL L a b) (fl ++ [((a : Int), (b : Int))]) := by
  have hnot : (b : Int) ∉ outs L a := fun e => by rw [(hasE_nat ha).2 e] at hh; cases hh
  have hno := hnot
  rw [h.mem a b ha] at hno
  refine ⟨h.ok.put ha hb hne, fun u x hu => ?_, ?_, fun y hy => ?_⟩
  · rw [put_out h.ok ha hb, h.mem u x hu, List.mem_append, List.mem_singleton, Prod.mk.injEq]
    constructor
    · rintro ((h1 | h1) | ⟨h1, h2⟩)
      · exact .inl h1
      · exact .inr (.inl h1)
      · exact .inr (.inr ⟨by rw [h1], h2⟩)
    · rintro (h1 | h1 | ⟨h1, h2⟩)
      · exact .inl (.inl h1)
      · exact .inl (.inr h1)
      · exact .inr ⟨by omega, h2⟩
  · rw [List.nodup_append]
    refine ⟨h.nodup, by simp, fun p hp q hq e => ?_⟩
    rw [List.mem_singleton] at hq
    exact hno (.inr (by rw [← hq, ← e]; exact hp))
  · rw [List.mem_append, List.mem_singleton] at hy
    rcases hy with hy | hy
    · exact h.new y hy
    · exact ⟨a, b, hy, ha, hb, hne, fun e => hno (.inl e)⟩
theorem put_same {n : Nat} {L : List (List Int)} (ok : OK n L) {a b : Nat} (ha : a < n) (hb : b < n) (hne : a ≠ b) (hh : hasE n L a b = true) : putL L a b = L := by
  refine (ok.put ha hb hne).ext ok fun u hu x => ?_
  rw [put_out ok ha hb]
  constructor
  · rintro (h | ⟨rfl, rfl⟩)
    · exact h
    · exact (hasE_nat ha).1 hh
  · exact .inl
theorem put_has {n : Nat} {L : List (List Int)} (ok : OK n L) {a b : Nat} (ha : a < n) (hb : b < n) : hasE n (putL L a b) a b = true := (hasE_nat ha).2 ((put_out ok ha hb a _).2 (.inr ⟨rfl, rfl⟩))
theorem Und.cut {n : Nat} {L0 L : List (List Int)} {fl : List (Int × Int)} {a b : Nat} (ha : a < n) (hb : b < n) (h : Und n L0 L (((a : Int), (b : Int)) :: fl)) : hasE n L a b = true ∧ Und n L0 (cutL L a b) fl ∧ hasE n (cutL L a b) a b = false := by
  have hd := List.nodup_cons.1 h.nodup
  refine ⟨(hasE_nat ha).2 ((h.mem a b ha).2 (.inr (List.mem_cons_self ..))), ⟨h.ok.cut ha hb, fun u x hu => ?_, hd.2, fun y hy => h.new y (List.mem_cons_of_mem _ hy)⟩, ?_⟩
  · rw [cut_out h.ok ha hb, h.mem u x hu, List.mem_cons, Prod.mk.injEq]
    obtain ⟨a', b', e, -, -, -, hn⟩ := h.new _ (List.mem_cons_self ..)
    rw [Prod.mk.injEq] at e
    constructor
    · rintro ⟨h1 | ⟨h1, h2⟩ | h1, h3⟩
      · exact .inl h1
      · exact absurd ⟨by omega, h2⟩ h3
      · exact .inr h1
    · rintro (h1 | h1)
      · refine ⟨.inl h1, fun ⟨e1, e2⟩ => hn ?_⟩
        have : a' = a := by omega
        have : (b' : Int) = b := by omega
        subst_vars
        rw [this]; exact h1
      · exact ⟨.inr (.inr h1), fun ⟨e1, e2⟩ => hd.1 (by subst e1; subst e2; exact h1)⟩
  · rw [← Bool.not_eq_true, hasE_nat ha, cut_out h.ok ha hb]
    exact fun e => e.2 ⟨rfl, rfl⟩
theorem Und.done {n : Nat} {L0 L : List (List Int)} (ok : OK n L0) (h : Und n L0 L []) : L = L0 := h.ok.ext ok fun u hu x => by rw [h.mem u x hu]; simp
end Go.Proofs.Ytclbpohhmaojcaa.Gr
