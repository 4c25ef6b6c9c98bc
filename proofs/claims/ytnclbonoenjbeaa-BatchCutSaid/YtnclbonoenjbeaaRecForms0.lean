/-
  What the functions on records answer, in one form (for seats without rec.All).
-/
import Derived.Test.YtnclbonoenjbeaaRecLow
namespace Go.Proofs.Ytnclbonoenjbeaa.RecW
set_option linter.unusedVariables false
open Go.RowKit Go.Proofs Go.Proofs.Ytnclbonoenjbeaa Go.Proofs.Ytnclbonoenjbeaa.Wd Go.Proofs.Ytnclbonoenjbeaa.CrcW
open Go.Proofs.Ytnclbonoenjbeaa.Rec (R four number fine takeErr takeEnd takeRec putErr number_lt)

theorem own_cap {w : World} {base : Nat} {e : TypeId} {size n m c : Nat} {A : Option Addr} {xs : List Value} (h : w.ownsRow base e size (.slice A n c) m xs) : c ≤ maxLen := by
  rcases h.2 with ⟨h, _⟩ | ⟨g, cap, cur, h, _, _, _, h8, _⟩
  · simp only [Value.slice.injEq] at h; have := h.2.2; subst this; simp [maxLen]
  · simp only [Value.slice.injEq] at h; have := h.2.2; omega
/-- What is put of a record: its bytes, or none. -/
def putL (r : R) : List UInt8 := if putErr r = 0 then Rec.bytes r else []
def tkRec (b : List UInt8) : R := if takeErr b = 0 then takeRec b else (0, [])
def tkEnd (b : List UInt8) : Nat := if takeErr b = 0 then takeEnd b else 0
theorem Wrote.out {w w' : World} {r : R} {e : Ending} (h : Wrote w r e w') :
    ∃ A c, e = .returned (.tuple #[.slice A (putL r).length c, .int .i64 (putErr r : Nat)]) ∧ Below w.heap.size w w' ∧ (putL r).length ≤ c ∧ c ≤ maxLen ∧ w'.ownsRow w.heap.size 5 1 (.slice A (putL r).length c) (putL r).length (bs (putL r)) := by
  obtain ⟨v, h1, h2, h3, h4⟩ := h
  by_cases he : putErr r = 0
  · have ho := h4 he
    have hp : putL r = Rec.bytes r := by unfold putL; rw [if_pos he]
    rw [hp]
    obtain ⟨A, c, rfl, hc, _, _⟩ := own_bytes ho
    exact ⟨A, c, h1, h2, hc, own_cap ho, ho⟩
  · have hp : putL r = [] := by unfold putL; rw [if_neg he]
    rw [hp]
    have := h3 he
    subst this
    exact ⟨none, 0, h1, h2, Nat.le_refl _, by simp [maxLen], own_nil _ _ _⟩
theorem Took.out {w w' : World} {b : List UInt8} {e : Ending} (h : Took w b e w') :
    ∃ A c, e = .returned (.tuple #[.agg #[.int .u8 ((tkRec b).1.toNat : Nat), .slice A (tkRec b).2.length c], .int .i64 (tkEnd b : Nat), .int .i64 (takeErr b : Nat)]) ∧ Below w.heap.size w w' ∧ (tkRec b).2.length ≤ c ∧ c ≤ maxLen ∧
      w'.ownsRow w.heap.size 5 1 (.slice A (tkRec b).2.length c) (tkRec b).2.length (bs (tkRec b).2) := by
  obtain ⟨k, d, v, m, h1, h2, h3, h4, h5⟩ := h
  by_cases he : takeErr b = 0
  · obtain ⟨hr, rfl⟩ := h4 he
    have hp : tkRec b = (k, d) := by unfold tkRec; rw [if_pos he, hr]
    have hm : tkEnd b = takeEnd b := by unfold tkEnd; rw [if_pos he]
    rw [hp, hm]
    obtain ⟨A, c, rfl, hc, _, _⟩ := own_bytes h3
    exact ⟨A, c, h1, h2, hc, own_cap h3, h3⟩
  · obtain ⟨rfl, rfl, rfl, rfl⟩ := h5 he
    have hp : tkRec b = (0, []) := by unfold tkRec; rw [if_neg he]
    have hm : tkEnd b = 0 := by unfold tkEnd; rw [if_neg he]
    rw [hp, hm]
    exact ⟨none, 0, h1, h2, Nat.le_refl _, by simp [maxLen], h3⟩
theorem AllOut.out {w w' : World} {b : List UInt8} {e : Ending} (h : AllOut w b e w') :
    ∃ A c, e = .returned (.tuple #[.slice A (Rec.all b).1.length c, .int .i64 ((Rec.all b).2.1 : Nat), .int .i64 ((Rec.all b).2.2 : Nat)]) ∧ Below w.heap.size w w' ∧ (Rec.all b).1.length ≤ c ∧ c ≤ maxLen ∧ Recs w' w'.heap.size A (Rec.all b).1 := by
  obtain ⟨v, xs, h1, h2, h3, h4⟩ := h
  obtain ⟨A, c, rfl, hc, _, hr⟩ := own_recs h3 h4
  exact ⟨A, c, h1, h2, hc, own_cap h3, hr⟩
end Go.Proofs.Ytnclbonoenjbeaa.RecW
