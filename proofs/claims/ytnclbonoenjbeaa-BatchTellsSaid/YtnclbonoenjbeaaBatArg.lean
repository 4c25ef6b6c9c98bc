/-
  What arguments read as: rows of bytes, and rows of these.
-/
import Derived.Test.YtnclbonoenjbeaaRecArg
import Derived.Test.YtnclbonoenjbeaaBatMem
import Derived.Deep.Slices
namespace Go.Proofs.Ytnclbonoenjbeaa.BatW
set_option linter.unusedVariables false
open Go.RowKit Go.Proofs Go.Proofs.Ytnclbonoenjbeaa Go.Proofs.Ytnclbonoenjbeaa.Wd Go.Proofs.Ytnclbonoenjbeaa.RecW Go.ChangeShapes Go.WideShapes
open Go.Proofs.Ytnclbonoenjbeaa.Bat (B)
section
variable {H : Type} {enc : TypeId × Value → H} {W : World}
theorem open_brows {base : Nat} {spare : Nat → Bool} {held : Bool} {fuel : Nat} {v : Value} {x : DataW H × List MemPlace} (hs : ∀ b, spare b = true) (h : DataW.trod enc Try.prog W base spare held fuel 37 [v] = some x) :
    ∃ (ls : B) (A : Option Addr) (c : Nat), v = .slice A ls.length c ∧ ls.length ≤ c ∧ c ≤ maxLen ∧ BRows W W.heap.size A ls := by
  rcases Deep.open_slice1 Try.underlying37 (by kernel_rfl) h with ⟨hcs, _⟩ | ⟨a, len, cap, m, n, V, D, Pl, hcs, _, hl, hm, hmm, _, hx⟩
  · simp at hcs
    subst hcs
    exact ⟨[], none, 0, rfl, Nat.le_refl _, by simp [maxLen], BRows.nil⟩
  · simp at hcs
    subst hcs
    rw [if_pos (hs _)] at hmm
    subst hmm
    obtain ⟨q, hq⟩ := Deep.choose_lt (n := len) (α := List UInt8 × Value) (p := fun i s => W.cell? (a.add i) = some s.2 ∧ SB W W.heap.size s.2 s.1) (fun i hi => by
      obtain ⟨g0, g1⟩ := hx i (by omega)
      obtain ⟨A', c', l', hl', h2, h3, h4⟩ := RecW.trod_bytes hs g1
      exact ⟨(l', .slice A' l'.length c'), by rw [g0, hl'], A', c', rfl, h2, h3, h4⟩)
    refine ⟨(List.range len).map fun i => (q i).1, some a, _, by simp, by simpa using hl, hm, fun j hj => ?_⟩
    have hj' : j < len := by simpa using hj
    obtain ⟨h1, h2⟩ := hq j hj'
    obtain ⟨b, off, spot⟩ := a
    have hspot : spot = none := by
      obtain ⟨g1, _⟩ := hq 0 (by omega)
      have h0 := World.cell?_spot g1
      simpa [Addr.add] using h0
    subst hspot
    have hb := block_lt_of_cell h1
    refine ⟨b, off, (q j).2, rfl, by rw [Addr.add_lit] at hb; exact hb, ?_, ?_⟩
    · simpa [Addr.add_lit] using h1
    · simpa using h2
theorem open_brows3 {base : Nat} {spare : Nat → Bool} {held : Bool} {fuel : Nat} {v : Value} {x : DataW H × List MemPlace} (hs : ∀ b, spare b = true) (h : DataW.trod enc Try.prog W base spare held fuel 22 [v] = some x) :
    ∃ (ls : List B) (A : Option Addr) (c : Nat), v = .slice A ls.length c ∧ ls.length ≤ c ∧ c ≤ maxLen ∧ BRows3 W W.heap.size A ls := by
  rcases Deep.open_slice1 Try.underlying22 (by kernel_rfl) h with ⟨hcs, _⟩ | ⟨a, len, cap, m, n, V, D, Pl, hcs, _, hl, hm, hmm, _, hx⟩
  · simp at hcs
    subst hcs
    exact ⟨[], none, 0, rfl, Nat.le_refl _, by simp [maxLen], BRows3.nil⟩
  · simp at hcs
    subst hcs
    rw [if_pos (hs _)] at hmm
    subst hmm
    obtain ⟨q, hq⟩ := Deep.choose_lt (n := len) (α := B × Value) (p := fun i s => W.cell? (a.add i) = some s.2 ∧ SR W W.heap.size s.2 s.1) (fun i hi => by
      obtain ⟨g0, g1⟩ := hx i (by omega)
      obtain ⟨l', A', c', hl', h2, h3, h4⟩ := open_brows hs g1
      exact ⟨(l', .slice A' l'.length c'), by rw [g0, hl'], A', c', rfl, h2, h3, h4⟩)
    refine ⟨(List.range len).map fun i => (q i).1, some a, _, by simp, by simpa using hl, hm, fun j hj => ?_⟩
    have hj' : j < len := by simpa using hj
    obtain ⟨h1, h2⟩ := hq j hj'
    obtain ⟨b, off, spot⟩ := a
    have hspot : spot = none := by
      obtain ⟨g1, _⟩ := hq 0 (by omega)
      have h0 := World.cell?_spot g1
      simpa [Addr.add] using h0
    subst hspot
    have hb := block_lt_of_cell h1
    refine ⟨b, off, (q j).2, rfl, by rw [Addr.add_lit] at hb; exact hb, ?_, ?_⟩
    · simpa [Addr.add_lit] using h1
    · simpa using h2
end
end Go.Proofs.Ytnclbonoenjbeaa.BatW
