/-
  Words and walks, one behind the other: RecBulk, BatBulk.
-/
import Derived.Test.YtmkijkkddoamgaaRows
import Derived.Test.YtmkijkkddoamgaaJA
import Derived.Test.YtmkijkkddoamgaaJR
import Derived.Test.YtmkijkkddoamgaaJM
namespace Go.Proofs.Ytmkijkkddoamgaa.RecW
set_option linter.unusedVariables false
open Go.RowKit Go.Proofs Go.Proofs.Ytmkijkkddoamgaa Go.Proofs.Ytmkijkkddoamgaa.Wd Go.ChangeShapes Go.WideShapes
open Go.Proofs.Ytmkijkkddoamgaa.Rec (R weight)
section
variable {H : Type} {enc : TypeId × Value → H} {W : World}
theorem bulk_one (d : DataW H) : 1 ≤ Rows.uptoBulk d := by
  cases d with
  | lit l => cases l <;> simp [Rows.uptoBulk]
  | nil => simp [Rows.uptoBulk]
  | ptr d => simp [Rows.uptoBulk]
  | slice elems spare => simp [Rows.uptoBulk]
  | agg parts => simp [Rows.uptoBulk]
  | iface t d => simp [Rows.uptoBulk]
  | map entries => simp [Rows.uptoBulk]
  | held h => simp [Rows.uptoBulk]
theorem bulk_lits (k : IntKind) (zs : List Int) : Rows.uptoBulkAll (H := H) (lits k zs) = zs.length := by
  induction zs with
  | nil => simp [lits, Rows.uptoBulkAll]
  | cons z t ih =>
    have e : lits (H := H) k (z :: t) = DataW.lit (.int k z) :: lits k t := rfl
    rw [e]
    simp only [Rows.uptoBulkAll, Rows.uptoBulk, ih, List.length_cons]; omega
theorem trod_bytes_bulk {base : Nat} {spare : Nat → Bool} {held : Bool} {fuel : Nat} {v : Value} {x : DataW H × List MemPlace} (hs : ∀ b, spare b = true) (h : DataW.trod enc Try.prog W base spare held fuel 23 [v] = some x) :
    ∃ A c l, v = .slice A l.length c ∧ l.length ≤ c ∧ c ≤ maxLen ∧ Bytes W W.heap.size A l ∧ l.length ≤ Rows.uptoBulk x.1 := by
  obtain ⟨A, c, l, rfl, h1, h2, h3⟩ := trod_bytes hs h
  refine ⟨A, c, l, rfl, h1, h2, h3, ?_⟩
  rcases open_ints Try.underlying23 Try.underlying5 (by kernel_rfl) h with ⟨hcs, _⟩ | ⟨a, len, cap, zs, hcs, _, hl, hm, hz, hx, _, _⟩
  · simp at hcs
    have := hcs.2.1
    have := bulk_one x.1
    omega
  · simp at hcs
    obtain ⟨_, e2, e3⟩ := hcs
    rw [hx]
    simp only [Rows.uptoBulk, bulk_lits, List.length_take, List.length_drop]
    rw [if_pos (hs _)] at hz
    omega
theorem bulk_weight (f : Nat → R) (g : Nat → DataW H) (L : List Nat) (h : ∀ i ∈ L, (f i).2.length + 2 ≤ Rows.uptoBulk (g i)) : weight (L.map f) ≤ 9 * Rows.uptoBulkAll (L.map g) := by
  induction L with
  | nil => simp [weight, Rows.uptoBulkAll]
  | cons i t ih =>
    have h1 := h i (by simp)
    have h2 := ih (fun j hj => h j (by simp [hj]))
    have e : weight ((i :: t).map f) = (f i).2.length + 9 + weight (t.map f) := by simp [weight]
    rw [e]
    simp only [List.map_cons, Rows.uptoBulkAll]
    omega
end
end Go.Proofs.Ytmkijkkddoamgaa.RecW

namespace Go.Proofs.Ytmkijkkddoamgaa.BatW
set_option linter.unusedVariables false
open Go.RowKit Go.Proofs Go.Proofs.Ytmkijkkddoamgaa Go.Proofs.Ytmkijkkddoamgaa.Wd Go.Proofs.Ytmkijkkddoamgaa.RecW Go.ChangeShapes Go.WideShapes
open Go.Proofs.Ytmkijkkddoamgaa.Bat (B)
section
variable {H : Type} {enc : TypeId × Value → H} {W : World}
theorem trod_bytes_bulk1 {base : Nat} {spare : Nat → Bool} {held : Bool} {fuel : Nat} {v : Value} {x : DataW H × List MemPlace} (hs : ∀ b, spare b = true) (h : DataW.trod enc Try.prog W base spare held fuel 23 [v] = some x) :
    ∃ A c l, v = .slice A l.length c ∧ l.length ≤ c ∧ c ≤ maxLen ∧ Bytes W W.heap.size A l ∧ l.length + 1 ≤ Rows.uptoBulk x.1 := by
  obtain ⟨A, c, l, rfl, h1, h2, h3⟩ := RecW.trod_bytes hs h
  refine ⟨A, c, l, rfl, h1, h2, h3, ?_⟩
  rcases open_ints Try.underlying23 Try.underlying5 (by kernel_rfl) h with ⟨hcs, _⟩ | ⟨a, len, cap, zs, hcs, _, hl, hm, hz, hx, _, _⟩
  · simp at hcs
    have := hcs.2.1
    have := bulk_one x.1
    omega
  · simp at hcs
    obtain ⟨_, e2, e3⟩ := hcs
    rw [hx]
    simp only [Rows.uptoBulk, bulk_lits, List.length_take, List.length_drop]
    rw [if_pos (hs _)] at hz
    omega
theorem sum_bulk (f : Nat → Nat) (g : Nat → DataW H) (L : List Nat) (h : ∀ i ∈ L, f i ≤ Rows.uptoBulk (g i)) : (L.map f).sum ≤ Rows.uptoBulkAll (L.map g) := by
  induction L with
  | nil => simp [Rows.uptoBulkAll]
  | cons i t ih =>
    have h1 := h i (by simp)
    have h2 := ih (fun j hj => h j (by simp [hj]))
    simp only [List.map_cons, List.sum_cons, Rows.uptoBulkAll]
    omega
theorem open_brows_bulk {base : Nat} {spare : Nat → Bool} {held : Bool} {fuel : Nat} {v : Value} {x : DataW H × List MemPlace} (hs : ∀ b, spare b = true) (h : DataW.trod enc Try.prog W base spare held fuel 30 [v] = some x) :
    ∃ (ls : B) (A : Option Addr) (c : Nat), v = .slice A ls.length c ∧ ls.length ≤ c ∧ c ≤ maxLen ∧ BRows W W.heap.size A ls ∧ mass ls ≤ Rows.uptoBulk x.1 := by
  rcases Deep.open_slice1 Try.underlying30 (by kernel_rfl) h with ⟨hcs, _⟩ | ⟨a, len, cap, m, n, V, D, Pl, hcs, _, hl, hm, hmm, hxx, hx⟩
  · simp at hcs
    subst hcs
    exact ⟨[], none, 0, rfl, Nat.le_refl _, by simp [maxLen], BRows.nil, bulk_one _⟩
  · simp at hcs
    subst hcs
    rw [if_pos (hs _)] at hmm
    subst hmm
    obtain ⟨q, hq⟩ := Deep.choose_lt (n := len) (α := List UInt8 × Value) (p := fun i s => W.cell? (a.add i) = some s.2 ∧ SB W W.heap.size s.2 s.1 ∧ s.1.length + 1 ≤ Rows.uptoBulk (D i)) (fun i hi => by
      obtain ⟨g0, g1⟩ := hx i (by omega)
      obtain ⟨A', c', l', hl', h2, h3, h4, h5⟩ := trod_bytes_bulk1 hs g1
      exact ⟨(l', .slice A' l'.length c'), by rw [g0, hl'], ⟨A', c', rfl, h2, h3, h4⟩, h5⟩)
    refine ⟨(List.range len).map fun i => (q i).1, some a, _, by simp, by simpa using hl, hm, fun j hj => ?_, ?_⟩
    · have hj' : j < len := by simpa using hj
      obtain ⟨h1, h2, _⟩ := hq j hj'
      obtain ⟨b, off, spot⟩ := a
      have hspot : spot = none := by
        obtain ⟨g1, _⟩ := hq 0 (by omega)
        have h0 := World.cell?_spot g1
        simpa [Addr.add] using h0
      subst hspot
      have hb := block_lt_of_cell h1
      refine ⟨b, off, (q j).2, rfl, by rw [Addr.add_lit] at hb; exact hb, ?_, ?_⟩
      · simpa [Addr.add_lit] using h1
      · simpa using h2
    · rw [hxx]
      have := sum_bulk (fun i => (q i).1.length + 1) D (List.range len) fun i hi => (hq i (List.mem_range.1 hi)).2.2
      unfold mass
      rw [List.map_map]
      simp only [Rows.uptoBulk]
      have e : (List.map ((fun d => d.length + 1) ∘ fun i => (q i).fst) (List.range len)) = List.map (fun i => (q i).1.length + 1) (List.range len) := rfl
      rw [e]; omega
theorem open_brows3_bulk {base : Nat} {spare : Nat → Bool} {held : Bool} {fuel : Nat} {v : Value} {x : DataW H × List MemPlace} (hs : ∀ b, spare b = true) (h : DataW.trod enc Try.prog W base spare held fuel 22 [v] = some x) :
    ∃ (ls : List B) (A : Option Addr) (c : Nat), v = .slice A ls.length c ∧ ls.length ≤ c ∧ c ≤ maxLen ∧ BRows3 W W.heap.size A ls ∧ mass3 ls ≤ Rows.uptoBulk x.1 := by
  rcases Deep.open_slice1 Try.underlying22 (by kernel_rfl) h with ⟨hcs, _⟩ | ⟨a, len, cap, m, n, V, D, Pl, hcs, _, hl, hm, hmm, hxx, hx⟩
  · simp at hcs
    subst hcs
    exact ⟨[], none, 0, rfl, Nat.le_refl _, by simp [maxLen], BRows3.nil, bulk_one _⟩
  · simp at hcs
    subst hcs
    rw [if_pos (hs _)] at hmm
    subst hmm
    obtain ⟨q, hq⟩ := Deep.choose_lt (n := len) (α := B × Value) (p := fun i s => W.cell? (a.add i) = some s.2 ∧ SR W W.heap.size s.2 s.1 ∧ mass s.1 ≤ Rows.uptoBulk (D i)) (fun i hi => by
      obtain ⟨g0, g1⟩ := hx i (by omega)
      obtain ⟨l', A', c', hl', h2, h3, h4, h5⟩ := open_brows_bulk hs g1
      exact ⟨(l', .slice A' l'.length c'), by rw [g0, hl'], ⟨A', c', rfl, h2, h3, h4⟩, h5⟩)
    refine ⟨(List.range len).map fun i => (q i).1, some a, _, by simp, by simpa using hl, hm, fun j hj => ?_, ?_⟩
    · have hj' : j < len := by simpa using hj
      obtain ⟨h1, h2, _⟩ := hq j hj'
      obtain ⟨b, off, spot⟩ := a
      have hspot : spot = none := by
        obtain ⟨g1, _⟩ := hq 0 (by omega)
        have h0 := World.cell?_spot g1
        simpa [Addr.add] using h0
      subst hspot
      have hb := block_lt_of_cell h1
      refine ⟨b, off, (q j).2, rfl, by rw [Addr.add_lit] at hb; exact hb, ?_, ?_⟩
      · simpa [Addr.add_lit] using h1
      · simpa using h2
    · rw [hxx]
      have := sum_bulk (fun i => mass (q i).1) D (List.range len) fun i hi => (hq i (List.mem_range.1 hi)).2.2
      unfold mass3
      rw [List.map_map]
      simp only [Rows.uptoBulk]
      have e : (List.map (mass ∘ fun i => (q i).fst) (List.range len)) = List.map (fun i => mass (q i).1) (List.range len) := rfl
      rw [e]; omega
end
end Go.Proofs.Ytmkijkkddoamgaa.BatW
