/-
  What the bound on what comes in gives: bytes and rows of records.
-/
import Derived.Test.YtnclbonoenjbeaaRows
import Derived.Test.YtnclbonoenjbeaaRecArg
import Derived.Test.YtnclbonoenjbeaaRecPlain4
namespace Go.Proofs.Ytnclbonoenjbeaa.RecW
set_option linter.unusedVariables false
open Go.RowKit Go.Proofs Go.Proofs.Ytnclbonoenjbeaa Go.Proofs.Ytnclbonoenjbeaa.Wd Go.ChangeShapes Go.WideShapes
open Go.Proofs.Ytnclbonoenjbeaa.Rec (R weight)
section
variable {H : Type} {enc : TypeId × Value → H} {W : World}
theorem bulk_one (d : DataW H) : 1 ≤ Rows.uptoBulk d := by
  cases d with
  | lit l => cases l <;> simp [Rows.uptoBulk]
  | nil => simp [Rows.uptoBulk]
  | ptr d => simp [Rows.uptoBulk]
  | slice elems spare => simp [Rows.uptoBulk]
  | agg parts => simp [Rows.uptoBulk]
  | iface t d => simp [Rows.uptoBulk]
  | map entries => simp [Rows.uptoBulk]
  | held h => simp [Rows.uptoBulk]
theorem bulk_lits (k : IntKind) (zs : List Int) : Rows.uptoBulkAll (H := H) (lits k zs) = zs.length := by
  induction zs with
  | nil => simp [lits, Rows.uptoBulkAll]
  | cons z t ih =>
    have e : lits (H := H) k (z :: t) = DataW.lit (.int k z) :: lits k t := rfl
    rw [e]
    simp only [Rows.uptoBulkAll, Rows.uptoBulk, ih, List.length_cons]; omega
theorem trod_bytes_bulk {base : Nat} {spare : Nat → Bool} {held : Bool} {fuel : Nat} {v : Value} {x : DataW H × List MemPlace} (hs : ∀ b, spare b = true) (h : DataW.trod enc Try.prog W base spare held fuel 24 [v] = some x) :
    ∃ A c l, v = .slice A l.length c ∧ l.length ≤ c ∧ c ≤ maxLen ∧ Bytes W W.heap.size A l ∧ l.length ≤ Rows.uptoBulk x.1 := by
  obtain ⟨A, c, l, rfl, h1, h2, h3⟩ := trod_bytes hs h
  refine ⟨A, c, l, rfl, h1, h2, h3, ?_⟩
  rcases open_ints Try.underlying24 Try.underlying5 (by kernel_rfl) h with ⟨hcs, _⟩ | ⟨a, len, cap, zs, hcs, _, hl, hm, hz, hx, _, _⟩
  · simp at hcs
    have := hcs.2.1
    have := bulk_one x.1
    omega
  · simp at hcs
    obtain ⟨_, e2, e3⟩ := hcs
    rw [hx]
    simp only [Rows.uptoBulk, bulk_lits, List.length_take, List.length_drop]
    rw [if_pos (hs _)] at hz
    omega
theorem bulk_weight (f : Nat → R) (g : Nat → DataW H) (L : List Nat) (h : ∀ i ∈ L, (f i).2.length + 2 ≤ Rows.uptoBulk (g i)) : weight (L.map f) ≤ 9 * Rows.uptoBulkAll (L.map g) := by
  induction L with
  | nil => simp [weight, Rows.uptoBulkAll]
  | cons i t ih =>
    have h1 := h i (by simp)
    have h2 := ih (fun j hj => h j (by simp [hj]))
    have e : weight ((i :: t).map f) = (f i).2.length + 9 + weight (t.map f) := by simp [weight]
    rw [e]
    simp only [List.map_cons, Rows.uptoBulkAll]
    omega
theorem open_recs_bulk {base : Nat} {spare : Nat → Bool} {held : Bool} {fuel : Nat} {v : Value} {x : DataW H × List MemPlace} (hs : ∀ b, spare b = true) (h : DataW.trod enc Try.prog W base spare held fuel 69 [v] = some x) :
    ∃ (rs : List R) (A : Option Addr) (c : Nat), v = .slice A rs.length c ∧ rs.length ≤ c ∧ c ≤ maxLen ∧ Recs W W.heap.size A rs ∧ weight rs ≤ 9 * Rows.uptoBulk x.1 := by
  rcases Deep.open_slice_pairs Try.underlying69 Try.underlying42 (by kernel_rfl) rfl rfl (by kernel_rfl) (by kernel_rfl) h with ⟨hcs, _⟩ | ⟨a, len, cap, m, n, V0, V1, D0, D1, P0, P1, hcs, _, hl, hm, hmm, hxx, hx⟩
  · simp at hcs
    subst hcs
    exact ⟨[], none, 0, rfl, Nat.le_refl _, by simp [maxLen], Recs.nil, by simp [weight]⟩
  · simp at hcs
    subst hcs
    rw [if_pos (hs _)] at hmm
    subst hmm
    obtain ⟨q, hq⟩ := Deep.choose_lt (n := len) (α := R × Option Addr × Nat) (p := fun i s => W.cell? (a.add (i * 2)) = some (.int .u8 (s.1.1.toNat : Nat)) ∧ W.cell? (a.add (i * 2 + 1)) = some (.slice s.2.1 s.1.2.length s.2.2) ∧ s.1.2.length ≤ s.2.2 ∧ Bytes W W.heap.size s.2.1 s.1.2 ∧ s.1.2.length ≤ Rows.uptoBulk (D1 i)) (fun i hi => by
      obtain ⟨g0, g1, h0, h1⟩ := hx i (by omega)
      obtain ⟨k, hk⟩ := trod_u8 h0
      obtain ⟨A', c', l', hl', h2, h3, h4, h5⟩ := trod_bytes_bulk hs h1
      exact ⟨((k, l'), A', c'), by rw [g0, hk], by rw [g1, hl'], h2, h4, h5⟩)
    refine ⟨(List.range len).map fun i => (q i).1, some a, _, by simp, by simpa using hl, hm, fun j hj => ?_, ?_⟩
    · have hj' : j < len := by simpa using hj
      obtain ⟨h1, h2, h3, h4, _⟩ := hq j hj'
      obtain ⟨b, off, spot⟩ := a
      have hspot : spot = none := by
        obtain ⟨g1, _⟩ := hq 0 (by omega)
        have h0 := World.cell?_spot g1
        simpa [Addr.add] using h0
      subst hspot
      have hb := block_lt_of_cell h1
      refine ⟨b, off, (q j).2.1, (q j).2.2, rfl, by rw [Addr.add_lit] at hb; exact hb, ?_, ?_, ?_, ?_⟩
      · simpa [Addr.add_lit] using h1
      · simpa [Addr.add_lit, Nat.add_assoc] using h2
      · simpa using h3
      · simpa using h4
    · rw [hxx]
      have := bulk_weight (fun i => (q i).1) (fun i => DataW.agg [D0 i, D1 i]) (List.range len) (fun i hi => by
        have h5 := (hq i (List.mem_range.1 hi)).2.2.2.2
        have h0 := bulk_one (D0 i)
        simp only [Rows.uptoBulk, Rows.uptoBulkAll]; omega)
      simp only [Rows.uptoBulk]
      omega
end
end Go.Proofs.Ytnclbonoenjbeaa.RecW
