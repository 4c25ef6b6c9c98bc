/-
  What arguments read as: bytes, records, rows of records.
-/
import Derived.Test.YtnclbonoenjbeaaRecLow
import Derived.Test.YtnclbonoenjbeaaWordsArg
import Derived.Deep.SlicePairs
import Derived.Lib.SmallJoins
namespace Go.Proofs.Ytnclbonoenjbeaa.RecW
set_option linter.unusedVariables false
open Go.RowKit Go.Proofs Go.Proofs.Ytnclbonoenjbeaa Go.Proofs.Ytnclbonoenjbeaa.Wd Go.ChangeShapes Go.WideShapes
open Go.Proofs.Ytnclbonoenjbeaa.Rec (R)
section
variable {H : Type} {enc : TypeId × Value → H} {W : World}
theorem trod_bytes {base : Nat} {spare : Nat → Bool} {held : Bool} {fuel : Nat} {v : Value} {x : DataW H × List MemPlace} (hs : ∀ b, spare b = true) (h : DataW.trod enc Try.prog W base spare held fuel 24 [v] = some x) :
    ∃ A c l, v = .slice A l.length c ∧ l.length ≤ c ∧ c ≤ maxLen ∧ Bytes W W.heap.size A l := by
  rcases open_ints Try.underlying24 Try.underlying5 (by kernel_rfl) h with ⟨hcs, _⟩ | ⟨a, l, c, zs, hcs, _, hl, hm, hz, _, hcell, hwz⟩
  · simp at hcs
    subst hcs
    exact ⟨none, 0, [], rfl, Nat.le_refl _, by simp [maxLen], Row.nil⟩
  · simp at hcs
    subst hcs
    rw [if_pos (hs _)] at hz
    have w2 : (some a = none ∧ l = 0 ∧ c = 0 ∧ zs = []) ∨ ∃ y, some a = some y ∧ l ≤ c ∧ c ≤ maxLen ∧ zs.length = c ∧ (∀ i, i < zs.length → W.cell? (y.add i) = some (.int .u8 (zs.getD i 0))) ∧ ∀ n ∈ zs, (Lit.int .u8 n).wf = true := .inr ⟨a, rfl, hl, hm, by simpa using hz, hcell, hwz⟩
    obtain ⟨b, rfl, h1, h2, h3⟩ := bytes_arg W.heap.size w2 (by intro x hx hlen; cases hx; exact slice_arg_lt w2 hlen)
    exact ⟨_, _, b, rfl, h1, h2, h3⟩
theorem trod_u8 {base : Nat} {spare : Nat → Bool} {held : Bool} {fuel : Nat} {v : Value} {x : DataW H × List MemPlace} (h : DataW.trod enc Try.prog W base spare held fuel 5 [v] = some x) : ∃ k : UInt8, v = .int .u8 (k.toNat : Nat) := by
  obtain ⟨n, hx, _, hw⟩ := DataW.trod_int Try.underlying5 h
  simp at hx
  have hb := bounds_u8 hw
  refine ⟨UInt8.ofNat n.toNat, ?_⟩
  rw [hx, UInt8.toNat_ofNat_of_lt' (by simp [UInt8.size]; omega)]
  congr 1; omega
theorem open_rec {r : Reach} {b0 : Nat} {base : Nat} {spare : Nat → Bool} {held : Bool} {v : Value} {d : DataW H} {p : List MemPlace} (hs : ∀ b, spare b = true) (hv : Value.okWide Try.prog W r b0 42 v) (h : DataW.Trod enc Try.prog W base spare held 42 v d p) :
    ∃ (s : R) (A : Option Addr) (c : Nat), v = .agg #[.int .u8 (s.1.toNat : Nat), .slice A s.2.length c] ∧ s.2.length ≤ c ∧ c ≤ maxLen ∧ Bytes W W.heap.size A s.2 := by
  obtain ⟨v0, v1, y0, y1, n, rfl, _, _, h0, h1⟩ := Joins.open_agg2 Try.underlying42 (by kernel_rfl) (by kernel_rfl) hv h
  obtain ⟨k, rfl⟩ := trod_u8 h0
  obtain ⟨A, c, l, rfl, h2, h3, h4⟩ := trod_bytes hs h1
  exact ⟨(k, l), A, c, rfl, h2, h3, h4⟩
theorem open_recs {base : Nat} {spare : Nat → Bool} {held : Bool} {fuel : Nat} {v : Value} {x : DataW H × List MemPlace} (hs : ∀ b, spare b = true) (h : DataW.trod enc Try.prog W base spare held fuel 69 [v] = some x) :
    ∃ (rs : List R) (A : Option Addr) (c : Nat), v = .slice A rs.length c ∧ rs.length ≤ c ∧ c ≤ maxLen ∧ Recs W W.heap.size A rs := by
  rcases Deep.open_slice_pairs Try.underlying69 Try.underlying42 (by kernel_rfl) rfl rfl (by kernel_rfl) (by kernel_rfl) h with ⟨hcs, _⟩ | ⟨a, len, cap, m, n, V0, V1, D0, D1, P0, P1, hcs, _, hl, hm, hmm, _, hx⟩
  · simp at hcs
    subst hcs
    exact ⟨[], none, 0, rfl, Nat.le_refl _, by simp [maxLen], Recs.nil⟩
  · simp at hcs
    subst hcs
    rw [if_pos (hs _)] at hmm
    subst hmm
    obtain ⟨q, hq⟩ := Deep.choose_lt (n := len) (α := R × Option Addr × Nat) (p := fun i s => W.cell? (a.add (i * 2)) = some (.int .u8 (s.1.1.toNat : Nat)) ∧ W.cell? (a.add (i * 2 + 1)) = some (.slice s.2.1 s.1.2.length s.2.2) ∧ s.1.2.length ≤ s.2.2 ∧ Bytes W W.heap.size s.2.1 s.1.2) (fun i hi => by
      obtain ⟨g0, g1, h0, h1⟩ := hx i (by omega)
      obtain ⟨k, hk⟩ := trod_u8 h0
      obtain ⟨A', c', l', hl', h2, h3, h4⟩ := trod_bytes hs h1
      exact ⟨((k, l'), A', c'), by rw [g0, hk], by rw [g1, hl'], h2, h4⟩)
    refine ⟨(List.range len).map fun i => (q i).1, some a, _, by simp, by simpa using hl, hm, fun j hj => ?_⟩
    have hj' : j < len := by simpa using hj
    obtain ⟨h1, h2, h3, h4⟩ := hq j hj'
    obtain ⟨b, off, spot⟩ := a
    have hspot : spot = none := by
      obtain ⟨g1, _⟩ := hq 0 (by omega)
      have h0 := World.cell?_spot g1
      simpa [Addr.add] using h0
    subst hspot
    have hb := block_lt_of_cell h1
    refine ⟨b, off, (q j).2.1, (q j).2.2, rfl, by rw [Addr.add_lit] at hb; exact hb, ?_, ?_, ?_, ?_⟩
    · simpa [Addr.add_lit] using h1
    · simpa [Addr.add_lit, Nat.add_assoc] using h2
    · simpa using h3
    · simpa using h4
end
end Go.Proofs.Ytnclbonoenjbeaa.RecW
