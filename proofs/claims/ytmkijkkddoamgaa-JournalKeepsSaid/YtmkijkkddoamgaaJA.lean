/-
  Words and walks, one behind the other: RecArg, BatArg.
-/
import Derived.Test.YtmkijkkddoamgaaJR
import Derived.Test.YtmkijkkddoamgaaJW
import Derived.Deep.SlicePairs
import Derived.Lib.SmallJoins
import Derived.Test.YtmkijkkddoamgaaJB0
import Derived.Deep.Slices
import Derived.SizedLaws
namespace Go.Proofs.Ytmkijkkddoamgaa.RecW
set_option linter.unusedVariables false
open Go.RowKit Go.Proofs Go.Proofs.Ytmkijkkddoamgaa Go.Proofs.Ytmkijkkddoamgaa.Wd Go.ChangeShapes Go.WideShapes
open Go.Proofs.Ytmkijkkddoamgaa.Rec (R)
section
variable {H : Type} {enc : TypeId × Value → H} {W : World}
theorem trod_bytes {base : Nat} {spare : Nat → Bool} {held : Bool} {fuel : Nat} {v : Value} {x : DataW H × List MemPlace} (hs : ∀ b, spare b = true) (h : DataW.trod enc Try.prog W base spare held fuel 23 [v] = some x) :
    ∃ A c l, v = .slice A l.length c ∧ l.length ≤ c ∧ c ≤ maxLen ∧ Bytes W W.heap.size A l := by
  rcases open_ints Try.underlying23 Try.underlying5 (by kernel_rfl) h with ⟨hcs, _⟩ | ⟨a, l, c, zs, hcs, _, hl, hm, hz, _, hcell, hwz⟩
  · simp at hcs
    subst hcs
    exact ⟨none, 0, [], rfl, Nat.le_refl _, by simp [maxLen], Row.nil⟩
  · simp at hcs
    subst hcs
    rw [if_pos (hs _)] at hz
    have w2 : (some a = none ∧ l = 0 ∧ c = 0 ∧ zs = []) ∨ ∃ y, some a = some y ∧ l ≤ c ∧ c ≤ maxLen ∧ zs.length = c ∧ (∀ i, i < zs.length → W.cell? (y.add i) = some (.int .u8 (zs.getD i 0))) ∧ ∀ n ∈ zs, (Lit.int .u8 n).wf = true := .inr ⟨a, rfl, hl, hm, by simpa using hz, hcell, hwz⟩
    obtain ⟨b, rfl, h1, h2, h3⟩ := bytes_arg W.heap.size w2 (by intro x hx hlen; cases hx; exact slice_arg_lt w2 hlen)
    exact ⟨_, _, b, rfl, h1, h2, h3⟩
theorem trod_u8 {base : Nat} {spare : Nat → Bool} {held : Bool} {fuel : Nat} {v : Value} {x : DataW H × List MemPlace} (h : DataW.trod enc Try.prog W base spare held fuel 5 [v] = some x) : ∃ k : UInt8, v = .int .u8 (k.toNat : Nat) := by
  obtain ⟨n, hx, _, hw⟩ := DataW.trod_int Try.underlying5 h
  simp at hx
  have hb := bounds_u8 hw
  refine ⟨UInt8.ofNat n.toNat, ?_⟩
  rw [hx, UInt8.toNat_ofNat_of_lt' (by simp [UInt8.size]; omega)]
  congr 1; omega
end
end Go.Proofs.Ytmkijkkddoamgaa.RecW

namespace Go.Proofs.Ytmkijkkddoamgaa.BatW
set_option linter.unusedVariables false
open Go.RowKit Go.Proofs Go.Proofs.Ytmkijkkddoamgaa Go.Proofs.Ytmkijkkddoamgaa.Wd Go.Proofs.Ytmkijkkddoamgaa.RecW Go.ChangeShapes Go.WideShapes
open Go.Proofs.Ytmkijkkddoamgaa.Bat (B)
section
variable {H : Type} {enc : TypeId × Value → H} {W : World}
theorem open_brows {base : Nat} {spare : Nat → Bool} {held : Bool} {fuel : Nat} {v : Value} {x : DataW H × List MemPlace} (hs : ∀ b, spare b = true) (h : DataW.trod enc Try.prog W base spare held fuel 30 [v] = some x) :
    ∃ (ls : B) (A : Option Addr) (c : Nat), v = .slice A ls.length c ∧ ls.length ≤ c ∧ c ≤ maxLen ∧ BRows W W.heap.size A ls := by
  rcases Deep.open_slice1 Try.underlying30 (by kernel_rfl) h with ⟨hcs, _⟩ | ⟨a, len, cap, m, n, V, D, Pl, hcs, _, hl, hm, hmm, _, hx⟩
  · simp at hcs
    subst hcs
    exact ⟨[], none, 0, rfl, Nat.le_refl _, by simp [maxLen], BRows.nil⟩
  · simp at hcs
    subst hcs
    rw [if_pos (hs _)] at hmm
    subst hmm
    obtain ⟨q, hq⟩ := Deep.choose_lt (n := len) (α := List UInt8 × Value) (p := fun i s => W.cell? (a.add i) = some s.2 ∧ SB W W.heap.size s.2 s.1) (fun i hi => by
      obtain ⟨g0, g1⟩ := hx i (by omega)
      obtain ⟨A', c', l', hl', h2, h3, h4⟩ := RecW.trod_bytes hs g1
      exact ⟨(l', .slice A' l'.length c'), by rw [g0, hl'], A', c', rfl, h2, h3, h4⟩)
    refine ⟨(List.range len).map fun i => (q i).1, some a, _, by simp, by simpa using hl, hm, fun j hj => ?_⟩
    have hj' : j < len := by simpa using hj
    obtain ⟨h1, h2⟩ := hq j hj'
    obtain ⟨b, off, spot⟩ := a
    have hspot : spot = none := by
      obtain ⟨g1, _⟩ := hq 0 (by omega)
      have h0 := World.cell?_spot g1
      simpa [Addr.add] using h0
    subst hspot
    have hb := block_lt_of_cell h1
    refine ⟨b, off, (q j).2, rfl, by rw [Addr.add_lit] at hb; exact hb, ?_, ?_⟩
    · simpa [Addr.add_lit] using h1
    · simpa using h2
theorem open_brows3 {base : Nat} {spare : Nat → Bool} {held : Bool} {fuel : Nat} {v : Value} {x : DataW H × List MemPlace} (hs : ∀ b, spare b = true) (h : DataW.trod enc Try.prog W base spare held fuel 22 [v] = some x) :
    ∃ (ls : List B) (A : Option Addr) (c : Nat), v = .slice A ls.length c ∧ ls.length ≤ c ∧ c ≤ maxLen ∧ BRows3 W W.heap.size A ls := by
  rcases Deep.open_slice1 Try.underlying22 (by kernel_rfl) h with ⟨hcs, _⟩ | ⟨a, len, cap, m, n, V, D, Pl, hcs, _, hl, hm, hmm, _, hx⟩
  · simp at hcs
    subst hcs
    exact ⟨[], none, 0, rfl, Nat.le_refl _, by simp [maxLen], BRows3.nil⟩
  · simp at hcs
    subst hcs
    rw [if_pos (hs _)] at hmm
    subst hmm
    obtain ⟨q, hq⟩ := Deep.choose_lt (n := len) (α := B × Value) (p := fun i s => W.cell? (a.add i) = some s.2 ∧ SR W W.heap.size s.2 s.1) (fun i hi => by
      obtain ⟨g0, g1⟩ := hx i (by omega)
      obtain ⟨l', A', c', hl', h2, h3, h4⟩ := open_brows hs g1
      exact ⟨(l', .slice A' l'.length c'), by rw [g0, hl'], A', c', rfl, h2, h3, h4⟩)
    refine ⟨(List.range len).map fun i => (q i).1, some a, _, by simp, by simpa using hl, hm, fun j hj => ?_⟩
    have hj' : j < len := by simpa using hj
    obtain ⟨h1, h2⟩ := hq j hj'
    obtain ⟨b, off, spot⟩ := a
    have hspot : spot = none := by
      obtain ⟨g1, _⟩ := hq 0 (by omega)
      have h0 := World.cell?_spot g1
      simpa [Addr.add] using h0
    subst hspot
    have hb := block_lt_of_cell h1
    refine ⟨b, off, (q j).2, rfl, by rw [Addr.add_lit] at hb; exact hb, ?_, ?_⟩
    · simpa [Addr.add_lit] using h1
    · simpa using h2
theorem bytesU8 : Try.prog.bytesOf 5 = 1 := by kernel_rfl
theorem trod_bytes_sized {base : Nat} {spare : Nat → Bool} {held : Bool} {fuel : Nat} {v : Value} {x : DataW H × List MemPlace} (hs : ∀ b, spare b = true) (h : DataW.trod enc Try.prog W base spare held fuel 23 [v] = some x) :
    ∃ A c l, v = .slice A l.length c ∧ l.length ≤ c ∧ c ≤ maxLen ∧ Bytes W W.heap.size A l ∧ ((x.1.weights Try.prog 23).all (· ≤ reachBytes) = true → l.length ≤ 140737488351232) := by
  obtain ⟨A, c, l, rfl, h1, h2, h3⟩ := RecW.trod_bytes hs h
  refine ⟨A, c, l, rfl, h1, h2, h3, fun hw => ?_⟩
  rcases open_ints Try.underlying23 Try.underlying5 (by kernel_rfl) h with ⟨hcs, _⟩ | ⟨a, len, cap, zs, hcs, _, hl, hm, hz, hx, _, _⟩
  · simp at hcs
    have := hcs.2.1
    omega
  · simp at hcs
    obtain ⟨_, e2, e3⟩ := hcs
    rw [hx] at hw
    have := sized_slice (P := Try.prog) (ts := [23]) (ds := [_]) (j := 0) (t := 23) (e := 5) (by simpa [DataW.weightsEach] using hw) rfl rfl Try.underlying23
    rw [bytesU8] at this
    simp only [lits, List.length_map, List.length_take, List.length_drop, reachBytes] at this
    rw [if_pos (hs _)] at hz
    omega
theorem weightsAll_mem {P : Program} {e : TypeId} {d : DataW H} {n : Nat} (hn : n ∈ d.weights P e) : ∀ {ds : List (DataW H)}, d ∈ ds → n ∈ DataW.weightsAll P e ds
  | d0 :: ds, h => by
    simp only [DataW.weightsAll, List.mem_append]
    rcases List.mem_cons.1 h with h | h
    · subst h; exact .inl hn
    · exact .inr (weightsAll_mem hn h)
theorem open_brows_sized {base : Nat} {spare : Nat → Bool} {held : Bool} {fuel : Nat} {v : Value} {x : DataW H × List MemPlace} (hs : ∀ b, spare b = true) (h : DataW.trod enc Try.prog W base spare held fuel 30 [v] = some x) :
    ∃ (ls : B) (A : Option Addr) (c : Nat), v = .slice A ls.length c ∧ ls.length ≤ c ∧ c ≤ maxLen ∧ BRows W W.heap.size A ls ∧ ((x.1.weights Try.prog 30).all (· ≤ reachBytes) = true → ∀ d ∈ ls, d.length ≤ 140737488351232) := by
  rcases Deep.open_slice1 Try.underlying30 (by kernel_rfl) h with ⟨hcs, _⟩ | ⟨a, len, cap, m, n, V, D, Pl, hcs, _, hl, hm, hmm, hxx, hx⟩
  · simp at hcs
    subst hcs
    exact ⟨[], none, 0, rfl, Nat.le_refl _, by simp [maxLen], BRows.nil, fun _ d hd => by cases hd⟩
  · simp at hcs
    subst hcs
    rw [if_pos (hs _)] at hmm
    subst hmm
    obtain ⟨q, hq⟩ := Deep.choose_lt (n := len) (α := List UInt8 × Value) (p := fun i s => W.cell? (a.add i) = some s.2 ∧ SB W W.heap.size s.2 s.1 ∧ (((D i).weights Try.prog 23).all (· ≤ reachBytes) = true → s.1.length ≤ 140737488351232)) (fun i hi => by
      obtain ⟨g0, g1⟩ := hx i (by omega)
      obtain ⟨A', c', l', hl', h2, h3, h4, h5⟩ := trod_bytes_sized hs g1
      exact ⟨(l', .slice A' l'.length c'), by rw [g0, hl'], ⟨A', c', rfl, h2, h3, h4⟩, h5⟩)
    refine ⟨(List.range len).map fun i => (q i).1, some a, _, by simp, by simpa using hl, hm, fun j hj => ?_, fun hw d hd => ?_⟩
    · have hj' : j < len := by simpa using hj
      obtain ⟨h1, h2, _⟩ := hq j hj'
      obtain ⟨b, off, spot⟩ := a
      have hspot : spot = none := by
        obtain ⟨g1, _⟩ := hq 0 (by omega)
        have h0 := World.cell?_spot g1
        simpa [Addr.add] using h0
      subst hspot
      have hb := block_lt_of_cell h1
      refine ⟨b, off, (q j).2, rfl, by rw [Addr.add_lit] at hb; exact hb, ?_, ?_⟩
      · simpa [Addr.add_lit] using h1
      · simpa using h2
    · obtain ⟨i, hi, rfl⟩ := List.mem_map.1 hd
      refine (hq i (List.mem_range.1 hi)).2.2 ?_
      rw [hxx] at hw
      simp only [DataW.weights, Try.underlying30] at hw
      rw [List.all_eq_true] at hw ⊢
      exact fun n hn => hw n (List.mem_cons_of_mem _ (List.mem_append_left _ (weightsAll_mem hn (List.mem_map_of_mem hi))))
end
end Go.Proofs.Ytmkijkkddoamgaa.BatW
