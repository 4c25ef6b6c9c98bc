/-
  What an argument of edges reads as.
-/
import Derived.Test.YtclbpohhmaojcaaGraphLow
import Derived.Test.YtclbpohhmaojcaaWordsArg
import Derived.Deep.Slices
namespace Go.Proofs.Ytclbpohhmaojcaa.GrW
set_option linter.unusedVariables false
open Go Go.RowKit Go.Proofs Go.Proofs.Ytclbpohhmaojcaa Go.Proofs.Ytclbpohhmaojcaa.Wd Go.ChangeShapes Go.WideShapes
theorem u8_of {x : Int} (h : (Lit.int .u8 x).wf = true) : ∃ a : Nat, x = a ∧ a < 256 := by
  have := bounds_u8 h
  exact ⟨x.toNat, by omega, by omega⟩
section
variable {H : Type} {enc : TypeId × Value → H} {W : World}
theorem edge_field {base : Nat} {spare : Nat → Bool} {held : Bool} {fuel : Nat} {cs : List Value} {x : DataW H × List MemPlace} {fs : Array Field} {i : Nat} {f : Field} (hu : Try.prog.underlying 32 = some (.struct fs)) (hf : fs[i]? = some f) (ht : f.type = 3) (h : DataW.trod enc Try.prog W base spare held fuel 32 cs = some x) :
    ∃ z, cs[f.offset]? = some (.int .i64 z) := by
  obtain ⟨xs, m, _, _, hl, hlen, hg⟩ := DataW.trod_struct hu h
  have h1 := hg i f hf
  rw [ht, List.getElem?_eq_getElem (by rw [hlen]; exact (Array.getElem?_eq_some_iff.1 hf).1)] at h1
  obtain ⟨z, hz, _⟩ := DataW.trod_int Try.underlying3 h1
  have h2 : ((cs.drop f.offset).take (Try.prog.cellsOf 3))[0]? = some (.int .i64 z) := by rw [hz]; rfl
  rw [List.getElem?_take_of_lt (by rw [show Try.prog.cellsOf 3 = 1 by kernel_rfl]; omega), List.getElem?_drop] at h2
  exact ⟨z, h2⟩
theorem open_edges {base : Nat} {spare : Nat → Bool} {held : Bool} {fuel : Nat} {v : Value} {x : DataW H × List MemPlace} (hs : ∀ b, spare b = true) (h : DataW.trod enc Try.prog W base spare held fuel 22 [v] = some x) :
    ∃ (l : List (Int × Int)) (A : Option Addr) (c : Nat), v = .slice A l.length c ∧ l.length ≤ c ∧ c ≤ maxLen ∧ EdgesAt W W.heap.size A l := by
  rcases Deep.open_slice Try.underlying22 h with ⟨hcs, _⟩ | ⟨a, len, cap, m, n, D, Pl, hcs, _, hl, hm, hmm, _, hx⟩
  · simp at hcs
    subst hcs
    exact ⟨[], none, 0, rfl, Nat.le_refl _, by simp [maxLen], fun j hj => by simp at hj⟩
  · simp at hcs
    subst hcs
    have hlm : len ≤ m := by rw [hmm]; split <;> omega
    have hC : Try.prog.cellsOf 32 = 2 := by kernel_rfl
    rw [hC] at hx
    obtain ⟨q, hq⟩ := Deep.choose_lt (n := len) (α := List Value × Int × Int) (p := fun i s => W.cells? base (a.add (i * 2)) 2 = some s.1 ∧ s.1[0]? = some (.int .i64 s.2.1) ∧ s.1[1]? = some (.int .i64 s.2.2)) (fun i hi => by
      obtain ⟨cs', h1, h2⟩ := hx i (by omega)
      obtain ⟨z0, h3⟩ := edge_field (i := 0) Try.underlying32 rfl rfl h2
      obtain ⟨z1, h4⟩ := edge_field (i := 1) Try.underlying32 rfl rfl h2
      exact ⟨(cs', z0, z1), h1, h3, h4⟩)
    have hspot : 0 < len → a.spot = none := fun h0 => by
      obtain ⟨h1, _⟩ := hq 0 h0
      obtain ⟨_, _, hcell⟩ := World.cells?_some h1
      have h2 := hcell 0 (by omega)
      rw [List.getElem?_eq_getElem (by have := (World.cells?_some h1).2.1; omega)] at h2
      simpa [Addr.add] using World.cell?_spot h2
    refine ⟨(List.range len).map fun i => (q i).2, some a, cap, by simp, by simpa using hl, hm, fun j hj => ?_⟩
    have hj' : j < len := by simpa using hj
    obtain ⟨h1, h3, h4⟩ := hq j hj'
    obtain ⟨_, hlen, hcell⟩ := World.cells?_some h1
    obtain ⟨b, off, spot⟩ := a
    have hspot' : spot = none := hspot (by omega)
    subst hspot'
    have hcells : ∀ i v, (q j).1[i]? = some v → W.cell? ⟨b, off + j * 2 + i, none⟩ = some v := fun i v hv => by
      have hi : i < 2 := by have := (List.getElem?_eq_some_iff.1 hv).1; omega
      have := hcell i hi
      rw [Deep.add_add, Addr.add_lit, hv, ← Nat.add_assoc] at this
      exact this
    have hb : b < W.heap.size := lt_of_cell (hcells 0 _ h3)
    have e : ((List.range len).map fun i => (q i).2)[j] = (q j).2 := by simp
    refine ⟨b, off, rfl, hb, ?_, ?_⟩
    · rw [e]; exact hcells 0 _ h3
    · rw [e]; exact hcells 1 _ h4
end
end Go.Proofs.Ytclbpohhmaojcaa.GrW
