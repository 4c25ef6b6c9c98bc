/-
  What arguments read as: rows of numbers; rows of nodes.
-/
import Derived.Test.YtcdjhafpnfgnlaaScopeWalks1
import Derived.Test.YtcdjhafpnfgnlaaWordsArg
import Derived.Deep.Slices
namespace Go.Proofs.Ytcdjhafpnfgnlaa.ScW
set_option linter.unusedVariables false
open Go.RowKit Go.Proofs Go.Proofs.Ytcdjhafpnfgnlaa Go.Proofs.Ytcdjhafpnfgnlaa.Wd Go.ChangeShapes Go.WideShapes
open Go.Proofs.Ytcdjhafpnfgnlaa.Sc (N own flow)
/-- Each cell lies in a field. -/
def coverB (P : Program) (fs : Array Field) (n : Nat) : Bool := (List.range n).all fun j => fs.any fun f => decide (f.offset ≤ j) && decide (j < f.offset + P.cellsOf f.type)
/-- Numbers, strings, slices, and structs of these. -/
def flatB (P : Program) : Nat → TypeId → Bool
  | 0, _ => false
  | n + 1, t => match P.underlying t with
    | some (.int _) => true
    | some .string => true
    | some (.slice _) => true
    | some (.struct fs) => coverB P fs (P.cellsOf t) && fs.all fun f => flatB P n f.type
    | _ => false
section
variable {H : Type} {enc : TypeId × Value → H} {P : Program} {W : World} {base : Nat} {spare : Nat → Bool} {held : Bool}
theorem flat_one : ∀ (n : Nat) (t : TypeId) (fuel : Nat) (cs : List Value) (x : DataW H × List MemPlace), flatB P n t = true → DataW.trod enc P W base spare held fuel t cs = some x → ∀ v ∈ cs, v.oneCell' = true := by
  intro n
  induction n with
  | zero => intro t fuel cs x h; cases h
  | succ n ih =>
    intro t fuel cs x h ht
    unfold flatB at h
    split at h
    · rename_i k hu
      obtain ⟨z, rfl, _⟩ := DataW.trod_int hu ht
      intro v hv; simp at hv; subst hv; rfl
    · rename_i hu
      obtain ⟨z, rfl, _⟩ := DataW.trod_string hu ht
      intro v hv; simp at hv; subst hv; rfl
    · rename_i e hu
      rcases DataW.trod_slice hu ht with ⟨rfl, _⟩ | ⟨a, len, cap, _, _, _, _, rfl, _⟩
      · intro v hv; simp at hv; subst hv; rfl
      · intro v hv; simp at hv; subst hv; rfl
    · rename_i fs hu
      simp only [Bool.and_eq_true] at h
      obtain ⟨xs, m, _, _, hl, hlen, hf⟩ := DataW.trod_struct hu ht
      intro v hv
      obtain ⟨j, hj, rfl⟩ := List.mem_iff_getElem.1 hv
      have hc := List.all_eq_true.1 h.1 j (List.mem_range.2 (by omega))
      obtain ⟨f, hfm, hfj⟩ := Array.any_eq_true'.1 hc
      simp only [Bool.and_eq_true, decide_eq_true_eq] at hfj
      have hff := Array.all_eq_true'.1 h.2 f hfm
      obtain ⟨i, hi, hfi⟩ := Array.mem_iff_getElem.1 hfm
      have hxi := hf i f (by rw [← hfi]; exact Array.getElem?_eq_getElem hi)
      rw [List.getElem?_eq_getElem (by omega)] at hxi
      refine ih f.type m _ _ hff hxi cs[j] ?_
      refine List.mem_iff_getElem?.2 ⟨j - f.offset, ?_⟩
      rw [List.getElem?_take_of_lt (by omega), List.getElem?_drop, show f.offset + (j - f.offset) = j by omega]
      exact List.getElem?_eq_getElem hj
    · cases h
end
section
variable {H : Type} {enc : TypeId × Value → H} {W : World}
theorem node_field {base : Nat} {spare : Nat → Bool} {held : Bool} {fuel : Nat} {cs : List Value} {x : DataW H × List MemPlace} {fs : Array Field} {i : Nat} {f : Field} (hu : Try.prog.underlying 31 = some (.struct fs)) (hf : fs[i]? = some f) (ht : f.type = 3) (h : DataW.trod enc Try.prog W base spare held fuel 31 cs = some x) :
    ∃ z, cs[f.offset]? = some (.int .i64 z) := by
  obtain ⟨xs, m, _, _, hl, hlen, hg⟩ := DataW.trod_struct hu h
  have h1 := hg i f hf
  rw [ht, List.getElem?_eq_getElem (by rw [hlen]; exact (Array.getElem?_eq_some_iff.1 hf).1)] at h1
  obtain ⟨z, hz, _⟩ := DataW.trod_int Try.underlying3 h1
  have h2 : ((cs.drop f.offset).take (Try.prog.cellsOf 3))[0]? = some (.int .i64 z) := by rw [hz]; rfl
  rw [List.getElem?_take_of_lt (by rw [show Try.prog.cellsOf 3 = 1 by kernel_rfl]; omega), List.getElem?_drop] at h2
  exact ⟨z, h2⟩
theorem open_nodes {base : Nat} {spare : Nat → Bool} {held : Bool} {fuel : Nat} {v : Value} {x : DataW H × List MemPlace} (hs : ∀ b, spare b = true) (h : DataW.trod enc Try.prog W base spare held fuel 23 [v] = some x) :
    ∃ (ns : List N) (A : Option Addr) (c : Nat), v = .slice A ns.length c ∧ ns.length ≤ c ∧ c ≤ maxLen ∧ Nodes W W.heap.size A ns := by
  rcases Deep.open_slice Try.underlying23 h with ⟨hcs, _⟩ | ⟨a, len, cap, m, n, D, Pl, hcs, _, hl, hm, hmm, _, hx⟩
  · simp at hcs
    subst hcs
    exact ⟨[], none, 0, rfl, Nat.le_refl _, by simp [maxLen], Nodes.nil⟩
  · simp at hcs
    subst hcs
    have hlm : len ≤ m := by rw [hmm]; split <;> omega
    have hC : Try.prog.cellsOf 31 = 16 := by kernel_rfl
    rw [hC] at hx
    obtain ⟨q, hq⟩ := Deep.choose_lt (n := len) (α := List Value × Int × Int) (p := fun i s => W.cells? base (a.add (i * 16)) 16 = some s.1 ∧ s.1[3]? = some (.int .i64 s.2.2) ∧ s.1[4]? = some (.int .i64 s.2.1) ∧ ∀ v ∈ s.1, v.oneCell' = true) (fun i hi => by
      obtain ⟨cs', h1, h2⟩ := hx i (by omega)
      obtain ⟨z3, h3⟩ := node_field (i := 3) Try.underlying31 rfl rfl h2
      obtain ⟨z4, h4⟩ := node_field (i := 4) Try.underlying31 rfl rfl h2
      exact ⟨(cs', z4, z3), h1, h3, h4, flat_one 3 _ _ _ _ (by kernel_rfl) h2⟩)
    have hspot : 0 < len → a.spot = none := fun h0 => by
      obtain ⟨h1, _⟩ := hq 0 h0
      obtain ⟨_, _, hcell⟩ := World.cells?_some h1
      have h2 := hcell 0 (by omega)
      rw [List.getElem?_eq_getElem (by have := (World.cells?_some h1).2.1; omega)] at h2
      simpa [Addr.add] using World.cell?_spot h2
    refine ⟨(List.range len).map fun i => (q i).2, some a, cap, by simp, by simpa using hl, hm, fun j hj => ?_⟩
    have hj' : j < len := by simpa using hj
    obtain ⟨h1, h3, h4, h5⟩ := hq j hj'
    obtain ⟨_, hlen, hcell⟩ := World.cells?_some h1
    obtain ⟨b, off, spot⟩ := a
    have hspot' : spot = none := hspot (by omega)
    subst hspot'
    have hcells : ∀ i v, (q j).1[i]? = some v → W.cell? ⟨b, off + j * 16 + i, none⟩ = some v := fun i v hv => by
      have hi : i < 16 := by have := (List.getElem?_eq_some_iff.1 hv).1; omega
      have := hcell i hi
      rw [Deep.add_add, Addr.add_lit, hv, ← Nat.add_assoc] at this
      exact this
    have hb : b < W.heap.size := by
      have := block_lt_of_cell (hcells 3 _ h3)
      exact this
    have e : ((List.range len).map fun i => (q i).2).getD j (-1, 0) = (q j).2 := by simp [List.getD, hj']
    refine ⟨b, off, (q j).1, rfl, hb, hlen, hcells, ?_, ?_, h5⟩
    · unfold flow; rw [e]; exact h3
    · unfold own; rw [e]; exact h4
end
/-- What an argument of numbers reads as. -/
theorem nums_arg {w : World} {a : Option Addr} {len cap : Nat} {zs : List Int}
    (h : (a = none ∧ len = 0 ∧ cap = 0 ∧ zs = []) ∨ ∃ x, a = some x ∧ len ≤ cap ∧ cap ≤ maxLen ∧ zs.length = cap ∧ (∀ i, i < zs.length → w.cell? (x.add i) = some (.int .i64 (zs.getD i 0))) ∧ ∀ n ∈ zs, (Lit.int .i64 n).wf = true) :
    ∃ l : List Int, len = l.length ∧ len ≤ cap ∧ cap ≤ maxLen ∧ Nums w w.heap.size a l := by
  rcases h with ⟨rfl, rfl, rfl, rfl⟩ | ⟨x, rfl, h1, h2, h3, h4, h5⟩
  · exact ⟨[], rfl, Nat.le_refl _, by simp [maxLen], Row.nil⟩
  · refine ⟨zs.take len, by simp; omega, h1, h2, fun j hj => ?_⟩
    have hj' : j < len := by simp [iv] at hj; omega
    obtain ⟨b, off, spot⟩ := x
    have hc := h4 j (by omega)
    have hspot : spot = none := by
      have h0 := World.cell?_spot (h4 0 (by omega))
      simpa [Addr.add] using h0
    subst hspot
    rw [Addr.add_lit] at hc
    refine ⟨b, off, rfl, block_lt_of_cell hc, ?_⟩
    rw [hc]
    have hg : zs.getD j 0 = zs[j]'(by omega) := by simp [show j < zs.length by omega]
    rw [hg]
    simp [iv]
end Go.Proofs.Ytcdjhafpnfgnlaa.ScW
