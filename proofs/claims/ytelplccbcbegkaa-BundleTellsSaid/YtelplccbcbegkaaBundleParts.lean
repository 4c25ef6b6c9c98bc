/-
  What an argument of bundles reads as.
-/
import Derived.Test.YtelplccbcbegkaaBundleRef3
import Derived.Test.YtelplccbcbegkaaBundleAwake
import Derived.SizedLaws
namespace Go.Proofs.Ytelplccbcbegkaa.OrW
set_option linter.unusedVariables false
open Go Go.RowKit Go.Proofs Go.Proofs.Ytelplccbcbegkaa Go.Proofs.Ytelplccbcbegkaa.Wd Go.ChangeShapes Go.WideShapes
/-- Bundles: how many more, and edges. -/
def PartsAt (w : World) (B : Nat) (A : Option Addr) (l : List (Int × List (Int × Int))) : Prop := ∀ j (h : j < l.length), ∃ (b off : Nat) (Ae : Option Addr) (ce : Nat), A = some ⟨b, off, none⟩ ∧ b < B ∧ w.cell? ⟨b, off + j * 2, none⟩ = some (.int .i64 l[j].1) ∧ w.cell? ⟨b, off + j * 2 + 1, none⟩ = some (.slice Ae l[j].2.length ce) ∧ l[j].2.length ≤ ce ∧ ce ≤ maxLen ∧ GrW.EdgesAt w B Ae l[j].2
theorem PartsAt.below {w w' : World} {B : Nat} {A : Option Addr} {l : List (Int × List (Int × Int))} (h : PartsAt w B A l) (hb : Below B w w') : PartsAt w' B A l := fun j hj => by
  obtain ⟨b, off, Ae, ce, h1, h2, h3, h4, h5, h6, h7⟩ := h j hj
  exact ⟨b, off, Ae, ce, h1, h2, (hb.cell (p := ⟨b, _, none⟩) h2).trans h3, (hb.cell (p := ⟨b, _, none⟩) h2).trans h4, h5, h6, h7.below hb⟩
section
variable {H : Type} {enc : TypeId × Value → H} {W : World}
theorem bytesEdge : Try.prog.bytesOf 34 = 16 := by kernel_rfl
theorem open_edges_sized {base : Nat} {spare : Nat → Bool} {held : Bool} {fuel : Nat} {v : Value} {x : DataW H × List MemPlace} (hs : ∀ b, spare b = true) (h : DataW.trod enc Try.prog W base spare held fuel 22 [v] = some x) :
    ∃ (l : List (Int × Int)) (A : Option Addr) (c : Nat), v = .slice A l.length c ∧ l.length ≤ c ∧ c ≤ maxLen ∧ GrW.EdgesAt W W.heap.size A l ∧ ((x.1.weights Try.prog 22).all (· ≤ reachBytes) = true → l.length ≤ 140737488351232) := by
  obtain ⟨l, A, c, rfl, h1, h2, h3⟩ := GrW.open_edges hs h
  refine ⟨l, A, c, rfl, h1, h2, h3, fun hw => ?_⟩
  rcases Deep.open_slice Try.underlying22 h with ⟨hcs, _⟩ | ⟨a, len, cap, m, n, D, Pl, hcs, _, hl, hm, hmm, hx, _⟩
  · simp at hcs
    have := hcs.2.1
    omega
  · simp at hcs
    obtain ⟨_, e2, e3⟩ := hcs
    rw [hx] at hw
    have := sized_slice (P := Try.prog) (ts := [22]) (ds := [_]) (j := 0) (t := 22) (e := 34) (by simpa [DataW.weightsEach] using hw) rfl rfl Try.underlying22
    rw [bytesEdge] at this
    simp only [List.length_map, List.length_range, reachBytes] at this
    omega
theorem part_int {base : Nat} {spare : Nat → Bool} {held : Bool} {fuel : Nat} {cs : List Value} {x : DataW H × List MemPlace} {fs : Array Field} {i : Nat} {f : Field} (hu : Try.prog.underlying 59 = some (.struct fs)) (hf : fs[i]? = some f) (ht : f.type = 3) (h : DataW.trod enc Try.prog W base spare held fuel 59 cs = some x) :
    ∃ z, cs[f.offset]? = some (.int .i64 z) := by
  obtain ⟨xs, m, _, _, hl, hlen, hg⟩ := DataW.trod_struct hu h
  have h1 := hg i f hf
  rw [ht, List.getElem?_eq_getElem (by rw [hlen]; exact (Array.getElem?_eq_some_iff.1 hf).1)] at h1
  obtain ⟨z, hz, _⟩ := DataW.trod_int Try.underlying3 h1
  have h2 : ((cs.drop f.offset).take (Try.prog.cellsOf 3))[0]? = some (.int .i64 z) := by rw [hz]; rfl
  rw [List.getElem?_take_of_lt (by rw [show Try.prog.cellsOf 3 = 1 by kernel_rfl]; omega), List.getElem?_drop] at h2
  exact ⟨z, h2⟩
set_option maxRecDepth 100000 in
theorem part_edges {base : Nat} {spare : Nat → Bool} {held : Bool} {fuel : Nat} {cs : List Value} {x : DataW H × List MemPlace} (hs : ∀ b, spare b = true) (h : DataW.trod enc Try.prog W base spare held fuel 59 cs = some x) :
    ∃ (l : List (Int × Int)) (A : Option Addr) (c : Nat), cs[1]? = some (.slice A l.length c) ∧ l.length ≤ c ∧ c ≤ maxLen ∧ GrW.EdgesAt W W.heap.size A l ∧ ((x.1.weights Try.prog 59).all (· ≤ reachBytes) = true → l.length ≤ 140737488351232) := by
  obtain ⟨xs, m, _, hx, hl, hlen, hg⟩ := DataW.trod_struct Try.underlying59 h
  rw [show Try.prog.cellsOf 59 = 2 by kernel_rfl] at hl
  have h1 := hg 1 _ rfl
  obtain ⟨c0, c1, rfl⟩ : ∃ c0 c1, cs = [c0, c1] := by
    match cs, hl with
    | [c0, c1], _ => exact ⟨c0, c1, rfl⟩
  have hxl : xs.length = 2 := by rw [hlen]; rfl
  obtain ⟨x0, x1, rfl⟩ : ∃ x0 x1, xs = [x0, x1] := by
    match xs, hxl with
    | [x0, x1], _ => exact ⟨x0, x1, rfl⟩
  have h2 : DataW.trod enc Try.prog W base spare held m 22 [c1] = some x1 := by
    have e : (([c0, c1] : List Value).drop 1).take (Try.prog.cellsOf 22) = [c1] := by
      rw [show Try.prog.cellsOf 22 = 1 by kernel_rfl]; rfl
    rw [← e]
    exact h1
  obtain ⟨l, A, c, rfl, g1, g2, g3, g4⟩ := open_edges_sized hs h2
  refine ⟨l, A, c, rfl, g1, g2, g3, fun hw => g4 ?_⟩
  rw [hx] at hw
  rw [List.all_eq_true] at hw ⊢
  intro k hk
  refine hw k ?_
  simp only [DataW.weights, Try.underlying59]
  exact DataW.weights_mem_each (j := 1) (t := 22) (d := x1.1) rfl rfl k hk
theorem weightsAll_mem {P : Program} {e : TypeId} {d : DataW H} {n : Nat} (hn : n ∈ d.weights P e) : ∀ {ds : List (DataW H)}, d ∈ ds → n ∈ DataW.weightsAll P e ds
  | d0 :: ds, h => by
    simp only [DataW.weightsAll, List.mem_append]
    rcases List.mem_cons.1 h with h | h
    · subst h; exact .inl hn
    · exact .inr (weightsAll_mem hn h)
theorem open_parts {base : Nat} {spare : Nat → Bool} {held : Bool} {fuel : Nat} {v : Value} {x : DataW H × List MemPlace} (hs : ∀ b, spare b = true) (h : DataW.trod enc Try.prog W base spare held fuel 48 [v] = some x) :
    ∃ (l : List (Int × List (Int × Int))) (A : Option Addr) (c : Nat), v = .slice A l.length c ∧ l.length ≤ c ∧ c ≤ maxLen ∧ PartsAt W W.heap.size A l ∧ ((x.1.weights Try.prog 48).all (· ≤ reachBytes) = true → ∀ p ∈ l, p.2.length ≤ 140737488351232) := by
  rcases Deep.open_slice Try.underlying48 h with ⟨hcs, _⟩ | ⟨a, len, cap, m, n, D, Pl, hcs, _, hl, hm, hmm, hxx, hx⟩
  · simp at hcs
    subst hcs
    exact ⟨[], none, 0, rfl, Nat.le_refl _, by simp [maxLen], fun j hj => by simp at hj, fun _ p hp => by cases hp⟩
  · simp at hcs
    subst hcs
    have hlm : len ≤ m := by rw [hmm]; split <;> omega
    have hC : Try.prog.cellsOf 59 = 2 := by kernel_rfl
    rw [hC] at hx
    obtain ⟨q, hq⟩ := Deep.choose_lt (n := len) (α := List Value × (Int × List (Int × Int)) × Option Addr × Nat) (p := fun i s => W.cells? base (a.add (i * 2)) 2 = some s.1 ∧ s.1[0]? = some (.int .i64 s.2.1.1) ∧ s.1[1]? = some (.slice s.2.2.1 s.2.1.2.length s.2.2.2) ∧ s.2.1.2.length ≤ s.2.2.2 ∧ s.2.2.2 ≤ maxLen ∧ GrW.EdgesAt W W.heap.size s.2.2.1 s.2.1.2 ∧ (((D i).weights Try.prog 59).all (· ≤ reachBytes) = true → s.2.1.2.length ≤ 140737488351232)) (fun i hi => by
      obtain ⟨cs', h1, h2⟩ := hx i (by omega)
      obtain ⟨z0, h3⟩ := part_int (i := 0) Try.underlying59 rfl rfl h2
      obtain ⟨l, Ae, ce, h4, h5, h6, h7, h8⟩ := part_edges hs h2
      exact ⟨(cs', (z0, l), Ae, ce), h1, h3, h4, h5, h6, h7, h8⟩)
    have hspot : 0 < len → a.spot = none := fun h0 => by
      obtain ⟨h1, _⟩ := hq 0 h0
      obtain ⟨_, _, hcell⟩ := World.cells?_some h1
      have h2 := hcell 0 (by omega)
      rw [List.getElem?_eq_getElem (by have := (World.cells?_some h1).2.1; omega)] at h2
      simpa [Addr.add] using World.cell?_spot h2
    refine ⟨(List.range len).map fun i => (q i).2.1, some a, cap, by simp, by simpa using hl, hm, fun j hj => ?_, fun hw p hp => ?_⟩
    · have hj' : j < len := by simpa using hj
      obtain ⟨h1, h3, h4, h5, h6, h7, -⟩ := hq j hj'
      obtain ⟨_, hlen, hcell⟩ := World.cells?_some h1
      obtain ⟨b, off, spot⟩ := a
      have hspot' : spot = none := hspot (by omega)
      subst hspot'
      have hcells : ∀ i v, (q j).1[i]? = some v → W.cell? ⟨b, off + j * 2 + i, none⟩ = some v := fun i v hv => by
        have hi : i < 2 := by have := (List.getElem?_eq_some_iff.1 hv).1; omega
        have := hcell i hi
        rw [Deep.add_add, Addr.add_lit, hv, ← Nat.add_assoc] at this
        exact this
      have hb : b < W.heap.size := GrW.lt_of_cell (hcells 0 _ h3)
      have e : ((List.range len).map fun i => (q i).2.1)[j] = (q j).2.1 := by simp
      refine ⟨b, off, (q j).2.2.1, (q j).2.2.2, rfl, hb, ?_, ?_, ?_, h6, ?_⟩
      · rw [e]; exact hcells 0 _ h3
      · rw [e]; exact hcells 1 _ h4
      · rw [e]; exact h5
      · rw [e]; exact h7
    · obtain ⟨i, hi, rfl⟩ := List.mem_map.1 hp
      refine (hq i (List.mem_range.1 hi)).2.2.2.2.2.2 ?_
      rw [hxx] at hw
      simp only [DataW.weights, Try.underlying48] at hw
      rw [List.all_eq_true] at hw ⊢
      exact fun n hn => hw n (List.mem_cons_of_mem _ (List.mem_append_left _ (weightsAll_mem hn (List.mem_map_of_mem hi))))
end
end Go.Proofs.Ytelplccbcbegkaa.OrW
