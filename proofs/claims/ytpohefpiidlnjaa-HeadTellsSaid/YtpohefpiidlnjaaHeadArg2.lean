/-
  What a row of heads reads as.
-/
import Derived.Test.YtpohefpiidlnjaaHeadArg
import Derived.Deep.Slices
namespace Go.Proofs.Ytpohefpiidlnjaa.HdW
set_option linter.unusedVariables false
open Go Go.RowKit Go.Proofs Go.Proofs.Ytpohefpiidlnjaa Go.Proofs.Ytpohefpiidlnjaa.Wd Go.ChangeShapes Go.WideShapes Go.Proofs.Ytpohefpiidlnjaa.Hd
instance : Inhabited H := ⟨none_⟩
/-- A row of heads. -/
def Heads (w : World) (B : Nat) (A : Option Addr) (l : List H) : Prop :=
  ∀ j (h : j < l.length), ∃ b off, A = some ⟨b, off, none⟩ ∧ b < B ∧ w.cell? ⟨b, off + j * 3, none⟩ = some (.int .u64 (l[j].serial : Nat)) ∧ w.cell? ⟨b, off + j * 3 + 1, none⟩ = some (.int .u64 (l[j].epoch : Nat)) ∧ w.cell? ⟨b, off + j * 3 + 2, none⟩ = some (.int .u8 (l[j].live : Nat))
theorem Heads.below {w w' : World} {B : Nat} {A : Option Addr} {l : List H} (h : Heads w B A l) (hb : Below B w w') : Heads w' B A l := fun j hj => by
  obtain ⟨b, off, e, hlt, h0, h1, h2⟩ := h j hj
  exact ⟨b, off, e, hlt, (hb.cell (p := ⟨b, off + j * 3, none⟩) hlt).trans h0, (hb.cell (p := ⟨b, off + j * 3 + 1, none⟩) hlt).trans h1, (hb.cell (p := ⟨b, off + j * 3 + 2, none⟩) hlt).trans h2⟩
section
variable {K : Type} {enc : TypeId × Value → K} {W : World}
theorem head_field {base : Nat} {spare : Nat → Bool} {held : Bool} {fuel : Nat} {cs : List Value} {x : DataW K × List MemPlace} {fs : Array Field} {i : Nat} {f : Field} {t : TypeId} {k : IntKind} (hu : Try.prog.underlying 24 = some (.struct fs)) (hf : fs[i]? = some f) (ht : f.type = t) (hk : Try.prog.underlying t = some (.int k)) (hc : Try.prog.cellsOf t = 1)
    (h : DataW.trod enc Try.prog W base spare held fuel 24 cs = some x) : ∃ z, cs[f.offset]? = some (.int k z) ∧ (Lit.int k z).wf = true := by
  obtain ⟨xs, m, _, _, hl, hlen, hg⟩ := DataW.trod_struct hu h
  have h1 := hg i f hf
  rw [ht, List.getElem?_eq_getElem (by rw [hlen]; exact (Array.getElem?_eq_some_iff.1 hf).1)] at h1
  obtain ⟨z, hz, _, hw⟩ := DataW.trod_int hk h1
  have h2 : ((cs.drop f.offset).take (Try.prog.cellsOf t))[0]? = some (.int k z) := by rw [hz]; rfl
  rw [List.getElem?_take_of_lt (by rw [hc]; omega), List.getElem?_drop] at h2
  exact ⟨z, h2, hw⟩
theorem open_heads {base : Nat} {spare : Nat → Bool} {held : Bool} {fuel : Nat} {v : Value} {x : DataW K × List MemPlace} (hs : ∀ b, spare b = true) (h : DataW.trod enc Try.prog W base spare held fuel 59 [v] = some x) :
    ∃ (l : List H) (A : Option Addr) (c : Nat), v = .slice A l.length c ∧ l.length ≤ c ∧ c ≤ maxLen ∧ Heads W W.heap.size A l ∧ ∀ h ∈ l, Wf h := by
  rcases Deep.open_slice Try.underlying59 h with ⟨hcs, _⟩ | ⟨a, len, cap, m, n, D, Pl, hcs, _, hl, hm, hmm, _, hx⟩
  · simp at hcs
    subst hcs
    exact ⟨[], none, 0, rfl, Nat.le_refl _, by simp [maxLen], fun j h => absurd h (Nat.not_lt_zero _), fun _ h => by cases h⟩
  · simp at hcs
    subst hcs
    have hlm : len ≤ m := by rw [hmm]; split <;> omega
    have hC : Try.prog.cellsOf 24 = 3 := by kernel_rfl
    rw [hC] at hx
    obtain ⟨q, hq⟩ := Deep.choose_lt (n := len) (α := List Value × H) (p := fun i s => W.cells? base (a.add (i * 3)) 3 = some s.1 ∧ s.1[0]? = some (.int .u64 (s.2.serial : Nat)) ∧ s.1[1]? = some (.int .u64 (s.2.epoch : Nat)) ∧ s.1[2]? = some (.int .u8 (s.2.live : Nat)) ∧ Wf s.2) (fun i hi => by
      obtain ⟨cs', h1, h2⟩ := hx i (by omega)
      obtain ⟨z0, g0, w0⟩ := head_field (i := 0) (k := .u64) Try.underlying24 rfl rfl Try.underlying22 (by kernel_rfl) h2
      obtain ⟨z1, g1, w1⟩ := head_field (i := 1) (k := .u64) Try.underlying24 rfl rfl Try.underlying22 (by kernel_rfl) h2
      obtain ⟨z2, g2, w2⟩ := head_field (i := 2) (k := .u8) Try.underlying24 rfl rfl Try.underlying5 (by kernel_rfl) h2
      have b0 := bounds_u64 w0
      have b1 := bounds_u64 w1
      have b2 := bounds_u8 w2
      have e0 : ((z0.toNat : Nat) : Int) = z0 := by omega
      have e1 : ((z1.toNat : Nat) : Int) = z1 := by omega
      have e2 : ((z2.toNat : Nat) : Int) = z2 := by omega
      exact ⟨(cs', ⟨z0.toNat, z1.toNat, z2.toNat⟩), h1, by rw [e0]; exact g0, by rw [e1]; exact g1, by rw [e2]; exact g2, ⟨by show z0.toNat < _; omega, by show z1.toNat < _; omega, by show z2.toNat < _; omega⟩⟩)
    have hspot : 0 < len → a.spot = none := fun h0 => by
      obtain ⟨h1, _⟩ := hq 0 h0
      obtain ⟨_, _, hcell⟩ := World.cells?_some h1
      have h2 := hcell 0 (by omega)
      rw [List.getElem?_eq_getElem (by have := (World.cells?_some h1).2.1; omega)] at h2
      simpa [Addr.add] using World.cell?_spot h2
    refine ⟨(List.range len).map fun i => (q i).2, some a, cap, by simp, by simpa using hl, hm, fun j hj => ?_, fun hh hm2 => ?_⟩
    · have hj' : j < len := by simpa using hj
      obtain ⟨h1, g0, g1, g2, _⟩ := hq j hj'
      obtain ⟨_, hlen, hcell⟩ := World.cells?_some h1
      obtain ⟨b, off, spot⟩ := a
      have hspot' : spot = none := hspot (by omega)
      subst hspot'
      have hcells : ∀ i v, (q j).1[i]? = some v → W.cell? ⟨b, off + j * 3 + i, none⟩ = some v := fun i v hv => by
        have hi : i < 3 := by have := (List.getElem?_eq_some_iff.1 hv).1; omega
        have := hcell i hi
        rw [Deep.add_add, Addr.add_lit, hv, ← Nat.add_assoc] at this
        exact this
      have hb : b < W.heap.size := block_lt_of_cell (hcells 0 _ g0)
      refine ⟨b, off, rfl, hb, ?_, ?_, ?_⟩
      · simpa using hcells 0 _ g0
      · simpa using hcells 1 _ g1
      · simpa using hcells 2 _ g2
    · obtain ⟨i, hi, rfl⟩ := List.mem_map.1 hm2
      exact (hq i (List.mem_range.1 hi)).2.2.2.2
end
end Go.Proofs.Ytpohefpiidlnjaa.HdW
