/-
  What an argument of operations reads as.
-/
import Derived.Test.YtgajgjijnpigoaaDiskRows
import Derived.Test.YtgajgjijnpigoaaDiskHead2
import Derived.Deep.DeepCutAuto
import Derived.Deep.Slices
namespace Go.Proofs.Ytgajgjijnpigoaa.Dr
set_option linter.unusedVariables false
open Go Go.RowKit Go.Shelf Go.Proofs Go.Proofs.Ytgajgjijnpigoaa Go.Proofs.Ytgajgjijnpigoaa.Wd Go.ChangeShapes Go.WideShapes
def opC (x : Nat) (seg n : Int) (A : Option Addr) (m c : Nat) (keep : Nat → Int) : List Value := [.int .u8 (x : Int), .int .i64 seg, .int .i64 n, .slice A m c, .int .i64 (keep 0), .int .i64 (keep 1), .int .i64 (keep 2), .int .i64 (keep 3)]
/-- An operation that lies at an address. -/
def OpAt (w : World) (B b o : Nat) : Prop := ∃ (x : Nat) (seg n : Int) (A : Option Addr) (m c : Nat) (keep : Nat → Int) (l : List UInt8), x < 256 ∧ (-9223372036854775808 ≤ seg ∧ seg ≤ 9223372036854775807) ∧ (-9223372036854775808 ≤ n ∧ n ≤ 9223372036854775807) ∧ m = l.length ∧ m ≤ c ∧ c ≤ maxLen ∧ Bytes w B A l ∧ (∀ i, i < 4 → -9223372036854775808 ≤ keep i ∧ keep i ≤ 9223372036854775807) ∧
  ∀ i u, (opC x seg n A m c keep)[i]? = some u → w.cell? ⟨b, o + i, none⟩ = some u
def OpsAt (w : World) (B : Nat) (A : Option Addr) (n : Nat) : Prop := ∀ j, j < n → ∃ b off, A = some ⟨b, off, none⟩ ∧ b < B ∧ OpAt w B b (off + j * 8)
theorem OpsAt.below {w w' : World} {B : Nat} {A : Option Addr} {n : Nat} (h : OpsAt w B A n) (hb : Below B w w') : OpsAt w' B A n := fun j hj => by
  obtain ⟨b, off, h1, h2, x, seg, n', A', m, c, keep, l, k1, k2, k3, k4, k5, k6, k7, k8, k9⟩ := h j hj
  exact ⟨b, off, h1, h2, x, seg, n', A', m, c, keep, l, k1, k2, k3, k4, k5, k6, k7.below hb, k8, fun i u hu => (hb.cell (p := ⟨b, _, none⟩) h2).trans (k9 i u hu)⟩
section
variable {H : Type} {enc : TypeId × Value → H} {W : World}
theorem take_one {cs : List Value} {i : Nat} {v : Value} (h : cs[i]? = some v) : (cs.drop i).take 1 = [v] := by
  obtain ⟨hi, he⟩ := List.getElem?_eq_some_iff.1 h
  rw [List.drop_eq_getElem_cons hi]
  simp [he]
theorem opdata {base : Nat} {spare : Nat → Bool} {held : Bool} {fuel : Nat} {cs : List Value} {x : DataW H × List MemPlace} (hs : ∀ b, spare b = true) (hlen : cs.length = 8) (h : DataW.trod enc Try.prog W base spare held fuel 56 cs = some x) :
    ∃ (x : Nat) (seg n : Int) (A : Option Addr) (m c : Nat) (keep : Nat → Int) (l : List UInt8), x < 256 ∧ (-9223372036854775808 ≤ seg ∧ seg ≤ 9223372036854775807) ∧ (-9223372036854775808 ≤ n ∧ n ≤ 9223372036854775807) ∧ m = l.length ∧ m ≤ c ∧ c ≤ maxLen ∧ Bytes W W.heap.size A l ∧ (∀ i, i < 4 → -9223372036854775808 ≤ keep i ∧ keep i ≤ 9223372036854775807) ∧ cs = opC x seg n A m c keep := by
  obtain ⟨xs, m, _, _, hl, hxs, hg⟩ := DataW.trod_struct Try.underlying56 h
  have c1 : Try.prog.cellsOf 5 = 1 := by kernel_rfl
  have c2 : Try.prog.cellsOf 3 = 1 := by kernel_rfl
  have c3 : Try.prog.cellsOf 29 = 1 := by kernel_rfl
  have c4 : Try.prog.cellsOf 24 = 4 := by kernel_rfl
  have g0 : DataW.trod enc Try.prog W base spare held m 5 ((cs.drop 0).take (Try.prog.cellsOf 5)) = xs[0]? := hg 0 _ rfl
  have g1 : DataW.trod enc Try.prog W base spare held m 3 ((cs.drop 1).take (Try.prog.cellsOf 3)) = xs[1]? := hg 1 _ rfl
  have g2 : DataW.trod enc Try.prog W base spare held m 3 ((cs.drop 2).take (Try.prog.cellsOf 3)) = xs[2]? := hg 2 _ rfl
  have g3 : DataW.trod enc Try.prog W base spare held m 29 ((cs.drop 3).take (Try.prog.cellsOf 29)) = xs[3]? := hg 3 _ rfl
  have g4 : DataW.trod enc Try.prog W base spare held m 24 ((cs.drop 4).take (Try.prog.cellsOf 24)) = xs[4]? := hg 4 _ rfl
  have hx5 : xs.length = 5 := hxs
  rw [List.getElem?_eq_getElem (by omega)] at g0 g1 g2 g3 g4
  rw [c1] at g0
  rw [c2] at g1 g2
  rw [c3] at g3
  obtain ⟨z0, e0, w0⟩ := DataW.trod_int Try.underlying5 g0
  obtain ⟨z1, e1, w1⟩ := DataW.trod_int Try.underlying3 g1
  obtain ⟨z2, e2, w2⟩ := DataW.trod_int Try.underlying3 g2
  obtain ⟨y0, y1, y2, y3, y4, y5, y6, y7, rfl⟩ : ∃ y0 y1 y2 y3 y4 y5 y6 y7, cs = [y0, y1, y2, y3, y4, y5, y6, y7] := by
    match cs, hlen with
    | [y0, y1, y2, y3, y4, y5, y6, y7], _ => exact ⟨_, _, _, _, _, _, _, _, rfl⟩
  obtain ⟨A, c, l, e3, h31, h32, h33⟩ := Dk.trod_bytes (v := y3) hs g3
  obtain ⟨zs, m2, _, _, hzl, hzn, hz⟩ := DataW.trod_array Try.underlying24 g4
  have k0 := hz 0 (by omega)
  have k1 := hz 1 (by omega)
  have k2 := hz 2 (by omega)
  have k3 := hz 3 (by omega)
  rw [List.getElem?_eq_getElem (by omega)] at k0 k1 k2 k3
  rw [c2] at k0 k1 k2 k3
  obtain ⟨q0, f0, v0⟩ := DataW.trod_int Try.underlying3 k0
  obtain ⟨q1, f1, v1⟩ := DataW.trod_int Try.underlying3 k1
  obtain ⟨q2, f2, v2⟩ := DataW.trod_int Try.underlying3 k2
  obtain ⟨q3, f3, v3⟩ := DataW.trod_int Try.underlying3 k3
  rw [c4] at f0 f1 f2 f3
  simp at e0 e1 e2 f0 f1 f2 f3
  obtain ⟨x0, rfl, hx0⟩ := Dk.u8_of w0.2
  have b1 := bounds_i64 w1.2
  have b2 := bounds_i64 w2.2
  have p0 := bounds_i64 v0.2
  have p1 := bounds_i64 v1.2
  have p2 := bounds_i64 v2.2
  have p3 := bounds_i64 v3.2
  refine ⟨x0, z1, z2, A, l.length, c, fun i => match i with | 0 => q0 | 1 => q1 | 2 => q2 | _ => q3, l, hx0, by omega, by omega, rfl, h31, h32, h33, ?_, ?_⟩
  · intro i hi
    match i, hi with
    | 0, _ => exact ⟨by show _ ≤ q0; omega, by show q0 ≤ _; omega⟩
    | 1, _ => exact ⟨by show _ ≤ q1; omega, by show q1 ≤ _; omega⟩
    | 2, _ => exact ⟨by show _ ≤ q2; omega, by show q2 ≤ _; omega⟩
    | 3, _ => exact ⟨by show _ ≤ q3; omega, by show q3 ≤ _; omega⟩
    | n + 4, h => exact absurd h (by omega)
  · rw [e0, e1, e2, e3, f0, f1, f2, f3]; rfl
theorem open_ops {base : Nat} {spare : Nat → Bool} {held : Bool} {fuel : Nat} {v : Value} {x : DataW H × List MemPlace} (hs : ∀ b, spare b = true) (h : DataW.trod enc Try.prog W base spare held fuel 48 [v] = some x) :
    ∃ (n : Nat) (A : Option Addr) (c : Nat), v = .slice A n c ∧ n ≤ c ∧ c ≤ maxLen ∧ OpsAt W W.heap.size A n := by
  rcases Deep.open_slice Try.underlying48 h with ⟨hcs, _⟩ | ⟨a, len, cap, m, n, D, Pl, hcs, _, hl, hm, hmm, _, hx⟩
  · simp at hcs
    subst hcs
    exact ⟨0, none, 0, rfl, Nat.le_refl _, by simp [maxLen], fun j hj => absurd hj (Nat.not_lt_zero _)⟩
  · simp at hcs
    subst hcs
    have hlm : len ≤ m := by rw [hmm]; split <;> omega
    have hC : Try.prog.cellsOf 56 = 8 := by kernel_rfl
    rw [hC] at hx
    refine ⟨len, some a, cap, rfl, hl, hm, fun j hj => ?_⟩
    obtain ⟨cs', h1, h2⟩ := hx j (by omega)
    obtain ⟨_, hlen, hcell⟩ := World.cells?_some h1
    obtain ⟨x, seg, n', A', m', c', keep, l, k1, k2, k3, k4, k5, k6, k7, k8, rfl⟩ := opdata hs hlen h2
    obtain ⟨b, off, spot⟩ := a
    have hspot : spot = none := by
      obtain ⟨cs0, h01, h02⟩ := hx 0 (by omega)
      obtain ⟨_, hlen0, hcell0⟩ := World.cells?_some h01
      have h3 := hcell0 0 (by omega)
      rw [List.getElem?_eq_getElem (by omega)] at h3
      simpa [Addr.add] using World.cell?_spot h3
    subst hspot
    have hcells : ∀ i v, (opC x seg n' A' m' c' keep)[i]? = some v → W.cell? ⟨b, off + j * 8 + i, none⟩ = some v := fun i v hv => by
      have hi : i < 8 := (List.getElem?_eq_some_iff.1 hv).1
      have := hcell i hi
      rw [Deep.add_add, Addr.add_lit, hv, ← Nat.add_assoc] at this
      exact this
    exact ⟨b, off, rfl, block_lt_of_cell (hcells 0 _ rfl), x, seg, n', A', m', c', keep, l, k1, k2, k3, k4, k5, k6, k7, k8, hcells⟩
end
end Go.Proofs.Ytgajgjijnpigoaa.Dr
