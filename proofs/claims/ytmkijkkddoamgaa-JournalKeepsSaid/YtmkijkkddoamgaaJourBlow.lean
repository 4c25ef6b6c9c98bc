/-
  What an argument of blows reads as.
-/
import Derived.Test.YtmkijkkddoamgaaJA
import Derived.Test.YtmkijkkddoamgaaJD
import Derived.Deep.DeepCutAuto
import Derived.Deep.Slices
namespace Go.Proofs.Ytmkijkkddoamgaa.Jo
set_option linter.unusedVariables false
open Go Go.RowKit Go.Shelf Go.Proofs Go.Proofs.Ytmkijkkddoamgaa Go.Proofs.Ytmkijkkddoamgaa.Wd Go.Proofs.Ytmkijkkddoamgaa.BatW Go.ChangeShapes Go.WideShapes
open Go.Proofs.Ytmkijkkddoamgaa.Bat (B)
/-- A blow: rows; whether it is switched; whether it crashes, where, of how many bytes, what stays; and once more. -/
structure Bl where
  rows : B
  turn : Bool
  crash : Bool
  at_ : Nat
  part : Nat
  keep : Nat → Int
  again : Nat
  other : Nat → Int
instance : Inhabited Bl := ⟨⟨[], false, false, 0, 0, fun _ => 0, 0, fun _ => 0⟩⟩
structure BlOk (x : Bl) : Prop where
  at_ : x.at_ < 256
  part : x.part < 256
  again : x.again < 256
  keep : ∀ i, i < 4 → -9223372036854775808 ≤ x.keep i ∧ x.keep i ≤ 9223372036854775807
  other : ∀ i, i < 4 → -9223372036854775808 ≤ x.other i ∧ x.other i ≤ 9223372036854775807
def blC (v : Value) (x : Bl) : List Value := [v, .bool x.turn, .bool x.crash, .int .u8 (x.at_ : Nat), .int .u8 (x.part : Nat), .int .i64 (x.keep 0), .int .i64 (x.keep 1), .int .i64 (x.keep 2), .int .i64 (x.keep 3), .int .u8 (x.again : Nat), .int .i64 (x.other 0), .int .i64 (x.other 1), .int .i64 (x.other 2), .int .i64 (x.other 3)]
/-- A blow that lies at an address. -/
def BlAt (w : World) (B b o : Nat) (x : Bl) : Prop := BlOk x ∧ ∃ v, SR w B v x.rows ∧ ∀ i u, (blC v x)[i]? = some u → w.cell? ⟨b, o + i, none⟩ = some u
def BlsAt (w : World) (B : Nat) (A : Option Addr) (ls : List Bl) : Prop := ∀ j (h : j < ls.length), ∃ b off, A = some ⟨b, off, none⟩ ∧ b < B ∧ BlAt w B b (off + j * 14) ls[j]
theorem BlsAt.below {w w' : World} {B : Nat} {A : Option Addr} {ls : List Bl} (h : BlsAt w B A ls) (hb : Below B w w') : BlsAt w' B A ls := fun j hj => by
  obtain ⟨b, off, h1, h2, h3, v, h4, h5⟩ := h j hj
  exact ⟨b, off, h1, h2, h3, v, h4.below hb, fun i u hu => (hb.cell (p := ⟨b, _, none⟩) h2).trans (h5 i u hu)⟩
section
variable {H : Type} {enc : TypeId × Value → H} {W : World}
theorem trod_flag {base : Nat} {spare : Nat → Bool} {held : Bool} {fuel : Nat} {v : Value} {x : DataW H × List MemPlace} (h : DataW.trod enc Try.prog W base spare held fuel 4 [v] = some x) : ∃ b : Bool, v = .bool b := by
  obtain ⟨b, hx, _⟩ := DataW.trod_bool Try.underlying4 h
  simp at hx
  exact ⟨b, hx⟩
set_option maxRecDepth 100000 in
theorem trod_four {base : Nat} {spare : Nat → Bool} {held : Bool} {fuel : Nat} {y0 y1 y2 y3 : Value} {x : DataW H × List MemPlace} (h : DataW.trod enc Try.prog W base spare held fuel 67 [y0, y1, y2, y3] = some x) :
    ∃ keep : Nat → Int, y0 = .int .i64 (keep 0) ∧ y1 = .int .i64 (keep 1) ∧ y2 = .int .i64 (keep 2) ∧ y3 = .int .i64 (keep 3) ∧ ∀ i, i < 4 → -9223372036854775808 ≤ keep i ∧ keep i ≤ 9223372036854775807 := by
  have c2 : Try.prog.cellsOf 3 = 1 := by kernel_rfl
  obtain ⟨zs, m2, _, _, hzl, hzn, hz⟩ := DataW.trod_array Try.underlying67 h
  have k0 := hz 0 (by omega)
  have k1 := hz 1 (by omega)
  have k2 := hz 2 (by omega)
  have k3 := hz 3 (by omega)
  rw [List.getElem?_eq_getElem (by omega)] at k0 k1 k2 k3
  rw [c2] at k0 k1 k2 k3
  obtain ⟨q0, f0, v0⟩ := DataW.trod_int Try.underlying3 k0
  obtain ⟨q1, f1, v1⟩ := DataW.trod_int Try.underlying3 k1
  obtain ⟨q2, f2, v2⟩ := DataW.trod_int Try.underlying3 k2
  obtain ⟨q3, f3, v3⟩ := DataW.trod_int Try.underlying3 k3
  simp at f0 f1 f2 f3
  have p0 := bounds_i64 v0.2
  have p1 := bounds_i64 v1.2
  have p2 := bounds_i64 v2.2
  have p3 := bounds_i64 v3.2
  refine ⟨fun i => match i with | 0 => q0 | 1 => q1 | 2 => q2 | _ => q3, f0, f1, f2, f3, ?_⟩
  intro i hi
  match i, hi with
  | 0, _ => exact ⟨by show _ ≤ q0; omega, by show q0 ≤ _; omega⟩
  | 1, _ => exact ⟨by show _ ≤ q1; omega, by show q1 ≤ _; omega⟩
  | 2, _ => exact ⟨by show _ ≤ q2; omega, by show q2 ≤ _; omega⟩
  | 3, _ => exact ⟨by show _ ≤ q3; omega, by show q3 ≤ _; omega⟩
  | n + 4, h => exact absurd h (by omega)
set_option maxRecDepth 100000 in
theorem bldata {base : Nat} {spare : Nat → Bool} {held : Bool} {fuel : Nat} {cs : List Value} {x : DataW H × List MemPlace} (hs : ∀ b, spare b = true) (hlen : cs.length = 14) (h : DataW.trod enc Try.prog W base spare held fuel 69 cs = some x) :
    ∃ (x : Bl) (v : Value), BlOk x ∧ SR W W.heap.size v x.rows ∧ cs = blC v x := by
  obtain ⟨xs, m, _, _, hl, hxs, hg⟩ := DataW.trod_struct Try.underlying69 h
  have cA : Try.prog.cellsOf 30 = 1 := by kernel_rfl
  have cB : Try.prog.cellsOf 4 = 1 := by kernel_rfl
  have cC : Try.prog.cellsOf 5 = 1 := by kernel_rfl
  have cD : Try.prog.cellsOf 67 = 4 := by kernel_rfl
  have g0 : DataW.trod enc Try.prog W base spare held m 30 ((cs.drop 0).take (Try.prog.cellsOf 30)) = xs[0]? := hg 0 _ rfl
  have g1 : DataW.trod enc Try.prog W base spare held m 4 ((cs.drop 1).take (Try.prog.cellsOf 4)) = xs[1]? := hg 1 _ rfl
  have g2 : DataW.trod enc Try.prog W base spare held m 4 ((cs.drop 2).take (Try.prog.cellsOf 4)) = xs[2]? := hg 2 _ rfl
  have g3 : DataW.trod enc Try.prog W base spare held m 5 ((cs.drop 3).take (Try.prog.cellsOf 5)) = xs[3]? := hg 3 _ rfl
  have g4 : DataW.trod enc Try.prog W base spare held m 5 ((cs.drop 4).take (Try.prog.cellsOf 5)) = xs[4]? := hg 4 _ rfl
  have g5 : DataW.trod enc Try.prog W base spare held m 67 ((cs.drop 5).take (Try.prog.cellsOf 67)) = xs[5]? := hg 5 _ rfl
  have g6 : DataW.trod enc Try.prog W base spare held m 5 ((cs.drop 9).take (Try.prog.cellsOf 5)) = xs[6]? := hg 6 _ rfl
  have g7 : DataW.trod enc Try.prog W base spare held m 67 ((cs.drop 10).take (Try.prog.cellsOf 67)) = xs[7]? := hg 7 _ rfl
  have hx8 : xs.length = 8 := hxs
  rw [List.getElem?_eq_getElem (by omega)] at g0 g1 g2 g3 g4 g5 g6 g7
  rw [cA] at g0
  rw [cB] at g1 g2
  rw [cC] at g3 g4 g6
  rw [cD] at g5 g7
  obtain ⟨y0, y1, y2, y3, y4, y5, y6, y7, y8, y9, y10, y11, y12, y13, rfl⟩ : ∃ y0 y1 y2 y3 y4 y5 y6 y7 y8 y9 y10 y11 y12 y13, cs = [y0, y1, y2, y3, y4, y5, y6, y7, y8, y9, y10, y11, y12, y13] := by
    match cs, hlen with
    | [y0, y1, y2, y3, y4, y5, y6, y7, y8, y9, y10, y11, y12, y13], _ => exact ⟨_, _, _, _, _, _, _, _, _, _, _, _, _, _, rfl⟩
  obtain ⟨l, A, c, rfl, h1, h2, h3⟩ := open_brows (v := y0) hs g0
  obtain ⟨b1, rfl⟩ := trod_flag (v := y1) g1
  obtain ⟨b2, rfl⟩ := trod_flag (v := y2) g2
  obtain ⟨z3, e3, w3⟩ := DataW.trod_int Try.underlying5 g3
  obtain ⟨z4, e4, w4⟩ := DataW.trod_int Try.underlying5 g4
  obtain ⟨z6, e6, w6⟩ := DataW.trod_int Try.underlying5 g6
  simp at e3 e4 e6
  obtain ⟨kp, f0, f1, f2, f3, hk⟩ := trod_four (y0 := y5) (y1 := y6) (y2 := y7) (y3 := y8) g5
  obtain ⟨kq, f4, f5, f6, f7, hq⟩ := trod_four (y0 := y10) (y1 := y11) (y2 := y12) (y3 := y13) g7
  obtain ⟨x3, rfl, hx3⟩ := Dk.u8_of w3.2
  obtain ⟨x4, rfl, hx4⟩ := Dk.u8_of w4.2
  obtain ⟨x6, rfl, hx6⟩ := Dk.u8_of w6.2
  refine ⟨⟨l, b1, b2, x3, x4, kp, x6, kq⟩, _, ⟨hx3, hx4, hx6, hk, hq⟩, ⟨A, c, rfl, h1, h2, h3⟩, ?_⟩
  rw [e3, e4, e6, f0, f1, f2, f3, f4, f5, f6, f7]; rfl
set_option maxRecDepth 100000 in
theorem open_bls {base : Nat} {spare : Nat → Bool} {held : Bool} {fuel : Nat} {v : Value} {x : DataW H × List MemPlace} (hs : ∀ b, spare b = true) (h : DataW.trod enc Try.prog W base spare held fuel 66 [v] = some x) :
    ∃ (ls : List Bl) (A : Option Addr) (c : Nat), v = .slice A ls.length c ∧ ls.length ≤ c ∧ c ≤ maxLen ∧ BlsAt W W.heap.size A ls := by
  rcases Deep.open_slice Try.underlying66 h with ⟨hcs, _⟩ | ⟨a, len, cap, m, n, D, Pl, hcs, _, hl, hm, hmm, _, hx⟩
  · simp at hcs
    subst hcs
    exact ⟨[], none, 0, rfl, Nat.le_refl _, by simp [maxLen], fun j hj => absurd hj (Nat.not_lt_zero _)⟩
  · simp at hcs
    subst hcs
    have hlm : len ≤ m := by rw [hmm]; split <;> omega
    have hC : Try.prog.cellsOf 69 = 14 := by kernel_rfl
    rw [hC] at hx
    obtain ⟨q, hq⟩ := Deep.choose_lt (n := len) (α := Bl) (p := fun j x => ∃ b off, a = ⟨b, off, none⟩ ∧ b < W.heap.size ∧ BlAt W W.heap.size b (off + j * 14) x) (fun j hj => by
      obtain ⟨cs', h1, h2⟩ := hx j (by omega)
      obtain ⟨_, hlen, hcell⟩ := World.cells?_some h1
      obtain ⟨x, v, k1, k2, rfl⟩ := bldata hs hlen h2
      obtain ⟨b, off, spot⟩ := a
      have hspot : spot = none := by
        obtain ⟨cs0, h01, h02⟩ := hx 0 (by omega)
        obtain ⟨_, hlen0, hcell0⟩ := World.cells?_some h01
        have h3 := hcell0 0 (by omega)
        rw [List.getElem?_eq_getElem (by omega)] at h3
        simpa [Addr.add] using World.cell?_spot h3
      subst hspot
      have hcells : ∀ i u, (blC v x)[i]? = some u → W.cell? ⟨b, off + j * 14 + i, none⟩ = some u := fun i u hv => by
        have hi : i < 14 := (List.getElem?_eq_some_iff.1 hv).1
        have := hcell i hi
        rw [Deep.add_add, Addr.add_lit, hv, ← Nat.add_assoc] at this
        exact this
      exact ⟨x, b, off, rfl, block_lt_of_cell (hcells 0 _ rfl), k1, v, k2, hcells⟩)
    refine ⟨(List.range len).map q, some a, cap, by simp, by simpa using hl, hm, fun j hj => ?_⟩
    have hj' : j < len := by simpa using hj
    obtain ⟨b, off, e, hb, hbl⟩ := hq j hj'
    refine ⟨b, off, by rw [e], hb, ?_⟩
    simpa using hbl
end
end Go.Proofs.Ytmkijkkddoamgaa.Jo
