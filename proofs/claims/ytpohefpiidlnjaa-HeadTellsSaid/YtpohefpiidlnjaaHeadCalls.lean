/-
  What an argument of calls upon a head reads as; equal heads.
-/
import Derived.Test.YtpohefpiidlnjaaHeadRef6
import Derived.Test.YtpohefpiidlnjaaHeadArg2
import Derived.Test.YtpohefpiidlnjaaDiskArg
import Derived.Deep.DeepCutAuto
import Derived.Deep.Slices
import Derived.Laws.StructEq
namespace Go.Proofs.Ytpohefpiidlnjaa.Hr
set_option linter.unusedVariables false
open Go Go.RowKit Go.Proofs Go.Proofs.Ytpohefpiidlnjaa Go.Proofs.Ytpohefpiidlnjaa.Wd Go.ChangeShapes Go.WideShapes
open Go.Proofs.Ytpohefpiidlnjaa.Hd (H Wf)
open Go.Proofs.Ytpohefpiidlnjaa.HdW (hv)
theorem head_stood : Try.prog.stoodInHeld 24 = false := by kernel_rfl
theorem head_struct : Try.prog.underlying 24 = some (.struct (Try.prog.fieldsOf 24)) := by kernel_rfl
theorem neq_heads (a b c : Int) (W : World) : (binOp .neq 24 (.agg #[.int .u64 a, .int .u64 b, .int .u8 c]) (.agg #[.int .u64 a, .int .u64 b, .int .u8 c])).run Try.prog W = .ok (.bool false) W := by
  rw [run_neq_struct, run_equalIn_agg W 9999 _ _ _ head_struct head_stood]
  go_simp
def callC (x a e l : Nat) (n : Int) (keep : Nat → Int) : List Value := [.int .u8 (x : Int), .int .u64 (a : Int), .int .u64 (e : Int), .int .u8 (l : Int), .int .i64 n, .int .i64 (keep 0), .int .i64 (keep 1), .int .i64 (keep 2), .int .i64 (keep 3)]
def CallAt (w : World) (b o : Nat) : Prop := ∃ (x a e l : Nat) (n : Int) (keep : Nat → Int), x < 256 ∧ a < 18446744073709551616 ∧ e < 18446744073709551616 ∧ l < 256 ∧ (-9223372036854775808 ≤ n ∧ n ≤ 9223372036854775807) ∧ (∀ i, i < 4 → -9223372036854775808 ≤ keep i ∧ keep i ≤ 9223372036854775807) ∧ ∀ i u, (callC x a e l n keep)[i]? = some u → w.cell? ⟨b, o + i, none⟩ = some u
def CallsAt (w : World) (B : Nat) (A : Option Addr) (n : Nat) : Prop := ∀ j, j < n → ∃ b off, A = some ⟨b, off, none⟩ ∧ b < B ∧ CallAt w b (off + j * 9)
section
variable {K : Type} {enc : TypeId × Value → K} {W : World}
set_option maxRecDepth 100000 in
theorem calldata {base : Nat} {spare : Nat → Bool} {held : Bool} {fuel : Nat} {cs : List Value} {x : DataW K × List MemPlace} (hlen : cs.length = 9) (h : DataW.trod enc Try.prog W base spare held fuel 72 cs = some x) :
    ∃ (x a e l : Nat) (n : Int) (keep : Nat → Int), x < 256 ∧ a < 18446744073709551616 ∧ e < 18446744073709551616 ∧ l < 256 ∧ (-9223372036854775808 ≤ n ∧ n ≤ 9223372036854775807) ∧ (∀ i, i < 4 → -9223372036854775808 ≤ keep i ∧ keep i ≤ 9223372036854775807) ∧ cs = callC x a e l n keep := by
  obtain ⟨xs, m, _, _, hl, hxs, hg⟩ := DataW.trod_struct Try.underlying72 h
  have c1 : Try.prog.cellsOf 5 = 1 := by kernel_rfl
  have c2 : Try.prog.cellsOf 3 = 1 := by kernel_rfl
  have c3 : Try.prog.cellsOf 24 = 3 := by kernel_rfl
  have c4 : Try.prog.cellsOf 61 = 4 := by kernel_rfl
  have c5 : Try.prog.cellsOf 22 = 1 := by kernel_rfl
  have g0 : DataW.trod enc Try.prog W base spare held m 5 ((cs.drop 0).take (Try.prog.cellsOf 5)) = xs[0]? := hg 0 _ rfl
  have g1 : DataW.trod enc Try.prog W base spare held m 24 ((cs.drop 1).take (Try.prog.cellsOf 24)) = xs[1]? := hg 1 _ rfl
  have g2 : DataW.trod enc Try.prog W base spare held m 3 ((cs.drop 4).take (Try.prog.cellsOf 3)) = xs[2]? := hg 2 _ rfl
  have g4 : DataW.trod enc Try.prog W base spare held m 61 ((cs.drop 5).take (Try.prog.cellsOf 61)) = xs[3]? := hg 3 _ rfl
  have hx5 : xs.length = 4 := hxs
  rw [List.getElem?_eq_getElem (by omega)] at g0 g1 g2 g4
  rw [c1] at g0
  rw [c2] at g2
  rw [c3] at g1
  obtain ⟨ys, m3, _, _, hyl, hys, hy⟩ := DataW.trod_struct Try.underlying24 g1
  have hy3 : ys.length = 3 := hys
  have y0 : DataW.trod enc Try.prog W base spare held m3 22 ((((cs.drop 1).take 3).drop 0).take (Try.prog.cellsOf 22)) = ys[0]? := hy 0 _ rfl
  have y1 : DataW.trod enc Try.prog W base spare held m3 22 ((((cs.drop 1).take 3).drop 1).take (Try.prog.cellsOf 22)) = ys[1]? := hy 1 _ rfl
  have y2 : DataW.trod enc Try.prog W base spare held m3 5 ((((cs.drop 1).take 3).drop 2).take (Try.prog.cellsOf 5)) = ys[2]? := hy 2 _ rfl
  rw [List.getElem?_eq_getElem (by omega)] at y0 y1 y2
  rw [c5] at y0 y1
  rw [c1] at y2
  obtain ⟨z0, e0, w0⟩ := DataW.trod_int Try.underlying5 g0
  obtain ⟨z1, e1, w1⟩ := DataW.trod_int Try.underlying22 y0
  obtain ⟨z2, e2, w2⟩ := DataW.trod_int Try.underlying22 y1
  obtain ⟨z3, e3, w3⟩ := DataW.trod_int Try.underlying5 y2
  obtain ⟨z4, e4, w4⟩ := DataW.trod_int Try.underlying3 g2
  obtain ⟨v0, v1, v2, v3, v4, v5, v6, v7, v8, rfl⟩ : ∃ v0 v1 v2 v3 v4 v5 v6 v7 v8, cs = [v0, v1, v2, v3, v4, v5, v6, v7, v8] := by
    match cs, hlen with
    | [v0, v1, v2, v3, v4, v5, v6, v7, v8], _ => exact ⟨_, _, _, _, _, _, _, _, _, rfl⟩
  obtain ⟨zs, m2, _, _, hzl, hzn, hz⟩ := DataW.trod_array Try.underlying61 g4
  have k0 := hz 0 (by omega)
  have k1 := hz 1 (by omega)
  have k2 := hz 2 (by omega)
  have k3 := hz 3 (by omega)
  rw [List.getElem?_eq_getElem (by omega)] at k0 k1 k2 k3
  rw [c2] at k0 k1 k2 k3
  obtain ⟨q0, f0, u0⟩ := DataW.trod_int Try.underlying3 k0
  obtain ⟨q1, f1, u1⟩ := DataW.trod_int Try.underlying3 k1
  obtain ⟨q2, f2, u2⟩ := DataW.trod_int Try.underlying3 k2
  obtain ⟨q3, f3, u3⟩ := DataW.trod_int Try.underlying3 k3
  rw [c4] at f0 f1 f2 f3
  simp at e0 e1 e2 e3 e4 f0 f1 f2 f3
  obtain ⟨x0, rfl, hx0⟩ := Dk.u8_of w0.2
  obtain ⟨x3, rfl, hx3⟩ := Dk.u8_of w3.2
  have b1 := bounds_u64 w1.2
  have b2 := bounds_u64 w2.2
  have b4 := bounds_i64 w4.2
  have p0 := bounds_i64 u0.2
  have p1 := bounds_i64 u1.2
  have p2 := bounds_i64 u2.2
  have p3 := bounds_i64 u3.2
  obtain ⟨a1, rfl⟩ : ∃ a1 : Nat, z1 = a1 := ⟨z1.toNat, by omega⟩
  obtain ⟨a2, rfl⟩ : ∃ a2 : Nat, z2 = a2 := ⟨z2.toNat, by omega⟩
  refine ⟨x0, a1, a2, x3, z4, fun i => match i with | 0 => q0 | 1 => q1 | 2 => q2 | _ => q3, hx0, by omega, by omega, hx3, by omega, ?_, ?_⟩
  · intro i hi
    match i, hi with
    | 0, _ => exact ⟨by show _ ≤ q0; omega, by show q0 ≤ _; omega⟩
    | 1, _ => exact ⟨by show _ ≤ q1; omega, by show q1 ≤ _; omega⟩
    | 2, _ => exact ⟨by show _ ≤ q2; omega, by show q2 ≤ _; omega⟩
    | 3, _ => exact ⟨by show _ ≤ q3; omega, by show q3 ≤ _; omega⟩
    | n + 4, h => exact absurd h (by omega)
  · rw [e0, e1, e2, e3, e4, f0, f1, f2, f3]; rfl
set_option maxRecDepth 100000 in
theorem open_calls {base : Nat} {spare : Nat → Bool} {held : Bool} {fuel : Nat} {v : Value} {x : DataW K × List MemPlace} (hs : ∀ b, spare b = true) (h : DataW.trod enc Try.prog W base spare held fuel 63 [v] = some x) :
    ∃ (n : Nat) (A : Option Addr) (c : Nat), v = .slice A n c ∧ n ≤ c ∧ c ≤ maxLen ∧ CallsAt W W.heap.size A n := by
  rcases Deep.open_slice Try.underlying63 h with ⟨hcs, _⟩ | ⟨a, len, cap, m, n, D, Pl, hcs, _, hl, hm, hmm, _, hx⟩
  · simp at hcs
    subst hcs
    exact ⟨0, none, 0, rfl, Nat.le_refl _, by simp [maxLen], fun j hj => absurd hj (Nat.not_lt_zero _)⟩
  · simp at hcs
    subst hcs
    have hlm : len ≤ m := by rw [hmm]; split <;> omega
    have hC : Try.prog.cellsOf 72 = 9 := by kernel_rfl
    rw [hC] at hx
    refine ⟨len, some a, cap, rfl, hl, hm, fun j hj => ?_⟩
    obtain ⟨cs', h1, h2⟩ := hx j (by omega)
    obtain ⟨_, hlen, hcell⟩ := World.cells?_some h1
    obtain ⟨x, a1, e1, l1, n1, keep, k1, k2, k3, k4, k5, k6, rfl⟩ := calldata hlen h2
    obtain ⟨b, off, spot⟩ := a
    have hspot : spot = none := by
      obtain ⟨cs0, h01, h02⟩ := hx 0 (by omega)
      obtain ⟨_, hlen0, hcell0⟩ := World.cells?_some h01
      have h3 := hcell0 0 (by omega)
      rw [List.getElem?_eq_getElem (by omega)] at h3
      simpa [Addr.add] using World.cell?_spot h3
    subst hspot
    have hcells : ∀ i v, (callC x a1 e1 l1 n1 keep)[i]? = some v → W.cell? ⟨b, off + j * 9 + i, none⟩ = some v := fun i v hv => by
      have hi : i < 9 := (List.getElem?_eq_some_iff.1 hv).1
      have := hcell i hi
      rw [Deep.add_add, Addr.add_lit, hv, ← Nat.add_assoc] at this
      exact this
    exact ⟨b, off, rfl, block_lt_of_cell (hcells 0 _ rfl), x, a1, e1, l1, n1, keep, k1, k2, k3, k4, k5, k6, hcells⟩
end
end Go.Proofs.Ytpohefpiidlnjaa.Hr
