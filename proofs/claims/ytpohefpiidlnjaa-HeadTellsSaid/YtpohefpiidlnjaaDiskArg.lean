/-
  What arguments read as: four numbers; a byte.
-/
import Derived.Test.YtpohefpiidlnjaaWordsArg
import Derived.Test.YtpohefpiidlnjaaProg
namespace Go.Proofs.Ytpohefpiidlnjaa.Dk
set_option linter.unusedVariables false
open Go Go.RowKit Go.Proofs Go.Proofs.Ytpohefpiidlnjaa Go.Proofs.Ytpohefpiidlnjaa.Wd Go.ChangeShapes Go.WideShapes
theorem u8_of {x : Int} (h : (Lit.int .u8 x).wf = true) : ∃ a : Nat, x = a ∧ a < 256 := by
  have := bounds_u8 h
  exact ⟨x.toNat, by omega, by omega⟩
theorem four_arg {H : Type} {enc : TypeId × Value → H} {W : World} {base : Nat} {spare : Nat → Bool} {held : Bool} {r : Reach} {b0 : Nat} {v : Value} {d : DataW H} {p : List MemPlace} (hv : Value.okWide Try.prog W r b0 61 v) (h : DataW.Trod enc Try.prog W base spare held 61 v d p) :
    ∃ keep : Nat → Int, v = .agg #[.int .i64 (keep 0), .int .i64 (keep 1), .int .i64 (keep 2), .int .i64 (keep 3)] ∧ ∀ i, i < 4 → -9223372036854775808 ≤ keep i ∧ keep i ≤ 9223372036854775807 := by
  obtain ⟨cs, rfl, hsz, hx⟩ := open_array Try.underlying61 Try.underlying3 (by kernel_rfl) (by kernel_rfl) hv h
  obtain ⟨x0, h0, w0⟩ := hx 0 (by omega)
  obtain ⟨x1, h1, w1⟩ := hx 1 (by omega)
  obtain ⟨x2, h2, w2⟩ := hx 2 (by omega)
  obtain ⟨x3, h3, w3⟩ := hx 3 (by omega)
  have b0 := bounds_i64 w0
  have b1 := bounds_i64 w1
  have b2 := bounds_i64 w2
  have b3 := bounds_i64 w3
  refine ⟨fun i => match i with | 0 => x0 | 1 => x1 | 2 => x2 | _ => x3, ?_, ?_⟩
  · congr 1
    apply Array.ext
    · simpa using hsz
    · intro i hi _
      match i, hi with
      | 0, _ => exact h0
      | 1, _ => exact h1
      | 2, _ => exact h2
      | 3, _ => exact h3
      | n + 4, h => exact absurd h (by omega)
  · intro i hi
    match i, hi with
    | 0, _ => exact ⟨by show _ ≤ x0; omega, by show x0 ≤ _; omega⟩
    | 1, _ => exact ⟨by show _ ≤ x1; omega, by show x1 ≤ _; omega⟩
    | 2, _ => exact ⟨by show _ ≤ x2; omega, by show x2 ≤ _; omega⟩
    | 3, _ => exact ⟨by show _ ≤ x3; omega, by show x3 ≤ _; omega⟩
    | n + 4, h => exact absurd h (by omega)
/-- A row of words. -/
def wv (l : List Nat) : List Value := l.map fun (x : Nat) => Value.int .u16 (x : Int)
theorem words_arg {w : World} {a : Option Addr} {len cap : Nat} {zs : List Int}
    (h : (a = none ∧ len = 0 ∧ cap = 0 ∧ zs = []) ∨ ∃ x, a = some x ∧ len ≤ cap ∧ cap ≤ maxLen ∧ zs.length = cap ∧ (∀ i, i < zs.length → w.cell? (x.add i) = some (.int .u16 (zs.getD i 0))) ∧ ∀ n ∈ zs, (Lit.int .u16 n).wf = true) :
    ∃ l : List Nat, len = l.length ∧ len ≤ cap ∧ cap ≤ maxLen ∧ (∀ x ∈ l, x < 65536) ∧ Row w w.heap.size a (wv l) := by
  rcases h with ⟨rfl, rfl, rfl, rfl⟩ | ⟨x, rfl, h1, h2, h3, h4, h5⟩
  · exact ⟨[], rfl, Nat.le_refl _, by simp [maxLen], fun _ h => by simp at h, Row.nil⟩
  · refine ⟨(zs.take len).map Int.toNat, by simp; omega, h1, h2, fun n hn => ?_, fun j hj => ?_⟩
    · obtain ⟨y, hy, rfl⟩ := List.mem_map.1 hn
      have := bounds_u16 (h5 y (List.mem_of_mem_take hy))
      omega
    · have hj' : j < len := by simp [wv] at hj; omega
      obtain ⟨b, off, spot⟩ := x
      have hc := h4 j (by omega)
      have hspot : spot = none := by
        have h0 := World.cell?_spot (h4 0 (by omega))
        simpa [Addr.add] using h0
      subst hspot
      rw [Addr.add_lit] at hc
      refine ⟨b, off, rfl, block_lt_of_cell hc, ?_⟩
      rw [hc]
      have hg : zs.getD j 0 = zs[j]'(by omega) := by simp [show j < zs.length by omega]
      have hb := bounds_u16 (h5 (zs[j]'(by omega)) (List.getElem_mem _))
      rw [hg]
      simp [wv]
      omega
end Go.Proofs.Ytpohefpiidlnjaa.Dk
