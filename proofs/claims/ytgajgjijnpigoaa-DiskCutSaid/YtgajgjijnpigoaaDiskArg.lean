/-
  What arguments read as: four numbers; a byte.
-/
import Derived.Test.YtgajgjijnpigoaaWordsArg
import Derived.Test.YtgajgjijnpigoaaProg
namespace Go.Proofs.Ytgajgjijnpigoaa.Dk
set_option linter.unusedVariables false
open Go Go.RowKit Go.Proofs Go.Proofs.Ytgajgjijnpigoaa Go.Proofs.Ytgajgjijnpigoaa.Wd Go.ChangeShapes Go.WideShapes
theorem u8_of {x : Int} (h : (Lit.int .u8 x).wf = true) : ∃ a : Nat, x = a ∧ a < 256 := by
  have := bounds_u8 h
  exact ⟨x.toNat, by omega, by omega⟩
theorem four_arg {H : Type} {enc : TypeId × Value → H} {W : World} {base : Nat} {spare : Nat → Bool} {held : Bool} {r : Reach} {b0 : Nat} {v : Value} {d : DataW H} {p : List MemPlace} (hv : Value.okWide Try.prog W r b0 24 v) (h : DataW.Trod enc Try.prog W base spare held 24 v d p) :
    ∃ keep : Nat → Int, v = .agg #[.int .i64 (keep 0), .int .i64 (keep 1), .int .i64 (keep 2), .int .i64 (keep 3)] ∧ ∀ i, i < 4 → -9223372036854775808 ≤ keep i ∧ keep i ≤ 9223372036854775807 := by
  obtain ⟨cs, rfl, hsz, hx⟩ := open_array Try.underlying24 Try.underlying3 (by kernel_rfl) (by kernel_rfl) hv h
  obtain ⟨x0, h0, w0⟩ := hx 0 (by omega)
  obtain ⟨x1, h1, w1⟩ := hx 1 (by omega)
  obtain ⟨x2, h2, w2⟩ := hx 2 (by omega)
  obtain ⟨x3, h3, w3⟩ := hx 3 (by omega)
  have b0 := bounds_i64 w0
  have b1 := bounds_i64 w1
  have b2 := bounds_i64 w2
  have b3 := bounds_i64 w3
  refine ⟨fun i => match i with | 0 => x0 | 1 => x1 | 2 => x2 | _ => x3, ?_, ?_⟩
  · congr 1
    apply Array.ext
    · simpa using hsz
    · intro i hi _
      match i, hi with
      | 0, _ => exact h0
      | 1, _ => exact h1
      | 2, _ => exact h2
      | 3, _ => exact h3
      | n + 4, h => exact absurd h (by omega)
  · intro i hi
    match i, hi with
    | 0, _ => exact ⟨by show _ ≤ x0; omega, by show x0 ≤ _; omega⟩
    | 1, _ => exact ⟨by show _ ≤ x1; omega, by show x1 ≤ _; omega⟩
    | 2, _ => exact ⟨by show _ ≤ x2; omega, by show x2 ≤ _; omega⟩
    | 3, _ => exact ⟨by show _ ≤ x3; omega, by show x3 ≤ _; omega⟩
    | n + 4, h => exact absurd h (by omega)
end Go.Proofs.Ytgajgjijnpigoaa.Dk
