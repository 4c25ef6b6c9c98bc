/-
  strings.Repeat of one letter.
-/
import Derived.Test.YtifmnoepifgaiaaNameTwicePl
namespace Go.Proofs.Ytifmnoepifgaiaa.NmW
set_option linter.unusedVariables false
open Go Go.RowKit Go.Maps Go.Sort Go.Shelf Go.Proofs Go.Proofs.Ytifmnoepifgaiaa Go.Proofs.Ytifmnoepifgaiaa.Wd Go.Proofs.Ytifmnoepifgaiaa.ScW Go.Proofs.Ytifmnoepifgaiaa.Nm Go.Proofs.Ytifmnoepifgaiaa.NmL
theorem repeatL_one (x : UInt8) (c : Nat) : Lib.repeatL [x] c = List.replicate c x := by
  induction c with
  | zero => rfl
  | succ n ih =>
    unfold Lib.repeatL
    rw [ih]
    rfl
theorem rep_any (c : Nat) (hc : c ≤ 1000) (w : World) : Calls Try.prog 14 #[.string { data := #[105] }, .int .i64 (c : Int)] w fun e w' => e = .returned (.string ⟨(List.replicate c (105 : UInt8)).toArray⟩) ∧ Below w.heap.size w w' := by
  have h := Any.strings_Repeat repLays repExtra ⟨#[105]⟩ c w (by omega) (by show 1 * c ≤ _; omega)
  refine h.mono ?_
  rintro e w' ⟨rfl, h2⟩
  refine ⟨?_, h2⟩
  rw [show (⟨#[105]⟩ : ByteArray).data.toList = [105] from rfl, repeatL_one]
end Go.Proofs.Ytifmnoepifgaiaa.NmW
