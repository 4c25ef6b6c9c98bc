/-
  What an argument that is a bundle reads as.
-/
import Derived.Test.YtelplccbcbegkaaBundlePQ
import Derived.Lib.SmallJoins
namespace Go.Proofs.Ytelplccbcbegkaa.OrW
set_option linter.unusedVariables false
open Go Go.RowKit Go.Proofs Go.Proofs.Ytelplccbcbegkaa Go.Proofs.Ytelplccbcbegkaa.Wd Go.ChangeShapes Go.WideShapes
section
variable {H : Type} {enc : TypeId × Value → H} {W : World}
set_option maxRecDepth 100000 in
theorem open_part {r : Reach} {b0 : Nat} {base : Nat} {spare : Nat → Bool} {held : Bool} {v : Value} {d : DataW H} {p : List MemPlace} (hs : ∀ b, spare b = true) (hv : Value.okWide Try.prog W r b0 59 v) (h : DataW.Trod enc Try.prog W base spare held 59 v d p) :
    ∃ (z : Int) (l : List (Int × Int)) (A : Option Addr) (c : Nat), v = .agg #[.int .i64 z, .slice A l.length c] ∧ l.length ≤ c ∧ c ≤ maxLen ∧ GrW.EdgesAt W W.heap.size A l := by
  obtain ⟨v0, v1, y0, y1, n, rfl, _, _, h0, h1⟩ := Joins.open_agg2 Try.underlying59 (by kernel_rfl) (by kernel_rfl) hv h
  obtain ⟨z, hz, -⟩ := DataW.trod_int Try.underlying3 h0
  have hz : v0 = .int .i64 z := by simpa using hz
  obtain ⟨l, A, c, rfl, h2, h3, h4⟩ := GrW.open_edges hs h1
  exact ⟨z, l, A, c, by rw [hz], h2, h3, h4⟩
end
end Go.Proofs.Ytelplccbcbegkaa.OrW
