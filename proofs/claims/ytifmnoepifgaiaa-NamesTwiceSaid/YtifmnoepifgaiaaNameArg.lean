/-
  Arguments: a row of numbers, a byte.
-/
import Derived.Test.YtifmnoepifgaiaaOrdW
namespace Go.Proofs.Ytifmnoepifgaiaa.NmA
open Go Go.RowKit Go.Proofs Go.Proofs.Ytifmnoepifgaiaa Go.Proofs.Ytifmnoepifgaiaa.Wd
theorem nums_arg {w : World} {a : Option Addr} {len cap : Nat} {zs : List Int}
    (h : (a = none ∧ len = 0 ∧ cap = 0 ∧ zs = []) ∨ ∃ x, a = some x ∧ len ≤ cap ∧ cap ≤ maxLen ∧ zs.length = cap ∧ (∀ i, i < zs.length → w.cell? (x.add i) = some (.int .i64 (zs.getD i 0))) ∧ ∀ n ∈ zs, (Lit.int .i64 n).wf = true) :
    ∃ l : List Int, len = l.length ∧ len ≤ cap ∧ cap ≤ maxLen ∧ Nums w w.heap.size a l := by
  rcases h with ⟨rfl, rfl, rfl, rfl⟩ | ⟨x, rfl, h1, h2, h3, h4, h5⟩
  · exact ⟨[], rfl, Nat.le_refl _, by simp [maxLen], Row.nil⟩
  · refine ⟨zs.take len, by simp; omega, h1, h2, fun j hj => ?_⟩
    have hj' : j < len := by simp [iv] at hj; omega
    obtain ⟨b, off, spot⟩ := x
    have hc := h4 j (by omega)
    have hspot : spot = none := by
      have h0 := World.cell?_spot (h4 0 (by omega))
      simpa [Addr.add] using h0
    subst hspot
    rw [Addr.add_lit] at hc
    refine ⟨b, off, rfl, block_lt_of_cell hc, ?_⟩
    rw [hc]
    have hg : zs.getD j 0 = zs[j]'(by omega) := by simp [show j < zs.length by omega]
    rw [hg]
    simp [iv]
theorem u8_of {x : Int} (h : (Lit.int .u8 x).wf = true) : ∃ a : Nat, x = a ∧ a < 256 := by
  have := bounds_u8 h
  exact ⟨x.toNat, by omega, by omega⟩
end Go.Proofs.Ytifmnoepifgaiaa.NmA
