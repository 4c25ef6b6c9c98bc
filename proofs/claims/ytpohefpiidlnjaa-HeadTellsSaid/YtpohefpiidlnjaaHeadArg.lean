/-
  What arguments read as: a head, bytes.
-/
import Derived.Test.YtpohefpiidlnjaaHeadWalks4
import Derived.Test.YtpohefpiidlnjaaWordsArg
import Derived.Deep.SlicePairs
import Derived.Lib.SmallJoins
namespace Go.Proofs.Ytpohefpiidlnjaa.HdW
set_option linter.unusedVariables false
open Go.RowKit Go.Proofs Go.Proofs.Ytpohefpiidlnjaa Go.Proofs.Ytpohefpiidlnjaa.Wd Go.ChangeShapes Go.WideShapes Go.Proofs.Ytpohefpiidlnjaa.Hd
section
variable {K : Type} {enc : TypeId × Value → K} {W : World}
theorem trod_bytes {base : Nat} {spare : Nat → Bool} {held : Bool} {fuel : Nat} {v : Value} {x : DataW K × List MemPlace} (hs : ∀ b, spare b = true) (h : DataW.trod enc Try.prog W base spare held fuel 25 [v] = some x) :
    ∃ A c l, v = .slice A l.length c ∧ l.length ≤ c ∧ c ≤ maxLen ∧ Bytes W W.heap.size A l := by
  rcases open_ints Try.underlying25 Try.underlying5 (by kernel_rfl) h with ⟨hcs, _⟩ | ⟨a, l, c, zs, hcs, _, hl, hm, hz, _, hcell, hwz⟩
  · simp at hcs
    subst hcs
    exact ⟨none, 0, [], rfl, Nat.le_refl _, by simp [maxLen], Row.nil⟩
  · simp at hcs
    subst hcs
    rw [if_pos (hs _)] at hz
    have w2 : (some a = none ∧ l = 0 ∧ c = 0 ∧ zs = []) ∨ ∃ y, some a = some y ∧ l ≤ c ∧ c ≤ maxLen ∧ zs.length = c ∧ (∀ i, i < zs.length → W.cell? (y.add i) = some (.int .u8 (zs.getD i 0))) ∧ ∀ n ∈ zs, (Lit.int .u8 n).wf = true := .inr ⟨a, rfl, hl, hm, by simpa using hz, hcell, hwz⟩
    obtain ⟨b, rfl, h1, h2, h3⟩ := bytes_arg W.heap.size w2 (by intro x hx hlen; cases hx; exact slice_arg_lt w2 hlen)
    exact ⟨_, _, b, rfl, h1, h2, h3⟩
theorem trod_u64 {base : Nat} {spare : Nat → Bool} {held : Bool} {fuel : Nat} {v : Value} {x : DataW K × List MemPlace} (h : DataW.trod enc Try.prog W base spare held fuel 22 [v] = some x) : ∃ k : Nat, v = .int .u64 k ∧ k < 18446744073709551616 := by
  obtain ⟨n, hx, _, hw⟩ := DataW.trod_int Try.underlying22 h
  simp at hx
  have hb := bounds_u64 hw
  exact ⟨n.toNat, by rw [hx]; congr 1; omega, by omega⟩
theorem trod_u8 {base : Nat} {spare : Nat → Bool} {held : Bool} {fuel : Nat} {v : Value} {x : DataW K × List MemPlace} (h : DataW.trod enc Try.prog W base spare held fuel 5 [v] = some x) : ∃ k : Nat, v = .int .u8 k ∧ k < 256 := by
  obtain ⟨n, hx, _, hw⟩ := DataW.trod_int Try.underlying5 h
  simp at hx
  have hb := bounds_u8 hw
  exact ⟨n.toNat, by rw [hx]; congr 1; omega, by omega⟩
theorem open_head {r : Reach} {b0 : Nat} {base : Nat} {spare : Nat → Bool} {held : Bool} {v : Value} {d : DataW K} {p : List MemPlace} (hv : Value.okWide Try.prog W r b0 24 v) (h : DataW.Trod enc Try.prog W base spare held 24 v d p) :
    ∃ s e l : Nat, v = .agg #[.int .u64 s, .int .u64 e, .int .u8 l] ∧ Wf ⟨s, e, l⟩ := by
  obtain ⟨v0, v1, v2, y0, y1, y2, n, rfl, _, _, h0, h1, h2⟩ := Joins.open_agg3 Try.underlying24 (by kernel_rfl) (by kernel_rfl) hv h
  obtain ⟨a, rfl, ha⟩ := trod_u64 h0
  obtain ⟨b, rfl, hb⟩ := trod_u64 h1
  obtain ⟨c, rfl, hc⟩ := trod_u8 h2
  exact ⟨a, b, c, rfl, ⟨ha, hb, hc⟩⟩
end
end Go.Proofs.Ytpohefpiidlnjaa.HdW
