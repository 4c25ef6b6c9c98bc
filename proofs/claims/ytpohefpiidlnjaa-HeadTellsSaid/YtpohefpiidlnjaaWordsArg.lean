/-
  What arguments read as: arrays of integers by value.
-/
import Derived.Test.YtpohefpiidlnjaaWordsApp
import Derived.ProofKit
import Derived.OpenShut
namespace Go.Proofs.Ytpohefpiidlnjaa.Wd
open Go Go.RowKit Go.ChangeShapes Go.WideShapes
section
variable {H : Type} {enc : TypeId × Value → H} {P : Program} {w : World} {base : Nat} {spare : Nat → Bool} {held : Bool}
theorem okWide_array {r : Reach} {b0 : Nat} {t e : TypeId} {n : Nat} {v : Value} (ht : P.underlying t = some (.array n e)) (h : Value.okWide P w r b0 t v) : ∃ cs, v = .agg cs ∧ cs.size = P.cellsOf t := by
  simp only [Value.okWide, ht] at h
  obtain ⟨cs, h1, h2, _⟩ := h
  exact ⟨cs, h1, h2⟩
theorem open_array {r : Reach} {b0 : Nat} {t e : TypeId} {n : Nat} {k : IntKind} {v : Value} {d : DataW H} {p : List MemPlace} (ht : P.underlying t = some (.array n e)) (he : P.underlying e = some (.int k)) (hC : P.cellsOf e = 1) (hCt : P.cellsOf t = n)
    (hv : Value.okWide P w r b0 t v) (h : DataW.Trod enc P w base spare held t v d p) :
    ∃ cs : Array Value, v = .agg cs ∧ cs.size = n ∧ ∀ i (hi : i < cs.size), ∃ x, cs[i] = .int k x ∧ (Lit.int k x).wf = true := by
  obtain ⟨cs, rfl, hsz⟩ := okWide_array ht hv
  obtain ⟨fuel, hf⟩ := h
  obtain ⟨xs, m, _, _, hlen, hxs, hg⟩ := DataW.trod_array ht hf
  refine ⟨cs, rfl, hsz.trans hCt, fun i hi => ?_⟩
  have hi' : i < n := by omega
  have h1 := hg i hi'
  rw [hC, Nat.mul_one] at h1
  have hxi : xs[i]? = some (xs[i]'(by omega)) := List.getElem?_eq_getElem (by omega)
  rw [hxi] at h1
  obtain ⟨x, hx, _, hw⟩ := DataW.trod_int he h1
  have hd : (cs.toList.drop i).take 1 = [cs[i]] := by
    rw [List.drop_eq_getElem_cons (by simpa using hi)]
    simp
  have hx' : (cs.toList.drop i).take 1 = [Value.int k x] := hx
  rw [hd] at hx'
  injection hx' with hx'
  exact ⟨x, hx', hw⟩
end
/-- An array of bytes that came in. -/
theorem bytes_array {cs : Array Value} (h : ∀ i (hi : i < cs.size), ∃ x, cs[i] = .int .u8 x ∧ (Lit.int .u8 x).wf = true) :
    ∃ f : Nat → UInt8, ∀ i (hi : i < cs.size), cs[i] = .int .u8 ((f i).toNat : Nat) := by
  refine ⟨fun i => if hi : i < cs.size then UInt8.ofNat ((h i hi).choose.toNat) else 0, fun i hi => ?_⟩
  have hc := (h i hi).choose_spec
  have hb := bounds_u8 hc.2
  simp only [dif_pos hi]
  rw [UInt8.toNat_ofNat_of_lt' (by simp [UInt8.size]; omega)]
  refine hc.1.trans ?_
  congr 1
  omega
end Go.Proofs.Ytpohefpiidlnjaa.Wd
