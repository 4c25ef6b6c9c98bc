/-
  An order in blocks of its own, above what there was.
-/
import Derived.Test.YtelplccbcbegkaaOrderUpWalk
namespace Go.Proofs.Ytelplccbcbegkaa.OrW
set_option linter.unusedVariables false
open Go Go.RowKit Go.Proofs Go.Proofs.Ytelplccbcbegkaa Go.Proofs.Ytelplccbcbegkaa.Wd Go.Proofs.Ytelplccbcbegkaa.GrW Go.Proofs.Ytelplccbcbegkaa.Ord
open Go.Proofs.Ytelplccbcbegkaa.Gr (OK putL outs intos Path edgesTo)

/-- An order above what there was at w, in blocks that there are. -/
structure OnF (w wr : World) (F : Nat → Prop) (o M : Nat) (L : List (List Int)) (P A : List Nat) : Prop where
  ord : OAt wr w.heap.size F o M L P A
  f1 : ∀ k, F k → w.heap.size ≤ k ∧ k < wr.heap.size
  low : Below w.heap.size w wr
theorem OnF.below {w wr w' : World} {F : Nat → Prop} {o M : Nat} {L : List (List Int)} {P A : List Nat} (h : OnF w wr F o M L P A) (hb : Below wr.heap.size wr w') : OnF w w' F o M L P A where
  ord := h.ord.below hb
  f1 := fun k e => ⟨(h.f1 k e).1, Nat.lt_of_lt_of_le (h.f1 k e).2 hb.size⟩
  low := h.low.trans (hb.mono h.low.size)
theorem OnF.upd {w wr w' : World} {F : Nat → Prop} {o M M' : Nat} {L L' : List (List Int)} {P A P' A' : List Nat} (h : OnF w wr F o M L P A) (hu : OUpd w.heap.size F o M' L' P' A' wr w') : ∃ F', OnF w w' F' o M' L' P' A' ∧ Fr F wr w' ∧ ∀ k, F' k → F k ∨ wr.heap.size ≤ k := by
  obtain ⟨F', q1, q2, q3⟩ := hu
  refine ⟨_, ⟨q1.exist, fun k e => ⟨?_, e.2⟩, h.low.trans (q2.low (fun k e => (h.f1 k e).1) h.low.size)⟩, q2, fun k e => q3 k e.1⟩
  rcases q3 k e.1 with e | e
  · exact (h.f1 k e).1
  · exact Nat.le_trans h.low.size e
/-- An order somewhere above. -/
def On (w wr : World) (o M : Nat) : Prop := ∃ F L P A, OnF w wr F o M L P A ∧ OSt M L P A
theorem On.new_ {w w1 : World} {M : Nat} {e : Ending} (hM : M ≤ 10000) (h : ONewOut w (M : Int) e w1) : ∃ o, e = .returned (.tuple #[.pointer (some ⟨o, 0, none⟩), .int .i64 0]) ∧ On w w1 o M := by
  unfold ONewOut at h
  rw [if_pos (by omega), Int.toNat_natCast] at h
  obtain ⟨o, rfl, O1, B1⟩ := h
  exact ⟨o, rfl, _, _, _, _, ⟨O1.exist, fun k e => e, B1⟩, OSt.start M⟩
theorem On.low {w wr : World} {o M : Nat} (h : On w wr o M) : Below w.heap.size w wr := by
  obtain ⟨F, L, P, A, h1, -⟩ := h
  exact h1.low
end Go.Proofs.Ytelplccbcbegkaa.OrW
