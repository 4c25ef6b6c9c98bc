/-
  How much there is, and how much is free, plainly.
-/
import Derived.Test.YtmkijkkddoamgaaJourNorm
namespace Go.Proofs.Ytmkijkkddoamgaa.Jo
set_option linter.unusedVariables false
open Go Go.RowKit Go.Shelf Go.Proofs Go.Proofs.Ytmkijkkddoamgaa Go.Proofs.Ytmkijkkddoamgaa.Wd Go.Proofs.Ytmkijkkddoamgaa.Dk Go.Proofs.Ytmkijkkddoamgaa.Hd Go.Proofs.Ytmkijkkddoamgaa.HdW
open Go.Proofs.Ytmkijkkddoamgaa.Bat (B)

/-- The live segment has L bytes, the other one none; k switches are done at most. -/
def FI (s : DS) (y : H) (all L k : Nat) : Prop := ∃ al, JN s y all al ∧ al (1 - y.live) = [] ∧ (al y.live).length = L ∧ L ≤ all ∧ y.serial ≤ 2 + k
section
variable {s : DS} {y : H} {all L k : Nat}
theorem FI.new {s : DS} {c : Nat} (h : JN s ⟨2, 1, 0⟩ c (fun _ => [])) : FI s ⟨2, 1, 0⟩ c 0 0 := ⟨_, h, rfl, rfl, Nat.zero_le _, Nat.le_refl _⟩
theorem FI.sum {al : Nat → List UInt8} (hl : y.live < 2) (h0 : al (1 - y.live) = []) (hL : (al y.live).length = L) : (al 0).length + (al 1).length = L := by
  rcases (by omega : y.live = 0 ∨ y.live = 1) with e | e
  · rw [e] at h0 hL; rw [hL, show (1 : Nat) = 1 - 0 from rfl, h0]; rfl
  · rw [e] at h0 hL; rw [hL]; have : al 0 = [] := h0; rw [this]; simp
theorem FI.facts (h : FI s y all L k) : Dk.free s = all - L ∧ (rd s (y.live : Nat)).length = L ∧ L ≤ all ∧ y.live < 2 ∧ Wf y ∧ y.serial ≤ 2 + k := by
  obtain ⟨al, h, h0, hL, hl, hs⟩ := h
  have := FI.sum h.lv h0 hL
  exact ⟨by rw [h.free]; omega, by rw [h.rd h.lv, hL], hl, h.lv, h.wf, hs⟩
theorem FI.a_full (h : FI s y all L k) (rows : B) (hw : Bat.wrong rows = 0) (hb : all - L < Bat.longB rows) : appendJ s y rows = (5, s) := by
  obtain ⟨al, h, h0, hL, hl, hs⟩ := h
  have := FI.sum h.lv h0 hL
  exact h.append_full rows hw (by rw [Bat.put_length]; omega)
theorem FI.a_ok (h : FI s y all L k) (rows : B) (hw : Bat.wrong rows = 0) (hb : Bat.longB rows ≤ all - L) : ∃ s', appendJ s y rows = (0, s') ∧ FI s' y all (L + Bat.longB rows) k := by
  obtain ⟨al, h, h0, hL, hl, hs⟩ := h
  have := FI.sum h.lv h0 hL
  obtain ⟨s', e, h'⟩ := h.append rows hw (by rw [Bat.put_length]; omega)
  have hlv := h.lv
  refine ⟨s', e, _, h', ?_, ?_, by omega, hs⟩
  · rw [upd_ne (by omega), h0]
  · rw [upd_eq, List.length_append, hL, Bat.put_length]
theorem FI.s_full (h : FI s y all L k) (rows : B) (hw : Bat.wrong rows = 0) (hb : all - L < Bat.longB rows) : switchJ s y rows = (5, s, y) := by
  obtain ⟨al, h, h0, hL, hl, hs⟩ := h
  have := FI.sum h.lv h0 hL
  exact h.switch_full rows hw (by rw [Bat.put_length]; omega)
theorem FI.s_ok (h : FI s y all L k) (rows : B) (hw : Bat.wrong rows = 0) (hb : Bat.longB rows ≤ all - L) (hk : k ≤ 1000) : ∃ s', switchJ s y rows = (0, s', ⟨y.serial + 1, y.epoch, 1 - y.live⟩) ∧ FI s' ⟨y.serial + 1, y.epoch, 1 - y.live⟩ all (Bat.longB rows) (k + 1) := by
  obtain ⟨al, h, h0, hL, hl, hs⟩ := h
  have := FI.sum h.lv h0 hL
  obtain ⟨s', e, h'⟩ := h.switch rows hw (by rw [Bat.put_length]; omega) (by omega)
  have hlv := h.lv
  refine ⟨s', e, _, h', ?_, ?_, by omega, by show y.serial + 1 ≤ _; omega⟩
  · show (if 1 - (1 - y.live) = y.live then _ else _) = _
    rw [if_pos (by omega)]
  · show (if 1 - y.live = y.live then ([] : List UInt8) else _).length = _
    rw [if_neg (by omega), h0, List.nil_append, Bat.put_length]
theorem FI.more (h : FI s y all L k) : FI s y all L (k + 1) := by
  obtain ⟨al, h, h0, hL, hl, hs⟩ := h
  exact ⟨al, h, h0, hL, hl, by omega⟩
end
end Go.Proofs.Ytmkijkkddoamgaa.Jo
