/-
  Opened again and again, plainly.
-/
import Derived.Test.YtmkijkkddoamgaaJourNorm
namespace Go.Proofs.Ytmkijkkddoamgaa.Jo
set_option linter.unusedVariables false
open Go Go.RowKit Go.Shelf Go.Proofs Go.Proofs.Ytmkijkkddoamgaa Go.Proofs.Ytmkijkkddoamgaa.Wd Go.Proofs.Ytmkijkkddoamgaa.Dk Go.Proofs.Ytmkijkkddoamgaa.Hd Go.Proofs.Ytmkijkkddoamgaa.HdW
open Go.Proofs.Ytmkijkkddoamgaa.Bat (B writ allRight)

/-- The batches L stand in segment 0; L is appended to. -/
def AP (s : DS) (L : List B) : Prop := ∃ al, JN s ⟨2, 1, 0⟩ 60000 al ∧ al 0 = writ L ∧ al 1 = []
section
variable {s : DS} {L : List B} {rows : B}
theorem AP.new {s : DS} (h : JN s ⟨2, 1, 0⟩ 60000 (fun _ => [])) : AP s [] := ⟨_, h, rfl, rfl⟩
/-- A batch is appended; or it is refused, and nothing is changed. -/
theorem AP.append (h : AP s L) (rows : B) : (∃ s', appendJ s ⟨2, 1, 0⟩ rows = (0, s') ∧ Bat.wrong rows = 0 ∧ AP s' (L ++ [rows])) ∨ (∃ c, c ≠ 0 ∧ appendJ s ⟨2, 1, 0⟩ rows = (c, s) ∧ (c = 5 → 60000 < (writ L).length + (Bat.put rows).length) ∧ (c ≠ 5 → c = Bat.wrong rows)) := by
  obtain ⟨al, h, h0, h1⟩ := h
  by_cases hw : Bat.wrong rows = 0
  · by_cases hb : (Bat.put rows).length ≤ 60000 - (al 0).length - (al 1).length
    · obtain ⟨s', e, h'⟩ := h.append rows hw hb
      refine .inl ⟨s', e, hw, _, h', ?_, ?_⟩
      · show upd al 0 (al 0 ++ _) 0 = _
        rw [upd_eq, h0, Bat.writ_snoc]
      · show upd al 0 _ 1 = _
        rw [upd_ne (by decide), h1]
    · refine .inr ⟨5, by decide, h.append_full rows hw (by omega), fun _ => ?_, fun e => absurd rfl e⟩
      rw [h0, h1] at hb
      simp only [List.length_nil] at hb
      omega
  · refine .inr ⟨Bat.wrong rows, hw, JN.append_wrong rows hw, fun e => ?_, fun _ => rfl⟩
    exfalso
    unfold Bat.wrong at e
    split at e
    · simp at e
    · split at e <;> simp at e
theorem AP.size (h : AP s L) : rd s (0 : Nat) = writ L := by
  obtain ⟨al, h, h0, h1⟩ := h
  rw [h.rd (i := 0) (by decide), h0]
/-- Bytes behind a segment, not synced. -/
theorem JN.more {y : H} {cap : Nat} {al : Nat → List UInt8} (h : JN s y cap al) {i : Nat} (hi : i < 2) {b : List UInt8} (hb : b.length ≤ cap - (al 0).length - (al 1).length) : ∃ s', appD s (i : Int) b = (0, s') ∧ JN s' y cap (upd al i (al i ++ b)) := by
  have e : appD s (i : Int) b = (0, putD i b b.length s) := by
    unfold appD
    rw [if_neg (by rw [h.live.dead]; simp), if_neg (by rw [among_yes hi]; simp), if_neg (by rw [h.free]; omega), after_live h.live.fuse]; rfl
  refine ⟨_, e, h.turn rfl (fun j hj => ?_) rfl rfl rfl rfl rfl⟩
  show upd s.all i (s.all i ++ b.take b.length) j = _
  by_cases ej : j = i
  · subst ej; rw [upd_eq, upd_eq, h.all j hj, List.take_length]
  · rw [upd_ne ej, upd_ne ej, h.all j hj]
/-- What is opened is L. -/
def AG (s : DS) (y : H) (L : List B) : Prop := ∃ al e, JN s y 60000 al ∧ y.live = 0 ∧ Bat.scan (al 0) = (L, (writ L).length, e) ∧ (al 0).take (writ L).length = writ L
theorem AP.torn (h : AP s L) (hr : allRight L = true) {t : B} (ht : Bat.wrong t = 0) {q : Nat} (hq : q < (Bat.put t).length) (other : List UInt8) (hl : (writ L).length + q + other.length ≤ 60000) :
    ∃ s1 s2, appD s 0 ((Bat.put t).take q) = (0, s1) ∧ appD s1 1 other = (0, s2) ∧ AG s2 ⟨2, 1, 0⟩ L := by
  obtain ⟨al, h, h0, h1⟩ := h
  have hlq : ((Bat.put t).take q).length = q := by rw [List.length_take]; omega
  obtain ⟨s1, e1, k1⟩ := h.more (i := 0) (b := (Bat.put t).take q) (by decide) (by rw [hlq, h0, h1]; simp only [List.length_nil]; omega)
  have a0 : upd al 0 (al 0 ++ (Bat.put t).take q) 0 = writ L ++ (Bat.put t).take q := by rw [upd_eq, h0]
  have a1 : upd al 0 (al 0 ++ (Bat.put t).take q) 1 = [] := by rw [upd_ne (by decide), h1]
  obtain ⟨s2, e2, k2⟩ := k1.more (i := 1) (b := other) (by decide) (by rw [a0, a1, List.length_append, hlq]; simp only [List.length_nil]; omega)
  refine ⟨s1, s2, e1, e2, _, (if q = 0 then 0 else 32), k2, rfl, ?_, ?_⟩
  · rw [upd_ne (by decide), a0, Bat.scan_writ hr, Bat.scan_cut ht hq]
    simp
  · rw [upd_ne (by decide), a0, List.take_left]
theorem AG.open {y : H} (h : AG s y L) (hr : allRight L = true) (hs : y.serial + 1 < 18446744073709551616) (he : y.epoch + 1 < 18446744073709551616) :
    ∃ s', openD s = (0, s', ⟨y.serial + 1, y.epoch + 1, 0⟩) ∧ (openB s).1 = L ∧ AG s' ⟨y.serial + 1, y.epoch + 1, 0⟩ L ∧ rd s' (0 : Nat) = writ L ∧ rd s' (1 : Nat) = [] := by
  obtain ⟨al, e, h, h0, h1, h2⟩ := h
  obtain ⟨s', e1, h', e2⟩ := h.opened hs
  rw [Nat.mod_eq_of_lt he] at e1 h'
  rw [h0] at e1 h' e2
  have hz : (if (0 : Nat) = 0 then (al 0).take (Bat.scan (al 0)).2.1 else ([] : List UInt8)) = writ L := by
    rw [if_pos rfl, h1]
    exact h2
  have sc : Bat.scan (writ L) = (L, (writ L).length, 0) := by
    have := Bat.scan_writ hr []
    rw [List.append_nil, Bat.scan_nil] at this
    simpa using this
  refine ⟨s', e1, by rw [e2, h1], ⟨_, 0, h', rfl, ?_, ?_⟩, ?_, ?_⟩
  · rw [hz, sc]
  · rw [hz, List.take_length]
  · rw [h'.rd (i := 0) (by decide), hz]
  · rw [h'.rd (i := 1) (by decide)]; rfl
theorem AG.open2 {sr ei : Nat} (h : AG s ⟨sr, ei, 0⟩ L) (hr : allRight L = true) (hs : sr ≤ 100) (he : ei ≤ 100) :
    ∃ s' sr' ei', sr' = sr + 1 ∧ ei' = ei + 1 ∧ openD s = (0, s', ⟨sr', ei', 0⟩) ∧ (openB s).1 = L ∧ AG s' ⟨sr', ei', 0⟩ L ∧ rd s' (0 : Nat) = writ L ∧ rd s' (1 : Nat) = [] := by
  obtain ⟨s', h1, h2, h3, h4, h5⟩ := h.open hr (show sr + 1 < 18446744073709551616 by omega) (show ei + 1 < 18446744073709551616 by omega)
  exact ⟨s', sr + 1, ei + 1, rfl, rfl, h1, h2, h3, h4, h5⟩
theorem wf_of {sr ei : Nat} (hs : sr ≤ 101) (he : ei ≤ 101) : Wf ⟨sr, ei, 0⟩ := ⟨show sr < 18446744073709551616 by omega, show ei < 18446744073709551616 by omega, show (0 : Nat) < 256 by decide⟩
end
end Go.Proofs.Ytmkijkkddoamgaa.Jo
