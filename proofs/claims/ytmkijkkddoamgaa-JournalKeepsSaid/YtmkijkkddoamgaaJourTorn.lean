/-
  What a crash leaves of slots and segments, plainly.
-/
import Derived.Test.YtmkijkkddoamgaaJourCore
namespace Go.Proofs.Ytmkijkkddoamgaa.Jo
set_option linter.unusedVariables false
open Go Go.RowKit Go.Shelf Go.Proofs Go.Proofs.Ytmkijkkddoamgaa Go.Proofs.Ytmkijkkddoamgaa.Wd Go.Proofs.Ytmkijkkddoamgaa.Dk Go.Proofs.Ytmkijkkddoamgaa.Hd Go.Proofs.Ytmkijkkddoamgaa.HdW
open Go.Proofs.Ytmkijkkddoamgaa.Bat (B writ allRight)

/-- The head y stands in its slot; the other slot's last number is none above it. -/
structure SL (s : DS) (y : H) : Prop where
  wr : ∀ j, j < 2 → s.wr j = false
  here : s.sl (y.serial % 2) = Hd.bytes y
  tail : un8 ((s.sl (1 - y.serial % 2)).drop 24) ≤ y.serial
  len : ∀ j, j < 2 → (s.sl j).length = 32
theorem un8_tail {d : List UInt8} (hl : d.length = 8) {n : Nat} (h : un8 d ≤ n) (hn : n < 256) (q : Nat) (hq : 1 ≤ q) : d.drop q = List.replicate (8 - q) 0 := by
  match d, hl with
  | [d0, d1, d2, d3, d4, d5, d6, d7], _ =>
    simp only [un8, List.getD_cons_zero, List.getD_cons_succ] at h
    have e : ∀ x : UInt8, x.toNat = 0 → x = 0 := fun x hx => UInt8.toNat.inj hx
    have h1 := e d1 (by omega)
    have h2 := e d2 (by omega)
    have h3 := e d3 (by omega)
    have h4 := e d4 (by omega)
    have h5 := e d5 (by omega)
    have h6 := e d6 (by omega)
    have h7 := e d7 (by omega)
    subst h1 h2 h3 h4 h5 h6 h7
    match q, hq with
    | 1, _ => rfl
    | 2, _ => rfl
    | 3, _ => rfl
    | 4, _ => rfl
    | 5, _ => rfl
    | 6, _ => rfl
    | 7, _ => rfl
    | q + 8, _ => simp
theorem bytes_tail (h : H) : (Hd.bytes h).drop 24 = le8 h.serial := rfl
theorem un8_le8' {n : Nat} (h : n < 256) : un8 (le8 n) = n := by
  have := un8_le8 (n := n) (by omega) []
  rwa [List.append_nil] at this
/-- Torn: what was there tells no higher number, or it is the new one. -/
theorem torn_slot {c : List UInt8} {x : H} (hc : c.length = 32) {n : Nat} (ht : un8 (c.drop 24) ≤ n) (hn : n < 256) (hx : x.serial < 256) {m : Nat} (hm : m ≤ 32) :
    un8 (((Hd.bytes x).take m ++ c.drop m).drop 24) ≤ n ∨ (Hd.bytes x).take m ++ c.drop m = Hd.bytes x := by
  have hl := bytes_length x
  by_cases h24 : m ≤ 24
  · left
    rw [List.drop_append, List.drop_eq_nil_of_le (by rw [List.length_take]; omega), List.nil_append, List.drop_drop, List.length_take, hl, show m + (24 - min m 32) = 24 by omega]
    exact ht
  · right
    have e : c.drop m = (Hd.bytes x).drop m := by
      have e1 : c.drop m = (c.drop 24).drop (m - 24) := by rw [List.drop_drop]; congr 1; omega
      have e2 : (Hd.bytes x).drop m = ((Hd.bytes x).drop 24).drop (m - 24) := by rw [List.drop_drop]; congr 1; omega
      rw [e1, e2, un8_tail (by rw [List.length_drop, hc]) ht hn (m - 24) (by omega), bytes_tail, un8_tail (le8_length _) (n := x.serial) (by rw [un8_le8' hx]; exact Nat.le_refl _) hx (m - 24) (by omega)]
    rw [e, List.take_append_drop]
theorem crash_sl (keep : Nat → Int) (s : DS) {j : Nat} (hj : j < 2) : (crashD keep s).sl j = cs1 keep s j ∧ (crashD keep s).wr j = false := by
  have hw : (crashD keep s).wr j = false := by
    rcases (by omega : j = 0 ∨ j = 1) with rfl | rfl <;> cases h0 : s.wr 0 <;> cases h1 : s.wr 1 <;> simp [crashD, cslots, csegs, cutD, copyD, unwr, revive, upd, h0, h1]
  refine ⟨?_, hw⟩
  have := crash_slot keep s hj
  unfold sh at this
  rw [hw] at this
  simpa using this
/-- Slots that were not written stay. -/
theorem SL.crash {s t : DS} {y : H} (h : SL s y) (hw : t.wr = s.wr) (hs : t.sl = s.sl) (keep : Nat → Int) : SL (crashD keep t) y := by
  have e : ∀ j, j < 2 → (crashD keep t).sl j = s.sl j := fun j hj => by
    rw [(crash_sl keep t hj).1]
    unfold cs1
    rw [hw, h.wr j hj, hs]
    rfl
  exact ⟨fun j hj => (crash_sl keep t hj).2, by rw [e _ (two_of _)]; exact h.here, by rw [e _ (by omega)]; exact h.tail, fun j hj => by rw [e j hj]; exact h.len j hj⟩
/-- A head that was written, and not synced. -/
theorem SL.torn {s t : DS} {y x : H} (h : SL s y) (hx : x.serial = y.serial + 1) (hb : x.serial < 256) (hw : t.wr = upd s.wr (x.serial % 2) true) (hs : t.sl = s.sl) (hlo : t.lo (x.serial % 2) = Hd.bytes x) (keep : Nat → Int) :
    SL (crashD keep t) y ∨ SL (crashD keep t) x := by
  have hne : y.serial % 2 ≠ x.serial % 2 := by omega
  have e1 : (crashD keep t).sl (y.serial % 2) = s.sl (y.serial % 2) := by
    rw [(crash_sl keep t (two_of _)).1]
    unfold cs1
    rw [hw, upd_ne hne, h.wr _ (two_of _), hs]
    rfl
  have e2 : (crashD keep t).sl (x.serial % 2) = (Hd.bytes x).take (slotM keep (x.serial % 2)) ++ (s.sl (x.serial % 2)).drop (slotM keep (x.serial % 2)) := by
    rw [(crash_sl keep t (two_of _)).1]
    unfold cs1
    have hm : slotM keep (x.serial % 2) ≤ 32 := Nat.min_le_right _ _
    rw [hw, upd_eq, if_pos rfl, hs, hlo, List.length_take, bytes_length, Nat.min_eq_left hm]
  have hm : slotM keep (x.serial % 2) ≤ 32 := Nat.min_le_right _ _
  have hwr : ∀ j, j < 2 → (crashD keep t).wr j = false := fun j hj => (crash_sl keep t hj).2
  have hcl := h.len (x.serial % 2) (two_of _)
  have htl : un8 ((s.sl (x.serial % 2)).drop 24) ≤ y.serial := by rw [show x.serial % 2 = 1 - y.serial % 2 by omega]; exact h.tail
  have hlen : ∀ j, j < 2 → ((crashD keep t).sl j).length = 32 := fun j hj => by
    rcases (by omega : j = y.serial % 2 ∨ j = x.serial % 2) with e | e
    · rw [e, e1]; exact h.len _ (two_of _)
    · rw [e, e2, List.length_append, List.length_take, List.length_drop, bytes_length, hcl]; omega
  rcases torn_slot (x := x) hcl htl (by omega) hb hm with e | e
  · left
    refine ⟨hwr, by rw [e1]; exact h.here, ?_, hlen⟩
    rw [show 1 - y.serial % 2 = x.serial % 2 by omega, e2]
    exact e
  · right
    refine ⟨hwr, by rw [e2]; exact e, ?_, hlen⟩
    rw [show 1 - x.serial % 2 = y.serial % 2 by omega, e1, h.here, bytes_tail, un8_le8' (by omega)]
    omega
/-- A head that was saved. -/
theorem SL.saved {s : DS} {y x : H} (h : SL s y) (hx : x.serial = y.serial + 1) (hb : x.serial < 256) : SL (savedD x s) x := by
  have hw : ∀ j, j < 2 → (savedD x s).wr j = false := fun j hj => saved_wr x hj
  have hsl : ∀ j, j < 2 → (savedD x s).sl j = sh (savedD x s) j := fun j hj => by unfold sh; rw [hw j hj]; rfl
  have e1 : (savedD x s).sl (x.serial % 2) = Hd.bytes x := by rw [hsl _ (two_of _), saved_eq]
  have e2 : (savedD x s).sl (y.serial % 2) = Hd.bytes y := by
    rw [hsl _ (two_of _), saved_ne x (two_of _) (by omega)]
    unfold sh
    rw [h.wr _ (two_of _), ← h.here]
    rfl
  refine ⟨hw, e1, ?_, fun j hj => ?_⟩
  · rw [show 1 - x.serial % 2 = y.serial % 2 by omega, e2, bytes_tail, un8_le8' (by omega)]
    omega
  · rcases (by omega : j = y.serial % 2 ∨ j = x.serial % 2) with e | e
    · rw [e, e2]; rfl
    · rw [e, e1]; rfl
/-- It is the head that counts. -/
theorem SL.load {s : DS} {y : H} (h : SL s y) (ha : Al s) (wf : Wf y) (rt : right y = true) : loadR s = (y, 0) := by
  have e : ∀ j, j < 2 → sh s j = s.sl j := fun j hj => by unfold sh; rw [h.wr j hj]; rfl
  refine load_own ha wf rt (y.serial % 2) rfl (by rw [e _ (two_of _)]; exact h.here) fun g hg => ?_
  rw [e _ (by omega)] at hg
  obtain ⟨-, eb, wg⟩ := read_some hg
  have ht := h.tail
  rw [eb, bytes_tail] at ht
  have : un8 (le8 g.serial) = g.serial := by
    have := un8_le8 wg.serial []
    rwa [List.append_nil] at this
  rw [this] at ht
  by_cases h1 : g.serial = y.serial
  · left; rw [h1]
  · right; omega
theorem crash_seg (keep : Nat → Int) (s : DS) {i : Nat} (hi : i < 2) : (crashD keep s).all i = (s.all i).take (segN keep i s) ∧ (crashD keep s).safe i = segN keep i s := by
  have hp : ∀ n (u : DS), (cslots keep u n).all = u.all ∧ (cslots keep u n).safe = u.safe := fun n u => by
    induction n with
    | zero => exact ⟨rfl, rfl⟩
    | succ n ih =>
      show (unwr n _).all = _ ∧ (unwr n _).safe = _
      unfold unwr
      dsimp only
      split <;> exact ih
  have h2 := hp 2 (csegs keep s 2)
  refine ⟨?_, ?_⟩
  · show (cslots keep _ 2).all i = _
    rw [h2.1]
    rcases (by omega : i = 0 ∨ i = 1) with rfl | rfl <;> rfl
  · show (cslots keep _ 2).safe i = _
    rw [h2.2]
    rcases (by omega : i = 0 ∨ i = 1) with rfl | rfl <;> rfl
theorem crash_capK (keep : Nat → Int) (s : DS) : (crashD keep s).cap = s.cap := by
  have hp : ∀ n (u : DS), (cslots keep u n).cap = u.cap := fun n u => by
    induction n with
    | zero => rfl
    | succ n ih => show (unwr n _).cap = _; unfold unwr; dsimp only; split <;> exact ih
  show (cslots _ _ 2).cap = _
  rw [hp]; rfl
end Go.Proofs.Ytmkijkkddoamgaa.Jo
