/-
  A journal that keeps what it was told, plainly.
-/
import Derived.Test.YtmkijkkddoamgaaJourTorn
namespace Go.Proofs.Ytmkijkkddoamgaa.Jo
set_option linter.unusedVariables false
open Go Go.RowKit Go.Shelf Go.Proofs Go.Proofs.Ytmkijkkddoamgaa Go.Proofs.Ytmkijkkddoamgaa.Wd Go.Proofs.Ytmkijkkddoamgaa.Dk Go.Proofs.Ytmkijkkddoamgaa.Hd Go.Proofs.Ytmkijkkddoamgaa.HdW
open Go.Proofs.Ytmkijkkddoamgaa.Bat (B writ allRight)

/-- Opened, it is L: of the segment that lives the first bytes are L's batches, and no more of them are whole. -/
def Holds (b : List UInt8) (L : List B) : Prop := allRight L = true ∧ (∃ e, Bat.scan b = (L, (writ L).length, e)) ∧ b.take (writ L).length = writ L
theorem Holds.of_writ {L : List B} (h : allRight L = true) : Holds (writ L) L := by
  refine ⟨h, ⟨0, ?_⟩, List.take_length⟩
  have := Bat.scan_writ h []
  rw [List.append_nil, Bat.scan_nil] at this
  simpa using this
/-- A batch that is cut, or whole. -/
theorem Holds.more {L : List B} (h : allRight L = true) {b : B} (hb : Bat.wrong b = 0) (q : Nat) : Holds (writ L ++ (Bat.put b).take q) L ∨ Holds (writ L ++ (Bat.put b).take q) (L ++ [b]) := by
  by_cases hq : q < (Bat.put b).length
  · left
    refine ⟨h, ⟨if q = 0 then 0 else 32, ?_⟩, List.take_left⟩
    rw [Bat.scan_writ h, Bat.scan_cut hb hq]
    simp
  · right
    rw [List.take_of_length_le (by omega), ← Bat.writ_snoc]
    refine Holds.of_writ ?_
    unfold allRight at *
    simp [List.all_append, h, hb]
structure PC (s : DS) (y : H) (L : List B) : Prop where
  al : Al s
  cap : s.cap = 4000
  safe : ∀ i, i < 2 → s.safe i = (s.all i).length
  sl : SL s y
  wf : Wf y
  rt : right y = true
  holds : Holds (s.all y.live) L
def K (s : DS) (y : H) (L : List B) : Prop := PC s y L ∧ s.all y.live = writ L ∧ s.all (1 - y.live) = []
section
variable {s t : DS} {y x : H} {L : List B}
theorem PC.lv (h : PC s y L) : y.live < 2 := by have := h.rt; simp [right] at this; exact this.2
/-- A crash: segments that are safe stay. -/
theorem PC.crash {u : DS} {L' : List B} (hc : u.cap = 4000) (hs : ∀ i, i < 2 → u.safe i = (u.all i).length) (keep : Nat → Int) (hsl : SL (crashD keep u) x) (wf : Wf x) (rt : right x = true) (hh : Holds (u.all x.live) L') : PC (crashD keep u) x L' := by
  have hl : x.live < 2 := by simp [right] at rt; exact rt.2
  have e : ∀ i, i < 2 → (crashD keep u).all i = u.all i := fun i hi => by
    rw [(crash_seg keep u hi).1]
    unfold segN
    rw [hs i hi]
    exact List.take_of_length_le (Nat.le_add_right _ _)
  refine ⟨⟨(crash_dead _ _).2, (crash_dead _ _).1⟩, (crash_capK keep u).trans hc, fun i hi => ?_, hsl, wf, rt, by rw [e _ hl]; exact hh⟩
  rw [e i hi, (crash_seg keep u hi).2]
  unfold segN
  rw [hs i hi]
  omega
/-- A segment that is shortened. -/
theorem cutS_facts (hs : ∀ i, i < 2 → t.safe i = (t.all i).length) {i : Nat} (n : Nat) (hi : i < 2) : (cutS t i n).cap = t.cap ∧ (∀ j, j < 2 → (cutS t i n).safe j = ((cutS t i n).all j).length) ∧ (cutS t i n).all i = (t.all i).take n ∧ (∀ j, j ≠ i → (cutS t i n).all j = t.all j) ∧ (cutS t i n).wr = t.wr ∧ (cutS t i n).sl = t.sl ∧ (cutS t i n).lo = t.lo := by
  unfold cutS
  by_cases hn : (t.all i).length ≤ n
  · rw [if_pos hn]
    exact ⟨rfl, hs, (List.take_of_length_le hn).symm, fun _ _ => rfl, rfl, rfl, rfl⟩
  · rw [if_neg hn]
    refine ⟨rfl, fun j hj => ?_, upd_eq _ _ _, fun j hj => upd_ne hj, rfl, rfl, rfl⟩
    show upd t.safe i (min (t.safe i) n) j = (upd t.all i ((t.all i).take n) j).length
    by_cases ej : j = i
    · subst ej; rw [upd_eq, upd_eq, hs j hj, List.length_take, Nat.min_comm]
    · rw [upd_ne ej, upd_ne ej, hs j hj]
theorem savedD_all (x : H) (s : DS) : (savedD x s).all = s.all ∧ (savedD x s).safe = s.safe ∧ (savedD x s).cap = s.cap := by
  have h1 : ∀ k (t : DS), (syS k t).all = t.all ∧ (syS k t).safe = t.safe ∧ (syS k t).cap = t.cap := fun k t => by unfold syS; split <;> exact ⟨rfl, rfl, rfl⟩
  refine ⟨?_, ?_, ?_⟩
  · show (syS 1 (syS 0 _)).all = _
    rw [(h1 1 _).1, (h1 0 _).1]; rfl
  · show (syS 1 (syS 0 _)).safe = _
    rw [(h1 1 _).2.1, (h1 0 _).2.1]; rfl
  · show (syS 1 (syS 0 _)).cap = _
    rw [(h1 1 _).2.2, (h1 0 _).2.2]; rfl
theorem SL.same (h : SL s y) (hw : t.wr = s.wr) (hs : t.sl = s.sl) (hl : t.lo = s.lo) : SL t y := ⟨by rw [hw]; exact h.wr, by rw [hs]; exact h.here, by rw [hs]; exact h.tail, by rw [hs]; exact h.len⟩
theorem all_put (j : Nat) (b : List UInt8) (t : DS) (o : Option (Nat × Nat)) : (died (fused (putS j b t) o)).all = t.all := rfl
/-- What is opened, under a fuse or not. -/
theorem open_law (h : PC s y L) (hb : y.serial + 1 < 256) (he : y.epoch + 1 < 256) (o : Option (Nat × Nat)) : (openB (fused s o)).1 = L ∧
    ((∃ s' o', openD (fused s o) = (0, fused s' o', ⟨y.serial + 1, y.epoch + 1, y.live⟩) ∧ K s' ⟨y.serial + 1, y.epoch + 1, y.live⟩ L) ∨
     ((openD (fused s o)).1 = 3 ∧ (openD (fused s o)).2.1.dead = true ∧ ∀ keep, ∃ y', (y' = y ∨ y' = ⟨y.serial + 1, y.epoch + 1, y.live⟩) ∧ PC (crashD keep (openD (fused s o)).2.1) y' L)) := by
  have hl := h.lv
  have hld : loadR (fused s o) = (y, 0) := h.sl.load h.al h.wf h.rt
  have hrd : rd (fused s o) (y.live : Int) = s.all y.live := by
    unfold Dk.rd
    rw [if_neg (by show ¬ s.dead = true; rw [h.al.dead]; simp), among_yes hl, if_pos rfl, Int.toNat_natCast]
    rfl
  obtain ⟨hr, ⟨e, hsc⟩, htk⟩ := h.holds
  have eb : openB (fused s o) = (L, (writ L).length, e) := by unfold openB; rw [hld]; dsimp only; rw [hrd, hsc]
  refine ⟨by rw [eb], ?_⟩
  obtain ⟨x, hx⟩ : ∃ x : H, x = ⟨y.serial + 1, y.epoch + 1, y.live⟩ := ⟨_, rfl⟩
  rw [← hx]
  have xs : x.serial = y.serial + 1 := by rw [hx]
  have xl : x.live = y.live := by rw [hx]
  have xw : Wf x := by rw [hx]; exact ⟨show y.serial + 1 < _ by omega, show y.epoch + 1 < _ by omega, show y.live < 256 by omega⟩
  have xr : right x = true := right_of2 (by omega) (by omega)
  have hz : up1 ⟨y.serial, (y.epoch + 1) % 18446744073709551616, y.live⟩ = x := by
    rw [hx]; unfold up1
    dsimp only
    rw [Nat.mod_eq_of_lt (a := y.serial + 1) (by omega), Nat.mod_eq_of_lt (a := y.epoch + 1) (by omega)]
  have hO : openD (fused s o) = clearD (fused s o) ⟨y.serial, (y.epoch + 1) % 18446744073709551616, y.live⟩ (y.live : Nat) ((writ L).length : Nat) ((1 - y.live : Nat) : Int) ((0 : Nat) : Int) := by
    unfold openD openH
    rw [hld, eb]
    dsimp only
    rw [if_neg (by simp), one_sub hl]
    rfl
  rw [hO]
  obtain ⟨c1, c2, c3, c4, c5, c6, c7⟩ := cutS_facts h.safe (writ L).length hl
  obtain ⟨d1, d2, d3, d4, d5, d6, d7⟩ := cutS_facts c2 0 (show 1 - y.live < 2 by omega)
  have al1 : (cutS s y.live (writ L).length).all y.live = writ L := c3.trans htk
  have al2 : (cutS (cutS s y.live (writ L).length) (1 - y.live) 0).all y.live = writ L := (d4 _ (by omega)).trans al1
  have al3 : (cutS (cutS s y.live (writ L).length) (1 - y.live) 0).all (1 - y.live) = [] := d3.trans rfl
  rcases clear_core h.al hz xr o (n := (writ L).length) (m := 0) hl (show 1 - y.live < 2 by omega) with ⟨o', e1⟩ | ⟨t', o', e1, ht⟩
  · left
    refine ⟨_, o', e1, ⟨saved_al (cutS_al (cutS_al h.al _ _) _ _) x, ?_, ?_, ?_, xw, xr, ?_⟩, ?_, ?_⟩
    · rw [(savedD_all x _).2.2, d1, c1, h.cap]
    · intro i hi; rw [(savedD_all x _).2.1, (savedD_all x _).1]; exact d2 i hi
    · exact SL.saved (h.sl.same (d5.trans c5) (d6.trans c6) (d7.trans c7)) xs (by omega)
    · rw [(savedD_all x _).1, xl, al2]; exact Holds.of_writ hr
    · rw [(savedD_all x _).1, xl]; exact al2
    · rw [(savedD_all x _).1, xl]; exact al3
  · right
    rw [e1]
    refine ⟨rfl, rfl, fun keep => ?_⟩
    rcases ht with rfl | rfl | rfl | rfl
    · exact ⟨y, .inl rfl, PC.crash (u := died (fused t' o')) h.cap h.safe keep (SL.crash (t := died (fused t' o')) h.sl rfl rfl keep) h.wf h.rt h.holds⟩
    · refine ⟨y, .inl rfl, PC.crash (u := died (fused (cutS s y.live (writ L).length) o')) (c1.trans h.cap) c2 keep (SL.crash (t := died (fused (cutS s y.live (writ L).length) o')) h.sl c5 c6 keep) h.wf h.rt ?_⟩
      show Holds ((cutS s y.live (writ L).length).all y.live) L
      rw [al1]; exact Holds.of_writ hr
    · refine ⟨y, .inl rfl, PC.crash (u := died (fused (cutS (cutS s y.live (writ L).length) (1 - y.live) 0) o')) (d1.trans (c1.trans h.cap)) d2 keep (SL.crash (t := died (fused (cutS (cutS s y.live (writ L).length) (1 - y.live) 0) o')) h.sl (d5.trans c5) (d6.trans c6) keep) h.wf h.rt ?_⟩
      show Holds ((cutS (cutS s y.live (writ L).length) (1 - y.live) 0).all y.live) L
      rw [al2]; exact Holds.of_writ hr
    · rcases SL.torn (s := cutS (cutS s y.live (writ L).length) (1 - y.live) 0) (t := died (fused (putS (x.serial % 2) (Hd.bytes x) (cutS (cutS s y.live (writ L).length) (1 - y.live) 0)) o')) (h.sl.same (d5.trans c5) (d6.trans c6) (d7.trans c7)) xs (by omega) rfl rfl (upd_eq _ _ _) keep with hS | hS
      · refine ⟨y, .inl rfl, PC.crash (u := died (fused (putS (x.serial % 2) (Hd.bytes x) (cutS (cutS s y.live (writ L).length) (1 - y.live) 0)) o')) (d1.trans (c1.trans h.cap)) d2 keep hS h.wf h.rt ?_⟩
        rw [all_put, al2]; exact Holds.of_writ hr
      · refine ⟨x, .inr rfl, PC.crash (u := died (fused (putS (x.serial % 2) (Hd.bytes x) (cutS (cutS s y.live (writ L).length) (1 - y.live) 0)) o')) (d1.trans (c1.trans h.cap)) d2 keep hS xw xr ?_⟩
        rw [all_put, xl, al2]; exact Holds.of_writ hr
end
end Go.Proofs.Ytmkijkkddoamgaa.Jo
