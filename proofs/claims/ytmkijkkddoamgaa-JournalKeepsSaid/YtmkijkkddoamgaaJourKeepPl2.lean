/-
  A batch that is appended, or switched to, under a fuse or not, plainly.
-/
import Derived.Test.YtmkijkkddoamgaaJourKeepPl
namespace Go.Proofs.Ytmkijkkddoamgaa.Jo
set_option linter.unusedVariables false
open Go Go.RowKit Go.Shelf Go.Proofs Go.Proofs.Ytmkijkkddoamgaa Go.Proofs.Ytmkijkkddoamgaa.Wd Go.Proofs.Ytmkijkkddoamgaa.Dk Go.Proofs.Ytmkijkkddoamgaa.Hd Go.Proofs.Ytmkijkkddoamgaa.HdW
open Go.Proofs.Ytmkijkkddoamgaa.Bat (B writ allRight)
def stepJ (s : DS) (y : H) (rows : B) (turn : Bool) : Nat × DS × H := if turn then switchJ s y rows else ((appendJ s y rows).1, (appendJ s y rows).2, y)
def behindL (L : List B) (rows : B) (turn : Bool) : List B := if turn then [rows] else L ++ [rows]
section
variable {s t : DS} {y x : H} {L : List B} {rows : B}
/-- What a batch makes: it is there; it is refused; or the disk died, and behind any crash there is L, or that with it. -/
def StepOut (s : DS) (y : H) (L : List B) (rows : B) (turn : Bool) (o : Option (Nat × Nat)) (r : Nat × DS × H) : Prop :=
  (r.1 = 0 ∧ ∃ s' o', r.2.1 = fused s' o' ∧ K s' r.2.2 (behindL L rows turn) ∧ r.2.2.epoch = y.epoch ∧ r.2.2.serial ≤ y.serial + 1) ∨
  ((r.1 = 5 ∨ r.1 = 31 ∨ r.1 = 34) ∧ r.2.1 = fused s o ∧ r.2.2 = y) ∨
  (r.1 = 3 ∧ r.2.1.dead = true ∧ (Wf r.2.2 ∧ r.2.2.live < 2) ∧ ∀ keep, ∃ y' L', PC (crashD keep r.2.1) y' L' ∧ (L' = L ∨ L' = behindL L rows turn) ∧ y'.epoch = y.epoch ∧ y'.serial ≤ y.serial + 1)
theorem wrong_two (h : Bat.wrong rows ≠ 0) : Bat.wrong rows = 31 ∨ Bat.wrong rows = 34 := by
  unfold Bat.wrong at h ⊢
  split
  · exact .inr rfl
  · rename_i h1
    rw [if_neg h1] at h
    split
    · exact .inl rfl
    · rename_i h2
      rw [if_neg h2] at h
      exact absurd rfl h
theorem writ_one (b : B) : writ [b] = Bat.put b := by unfold Bat.writ; simp
theorem right_one (h : Bat.wrong rows = 0) : allRight [rows] = true := by unfold Bat.allRight; simp [h]
theorem append_law (h : K s y L) (rows : B) (o : Option (Nat × Nat)) : StepOut s y L rows false o (stepJ (fused s o) y rows false) := by
  obtain ⟨h, hA, hB⟩ := h
  have hl := h.lv
  have hr := h.holds.1
  show StepOut s y L rows false o ((appendJ (fused s o) y rows).1, (appendJ (fused s o) y rows).2, y)
  by_cases hw : Bat.wrong rows = 0
  · have e0 : appendJ (fused s o) y rows = putJ (fused s o) (y.live : Nat) (Bat.put rows) := by unfold appendJ; rw [if_neg (by rw [hw]; simp)]
    rw [e0]
    rcases put_core h.al o hl (Bat.put rows) with ⟨-, e⟩ | ⟨-, ⟨o', e⟩ | ⟨p, o', e⟩⟩
    · rw [e]; exact .inr (.inl ⟨.inl rfl, rfl, rfl⟩)
    · rw [e]
      have ha : (syncD y.live (putD y.live (Bat.put rows) (Bat.put rows).length s)).all y.live = writ (L ++ [rows]) := by
        show upd s.all y.live (s.all y.live ++ (Bat.put rows).take (Bat.put rows).length) y.live = _
        rw [upd_eq, hA, List.take_length, Bat.writ_snoc]
      have hb : (syncD y.live (putD y.live (Bat.put rows) (Bat.put rows).length s)).all (1 - y.live) = [] := by
        show upd s.all y.live _ (1 - y.live) = _
        rw [upd_ne (by omega), hB]
      refine .inl ⟨rfl, _, o', rfl, ⟨⟨⟨h.al.fuse, h.al.dead⟩, h.cap, fun i hi => ?_, h.sl.same rfl rfl rfl, h.wf, h.rt, ?_⟩, ha, hb⟩, rfl, Nat.le_succ _⟩
      · show upd s.safe y.live (upd s.all y.live (s.all y.live ++ (Bat.put rows).take (Bat.put rows).length) y.live).length i = (upd s.all y.live (s.all y.live ++ (Bat.put rows).take (Bat.put rows).length) i).length
        by_cases ei : i = y.live
        · subst ei; rw [upd_eq, upd_eq]
        · rw [upd_ne ei, upd_ne ei, h.safe i hi]
      · rw [ha]
        refine Holds.of_writ ?_
        unfold Bat.allRight at *
        simp [List.all_append, hr, hw]
    · rw [e]
      refine .inr (.inr ⟨rfl, rfl, ⟨h.wf, hl⟩, fun keep => ?_⟩)
      -- what stays
      obtain ⟨u, hu⟩ : ∃ u, u = died (fused (putD y.live (Bat.put rows) p s) o') := ⟨_, rfl⟩
      have ua : u.all y.live = writ L ++ (Bat.put rows).take p := by rw [hu]; show upd s.all y.live (s.all y.live ++ (Bat.put rows).take p) y.live = _; rw [upd_eq, hA]
      have ub : u.all (1 - y.live) = [] := by rw [hu]; show upd s.all y.live _ (1 - y.live) = _; rw [upd_ne (by omega), hB]
      have us : ∀ i, u.safe i = s.safe i := fun i => by rw [hu]; rfl
      have usl : SL (crashD keep u) y := by rw [hu]; exact SL.crash (t := died (fused (putD y.live (Bat.put rows) p s) o')) h.sl rfl rfl keep
      have uc : u.cap = 4000 := by rw [hu]; exact h.cap
      show ∃ y' L', PC (crashD keep (died (fused (putD y.live (Bat.put rows) p s) o'))) y' L' ∧ _
      rw [← hu]
      clear hu
      have hs0 : s.safe y.live = (writ L).length := by rw [h.safe _ hl, hA]
      obtain ⟨q, hq⟩ : ∃ q, (crashD keep u).all y.live = writ L ++ (Bat.put rows).take q := by
        rw [(crash_seg keep u hl).1, ua]
        unfold segN
        rw [us, hs0]
        refine ⟨min (min (keep y.live).toNat ((u.all y.live).length - (writ L).length)) p, ?_⟩
        rw [List.take_append, List.take_of_length_le (by omega), show (writ L).length + min (keep y.live).toNat ((u.all y.live).length - (writ L).length) - (writ L).length = min (keep y.live).toNat ((u.all y.live).length - (writ L).length) by omega, List.take_take]
      have hsafe : ∀ i, i < 2 → (crashD keep u).safe i = ((crashD keep u).all i).length := fun i hi => by
        rw [(crash_seg keep u hi).2, (crash_seg keep u hi).1, List.length_take]
        unfold segN
        rcases (by omega : i = y.live ∨ i = 1 - y.live) with rfl | rfl
        · rw [us, hs0, ua, List.length_append]; omega
        · rw [us, h.safe _ hi, hB, ub]; simp
      rcases Holds.more hr hw q with hh | hh
      · exact ⟨y, L, ⟨⟨(crash_dead _ _).2, (crash_dead _ _).1⟩, (crash_capK keep u).trans uc, hsafe, usl, h.wf, h.rt, by rw [hq]; exact hh⟩, .inl rfl, rfl, Nat.le_succ _⟩
      · exact ⟨y, L ++ [rows], ⟨⟨(crash_dead _ _).2, (crash_dead _ _).1⟩, (crash_capK keep u).trans uc, hsafe, usl, h.wf, h.rt, by rw [hq]; exact hh⟩, .inr rfl, rfl, Nat.le_succ _⟩
  · have e0 : appendJ (fused s o) y rows = (Bat.wrong rows, fused s o) := if_pos hw
    rw [e0]
    exact .inr (.inl ⟨.inr (wrong_two hw), rfl, rfl⟩)
theorem all_fused (t : DS) (o : Option (Nat × Nat)) : (died (fused t o)).all = t.all := rfl
theorem switch_law (h : K s y L) (rows : B) (o : Option (Nat × Nat)) (hb : y.serial + 1 < 256) : StepOut s y L rows true o (stepJ (fused s o) y rows true) := by
  obtain ⟨h, hA, hB⟩ := h
  have hl := h.lv
  have hl1 : 1 - y.live < 2 := by omega
  have hr := h.holds.1
  show StepOut s y L rows true o (switchJ (fused s o) y rows)
  by_cases hw : Bat.wrong rows = 0
  · have e0 : switchJ (fused s o) y rows = then_ (then_ (lift (fun s => putJ s ((1 - y.live : Nat) : Int) (Bat.put rows)) (fused s o, y)) turnJ) (lift fun s => shortD s (y.live : Nat) ((0 : Nat) : Int)) := by
      unfold switchJ
      rw [if_neg (by rw [hw]; simp), one_sub hl]
      rfl
    rw [e0]
    have el : lift (fun s => putJ s ((1 - y.live : Nat) : Int) (Bat.put rows)) (fused s o, y) = ((putJ (fused s o) ((1 - y.live : Nat) : Int) (Bat.put rows)).1, (putJ (fused s o) ((1 - y.live : Nat) : Int) (Bat.put rows)).2, y) := rfl
    rw [el]
    clear e0 el
    rcases put_core h.al o hl1 (Bat.put rows) with ⟨-, e⟩ | ⟨-, ⟨o1, e⟩ | ⟨p, o1, e⟩⟩
    · rw [e, then_no (r := then_ _ _)]
      · rw [then_no (by simp)]; exact .inr (.inl ⟨.inl rfl, rfl, rfl⟩)
      · rw [then_no (by simp)]; simp
    · rw [e, then_ok (r := (0, _, y)) rfl]
      obtain ⟨t1, ht1⟩ : ∃ t1, t1 = syncD (1 - y.live) (putD (1 - y.live) (Bat.put rows) (Bat.put rows).length s) := ⟨_, rfl⟩
      rw [← ht1]
      have a1 : t1.all (1 - y.live) = Bat.put rows := by
        rw [ht1]
        show upd s.all (1 - y.live) (s.all (1 - y.live) ++ (Bat.put rows).take (Bat.put rows).length) (1 - y.live) = _
        rw [upd_eq, hB, List.take_length]; rfl
      have a2 : t1.all y.live = writ L := by
        rw [ht1]
        show upd s.all (1 - y.live) _ y.live = _
        rw [upd_ne (by omega), hA]
      have sf : ∀ i, i < 2 → t1.safe i = (t1.all i).length := fun i hi => by
        rw [ht1]
        show upd s.safe (1 - y.live) (upd s.all (1 - y.live) (s.all (1 - y.live) ++ (Bat.put rows).take (Bat.put rows).length) (1 - y.live)).length i = (upd s.all (1 - y.live) (s.all (1 - y.live) ++ (Bat.put rows).take (Bat.put rows).length) i).length
        by_cases ei : i = 1 - y.live
        · subst ei; rw [upd_eq, upd_eq]
        · rw [upd_ne ei, upd_ne ei, h.safe i hi]
      have al1 : Al t1 := by rw [ht1]; exact ⟨h.al.fuse, h.al.dead⟩
      have cp1 : t1.cap = 4000 := by rw [ht1]; exact h.cap
      have sl1 : SL t1 y := by rw [ht1]; exact h.sl.same rfl rfl rfl
      clear ht1 e
      obtain ⟨x, hx⟩ : ∃ x : H, x = ⟨y.serial + 1, y.epoch, 1 - y.live⟩ := ⟨_, rfl⟩
      have xs : x.serial = y.serial + 1 := by rw [hx]
      have xe : x.epoch = y.epoch := by rw [hx]
      have xl : x.live = 1 - y.live := by rw [hx]
      have xw : Wf x := by rw [hx]; exact ⟨show y.serial + 1 < _ by omega, h.wf.epoch, show 1 - y.live < 256 by omega⟩
      have xr : right x = true := right_of2 (by omega) (by omega)
      have hz : up1 ⟨y.serial, y.epoch, 1 - y.live⟩ = x := by
        rw [hx]; unfold up1
        dsimp only
        rw [Nat.mod_eq_of_lt (a := y.serial + 1) (by omega)]
      have hw1 : Holds (Bat.put rows) [rows] := by rw [← writ_one]; exact Holds.of_writ (right_one hw)
      have hw0 : Holds (writ L) L := Holds.of_writ hr
      clear hx
      have et : ∀ r, saveD (fused t1 o1) ⟨y.serial, y.epoch, 1 - y.live⟩ = r → turnJ (fused t1 o1, y) = (r.1, r.2.1, if r.1 = 0 then r.2.2 else y) := fun r e => by unfold turnJ; dsimp only; rw [e]
      rcases save_core al1 hz xr o1 with ⟨o2, e2⟩ | ⟨o2, e2⟩ | ⟨o2, e2⟩
      · rw [et _ e2]
        dsimp only
        rw [if_pos rfl, then_ok (r := (0, _, x)) rfl]
        obtain ⟨t2, ht2⟩ : ∃ t2, t2 = savedD x t1 := ⟨_, rfl⟩
        rw [← ht2]
        have b1 : t2.all (1 - y.live) = Bat.put rows := by rw [ht2, (savedD_all x _).1]; exact a1
        have b2 : t2.all y.live = writ L := by rw [ht2, (savedD_all x _).1]; exact a2
        have sf2 : ∀ i, i < 2 → t2.safe i = (t2.all i).length := fun i hi => by rw [ht2, (savedD_all x _).2.1, (savedD_all x _).1]; exact sf i hi
        have cp2 : t2.cap = 4000 := by rw [ht2, (savedD_all x _).2.2]; exact cp1
        have al2 : Al t2 := by rw [ht2]; exact saved_al al1 x
        have sl2 : SL t2 x := by rw [ht2]; exact sl1.saved xs (by omega)
        clear ht2 et e2
        have ef : lift (fun s => shortD s (y.live : Nat) ((0 : Nat) : Int)) (fused t2 o2, x) = ((shortD (fused t2 o2) (y.live : Nat) ((0 : Nat) : Int)).1, (shortD (fused t2 o2) (y.live : Nat) ((0 : Nat) : Int)).2, x) := rfl
        rw [ef]
        obtain ⟨c1, c2, c3, c4, c5, c6, c7⟩ := cutS_facts sf2 0 hl
        rcases short_core al2 o2 (n := 0) hl with ⟨o3, e3⟩ | ⟨o3, e3⟩
        · rw [e3]
          have f1 : (cutS t2 y.live 0).all x.live = Bat.put rows := by rw [xl, c4 _ (by omega), b1]
          refine .inl ⟨rfl, _, o3, rfl, ⟨⟨cutS_al al2 _ _, c1.trans cp2, c2, sl2.same c5 c6 c7, xw, xr, by rw [f1]; exact hw1⟩, ?_, ?_⟩, xe, by show x.serial ≤ _; omega⟩
          · rw [f1]; exact (writ_one rows).symm
          · rw [xl, show 1 - (1 - y.live) = y.live by omega, c3]; rfl
        · rw [e3]
          refine .inr (.inr ⟨rfl, rfl, ⟨xw, by show x.live < 2; omega⟩, fun keep => ⟨x, [rows], PC.crash (u := died (fused t2 o3)) cp2 sf2 keep (SL.crash (t := died (fused t2 o3)) sl2 rfl rfl keep) xw xr ?_, .inr rfl, xe, by omega⟩⟩)
          rw [all_fused, xl, b1]; exact hw1
      · rw [et _ e2]
        dsimp only
        rw [if_neg (by simp), then_no (by simp)]
        refine .inr (.inr ⟨rfl, rfl, ⟨h.wf, hl⟩, fun keep => ⟨y, L, PC.crash (u := died (fused t1 o2)) cp1 sf keep (SL.crash (t := died (fused t1 o2)) sl1 rfl rfl keep) h.wf h.rt ?_, .inl rfl, rfl, Nat.le_succ _⟩⟩)
        rw [all_fused, a2]; exact hw0
      · rw [et _ e2]
        dsimp only
        rw [if_neg (by simp), then_no (by simp)]
        refine .inr (.inr ⟨rfl, rfl, ⟨h.wf, hl⟩, fun keep => ?_⟩)
        rcases SL.torn (s := t1) (t := died (fused (putS (x.serial % 2) (Hd.bytes x) t1) o2)) sl1 xs (by omega) rfl rfl (upd_eq _ _ _) keep with hS | hS
        · refine ⟨y, L, PC.crash (u := died (fused (putS (x.serial % 2) (Hd.bytes x) t1) o2)) cp1 sf keep hS h.wf h.rt ?_, .inl rfl, rfl, Nat.le_succ _⟩
          rw [all_put, a2]; exact hw0
        · refine ⟨x, [rows], PC.crash (u := died (fused (putS (x.serial % 2) (Hd.bytes x) t1) o2)) cp1 sf keep hS xw xr ?_, .inr rfl, xe, by omega⟩
          rw [all_put, xl, a1]; exact hw1
    · rw [e, then_no (r := then_ _ _)]
      · rw [then_no (by simp)]
        refine .inr (.inr ⟨rfl, rfl, ⟨h.wf, hl⟩, fun keep => ?_⟩)
        obtain ⟨u, hu⟩ : ∃ u, u = died (fused (putD (1 - y.live) (Bat.put rows) p s) o1) := ⟨_, rfl⟩
        have ua : u.all (1 - y.live) = (Bat.put rows).take p := by rw [hu]; show upd s.all (1 - y.live) (s.all (1 - y.live) ++ (Bat.put rows).take p) (1 - y.live) = _; rw [upd_eq, hB]; rfl
        have ub : u.all y.live = writ L := by rw [hu]; show upd s.all (1 - y.live) _ y.live = _; rw [upd_ne (by omega), hA]
        have us : ∀ i, u.safe i = s.safe i := fun i => by rw [hu]; rfl
        have usl : SL (crashD keep u) y := by rw [hu]; exact SL.crash (t := died (fused (putD (1 - y.live) (Bat.put rows) p s) o1)) h.sl rfl rfl keep
        have uc : u.cap = 4000 := by rw [hu]; exact h.cap
        show ∃ y' L', PC (crashD keep (died (fused (putD (1 - y.live) (Bat.put rows) p s) o1))) y' L' ∧ _
        rw [← hu]
        clear hu
        have hs0 : s.safe y.live = (writ L).length := by rw [h.safe _ hl, hA]
        have hs1 : s.safe (1 - y.live) = 0 := by rw [h.safe _ hl1, hB]; rfl
        have hq : (crashD keep u).all y.live = writ L := by
          rw [(crash_seg keep u hl).1, ub]
          unfold segN
          rw [us, hs0]
          exact List.take_of_length_le (Nat.le_add_right _ _)
        have hsafe : ∀ i, i < 2 → (crashD keep u).safe i = ((crashD keep u).all i).length := fun i hi => by
          rw [(crash_seg keep u hi).2, (crash_seg keep u hi).1, List.length_take]
          unfold segN
          rcases (by omega : i = y.live ∨ i = 1 - y.live) with rfl | rfl
          · rw [us, hs0, ub]; omega
          · rw [us, hs1]; omega
        exact ⟨y, L, ⟨⟨(crash_dead _ _).2, (crash_dead _ _).1⟩, (crash_capK keep u).trans uc, hsafe, usl, h.wf, h.rt, by rw [hq]; exact Holds.of_writ hr⟩, .inl rfl, rfl, Nat.le_succ _⟩
      · rw [then_no (by simp)]; simp
  · have e0 : switchJ (fused s o) y rows = (Bat.wrong rows, fused s o, y) := if_pos hw
    rw [e0]
    exact .inr (.inl ⟨.inr (wrong_two hw), rfl, rfl⟩)
end
end Go.Proofs.Ytmkijkkddoamgaa.Jo
