/-
  A crash within a save, plainly.
-/
import Derived.Test.YtpohefpiidlnjaaHeadTornWalk
import Derived.Test.YtpohefpiidlnjaaHeadPl
import Derived.Test.YtpohefpiidlnjaaDiskWalks7
namespace Go.Proofs.Ytpohefpiidlnjaa.HdW
set_option linter.unusedVariables false
open Go Go.RowKit Go.Shelf Go.Proofs Go.Proofs.Ytpohefpiidlnjaa Go.Proofs.Ytpohefpiidlnjaa.Wd Go.Proofs.Ytpohefpiidlnjaa.Dk Go.Proofs.Ytpohefpiidlnjaa.Hd

/-- What stands in the slots behind i saves and crashes; L: the last head. -/
structure CI (s : DS) (i : Nat) (L : H) : Prop where
  al : Al s
  wr : ∀ j, j < 2 → s.wr j = false
  num : L.serial = i
  zero : i = 0 → L = none_ ∧ ∀ j, j < 2 → sh s j = List.replicate 32 0
  wf : Wf L
  lv : L.live < 2
  last : 1 ≤ i → sh s (i % 2) = Hd.bytes L
  other : 1 ≤ i → sh s ((i + 1) % 2) = List.replicate 32 0 ∨ ∃ G, Wf G ∧ right G = true ∧ G.serial + 1 = i ∧ sh s ((i + 1) % 2) = Hd.bytes G
theorem CI.new (c : Nat) : CI (newD c) 0 none_ :=
  ⟨⟨rfl, rfl⟩, fun _ _ => rfl, rfl, fun _ => ⟨rfl, fun _ _ => rfl⟩, ⟨by decide, by decide, by decide⟩, by decide, fun h => absurd h (by decide), fun h => absurd h (by decide)⟩
theorem right_of {h : H} (h1 : 0 < h.serial) (h2 : h.live < 2) : right h = true := by unfold right; simp [h1, h2]
theorem crash_al (keep : Nat → Int) (s : DS) : Al (crashD keep s) := ⟨(crash_dead keep s).2, (crash_dead keep s).1⟩
theorem crash_wr (keep : Nat → Int) (s : DS) {j : Nat} (hj : j < 2) : (crashD keep s).wr j = false := by
  rcases (by omega : j = 0 ∨ j = 1) with rfl | rfl <;> cases h0 : s.wr 0 <;> cases h1 : s.wr 1 <;> simp [crashD, cslots, csegs, cutD, copyD, unwr, revive, upd, h0, h1]
theorem crash_safe (keep : Nat → Int) (s : DS) {j : Nat} (hj : j < 2) (hw : s.wr j = false) : sh (crashD keep s) j = sh s j := by
  rw [crash_slot keep s hj]
  unfold cs1 sh
  simp [hw]
/-- A save that was told, and a crash. -/
theorem CI.next {s : DS} {i : Nat} {L : H} (c : CI s i L) (keep : Nat → Int) {h : H} (hs : h.serial = i + 1) (w : Wf h) (hl : h.live < 2) :
    CI (crashD keep (savedD h s)) (i + 1) h ∧ loadR (crashD keep (savedD h s)) = (h, 0) := by
  have r : right h = true := right_of (by omega) hl
  have e1 : sh (crashD keep (savedD h s)) ((i + 1) % 2) = Hd.bytes h := by
    rw [crash_safe _ _ (two_of _) (saved_wr h (two_of _)), ← hs, saved_eq]
  have e2 : sh (crashD keep (savedD h s)) ((i + 1 + 1) % 2) = sh s (i % 2) := by
    rw [crash_safe _ _ (two_of _) (saved_wr h (two_of _)), saved_ne h (two_of _) (by omega), show (i + 1 + 1) % 2 = i % 2 by omega]
  have hc : CI (crashD keep (savedD h s)) (i + 1) h := ⟨crash_al _ _, fun j hj => crash_wr _ _ hj, hs, fun e => absurd e (by omega), w, hl, fun _ => e1, fun _ => by
    rw [e2]
    by_cases h0 : i = 0
    · left; subst h0; exact (c.zero rfl).2 0 (by decide)
    · right; exact ⟨L, c.wf, right_of (by rw [c.num]; omega) c.lv, by rw [c.num], c.last (by omega)⟩⟩
  refine ⟨hc, load_own hc.al w r ((i + 1) % 2) (by rw [hs]) e1 fun g hg => ?_⟩
  rw [show 1 - (i + 1) % 2 = (i + 1 + 1) % 2 by omega, e2] at hg
  by_cases h0 : i = 0
  · subst h0
    rw [(c.zero rfl).2 _ (two_of _), show Hd.read (List.replicate 32 0) = none by decide +kernel] at hg
    cases hg
  · rw [c.last (by omega), read_bytes c.wf (right_of (by rw [c.num]; omega) c.lv)] at hg
    cases hg
    right; rw [c.num, hs]; omega
/-- A disk whose head y stands in its slot. -/
structure Good (s : DS) (y : H) : Prop where
  al : Al s
  wf : Wf y
  rt : right y = true
  at_ : sh s (y.serial % 2) = Hd.bytes y
theorem Good.next {s : DS} {y : H} (g : Good s y) {z : H} (hs : z.serial = y.serial + 1) (w : Wf z) (r : right z = true) : saveR s z = ((z, 0), savedD z s) ∧ loadR (savedD z s) = (z, 0) := by
  refine ⟨save_al g.al r, load_own (saved_al g.al z) w r (z.serial % 2) rfl (saved_eq z) fun x hx => ?_⟩
  rw [show 1 - z.serial % 2 = y.serial % 2 by omega, saved_ne z (two_of _) (by omega), g.at_, read_bytes g.wf g.rt] at hx
  cases hx
  right; omega
/-- What a disk with a fuse does at a save, and what a crash leaves. -/
theorem crash_law {s : DS} {i : Nat} {L : H} (c : CI s i L) (keep : Nat → Int) {h : H} (hs : h.serial = i + 1) (w : Wf h) (hl : h.live < 2) {k : Nat} (hk : k < 3) {r : (H × Nat) × DS} (hr : saveR (fuseD k 0 s) h = r) :
    (k = 2 ∧ r.1 = (h, 0) ∧ loadR (crashD keep r.2) = (h, 0) ∧ Good (crashD keep r.2) h)
    ∨ (k < 2 ∧ r.1 = (none_, 3) ∧ ((i = 0 ∧ loadR (crashD keep r.2) = (none_, 50)) ∨ ∃ y, (y = h ∨ (1 ≤ i ∧ y = L)) ∧ loadR (crashD keep r.2) = (y, 0) ∧ Good (crashD keep r.2) y)) := by
  have rt : right h = true := right_of (by omega) hl
  have hf : fuseD (k : Int) 0 s = fused s (some (k, 0)) := by
    unfold fuseD
    rw [c.al.dead, if_neg (by simp), if_neg (by omega)]
    rfl
  have hkk : h.serial % 2 = (i + 1) % 2 := by rw [hs]
  have read0 : Hd.read (List.replicate 32 0) = none := by decide +kernel
  have zeroNone : i = 0 → ∀ s', Al s' → (∀ j, j < 2 → Hd.read (sh s' j) = none) → loadR s' = (none_, 50) := fun h0 s' ha hz => by
    rw [load_al ha]
    have : Hd.pick (sh s' 0) (sh s' 1) = none_ := by unfold Hd.pick; rw [hz 0 (by decide), hz 1 (by decide)]
    rw [this, if_neg (by decide)]
  -- the last head, read behind a crash
  have old : 1 ≤ i → ∀ s', Al s' → sh s' (i % 2) = Hd.bytes L → (∀ g, Hd.read (sh s' ((i + 1) % 2)) = some g → g.serial < i) → loadR s' = (L, 0) ∧ Good s' L := fun h1 s' ha he ho => by
    have rL : right L = true := right_of (by rw [c.num]; omega) c.lv
    refine ⟨load_own ha c.wf rL (i % 2) (by rw [c.num]) he fun g hg => ?_, ha, c.wf, rL, by rw [c.num]; exact he⟩
    rw [show 1 - i % 2 = (i + 1) % 2 by omega] at hg
    right; rw [c.num]; exact ho g hg
  have fresh : ∀ s', Al s' → sh s' ((i + 1) % 2) = Hd.bytes h → sh s' (i % 2) = sh s (i % 2) → loadR s' = (h, 0) ∧ Good s' h := fun s' ha he ho => by
    refine ⟨load_own ha w rt ((i + 1) % 2) hkk he fun g hg => ?_, ha, w, rt, by rw [hkk]; exact he⟩
    rw [show 1 - (i + 1) % 2 = i % 2 by omega, ho] at hg
    by_cases h0 : i = 0
    · subst h0
      rw [(c.zero rfl).2 _ (two_of _), read0] at hg
      cases hg
    · rw [c.last (by omega), read_bytes c.wf (right_of (by rw [c.num]; omega) c.lv)] at hg
      cases hg
      right; rw [c.num, hs]; omega
  have d0 : ∀ o, (fused s o).dead = false := fun _ => c.al.dead
  have wrr : ∀ o f, wrD (fused s o) (((i + 1) % 2 : Nat) : Int) (Hd.bytes h) = f → f = after (fused s o) (putS ((i + 1) % 2) (Hd.bytes h)) (fun _ s => s) := fun o f e => by
    rw [← e]; unfold wrD
    rw [if_neg (by rw [d0]; simp), if_neg (by rw [among_yes (two_of _)]; simp), if_pos (bytes_length h), Int.toNat_natCast]
  have base : ∀ o, saveR (fused s o) h = (let r := after (fused s o) (putS ((i + 1) % 2) (Hd.bytes h)) (fun _ s => s); if r.1 = 0 then let q := shD r.2; if q.1 = 0 then ((h, 0), q.2) else ((none_, q.1), q.2) else ((none_, r.1), r.2)) := fun o => by
    unfold saveR
    rw [if_neg (by rw [rt]; simp), hkk, wrr o _ rfl]
  rw [hf, base] at hr
  rcases (by omega : k = 0 ∨ k = 1 ∨ k = 2) with rfl | rfl | rfl
  · right
    have er : r = ((none_, 3), died (fused s (some (0, 0)))) := hr.symm
    subst er
    refine ⟨by decide, rfl, ?_⟩
    have hsh : ∀ j, j < 2 → sh (crashD keep (died (fused s (some (0, 0))))) j = sh s j := fun j hj => crash_safe keep _ hj (c.wr j hj)
    by_cases h0 : i = 0
    · left
      exact ⟨h0, zeroNone h0 _ (crash_al _ _) fun j hj => by rw [hsh j hj, (c.zero h0).2 j hj, read0]⟩
    · right
      obtain ⟨g1, g2⟩ := old (by omega) _ (crash_al keep _) ((hsh _ (two_of _)).trans (c.last (by omega))) fun g hg => by
        rw [hsh _ (two_of _)] at hg
        rcases c.other (by omega) with e | ⟨G, wG, rG, sG, e⟩
        · rw [e, read0] at hg; cases hg
        · rw [e, read_bytes wG rG] at hg; cases hg; omega
      exact ⟨L, .inr ⟨by omega, rfl⟩, g1, g2⟩
  · right
    have er : r = ((none_, 3), died (fused (putS ((i + 1) % 2) (Hd.bytes h) s) (some (0, 0)))) := by
      rw [← hr]
      show (if (0 : Nat) = 0 then _ else _) = _
      rw [if_pos rfl]
      show (let q := shD (fused (putS ((i + 1) % 2) (Hd.bytes h) s) (some (0, 0))); if q.1 = 0 then ((h, 0), q.2) else ((none_, q.1), q.2)) = _
      have : shD (fused (putS ((i + 1) % 2) (Hd.bytes h) s) (some (0, 0))) = (3, died (fused (putS ((i + 1) % 2) (Hd.bytes h) s) (some (0, 0)))) := by
        unfold shD
        rw [if_neg (by show ¬ s.dead = true; rw [c.al.dead]; simp)]
        rfl
      rw [this]
      rfl
    subst er
    refine ⟨by decide, rfl, ?_⟩
    have hA := crash_al keep (died (fused (putS ((i + 1) % 2) (Hd.bytes h) s) (some (0, 0))))
    have e1 : sh (crashD keep (died (fused (putS ((i + 1) % 2) (Hd.bytes h) s) (some (0, 0))))) (i % 2) = sh s (i % 2) := by
      rw [crash_safe keep _ (two_of _) (show (upd s.wr ((i + 1) % 2) true) (i % 2) = false by rw [upd_ne (by omega)]; exact c.wr _ (two_of _))]
      exact putS_ne (by omega) _ _
    have e2 : sh (crashD keep (died (fused (putS ((i + 1) % 2) (Hd.bytes h) s) (some (0, 0))))) ((i + 1) % 2) = (Hd.bytes h).take (slotM keep ((i + 1) % 2)) ++ (sh s ((i + 1) % 2)).drop (slotM keep ((i + 1) % 2)) := by
      rw [crash_slot keep _ (two_of _)]
      have hm : slotM keep ((i + 1) % 2) ≤ 32 := Nat.min_le_right _ _
      show (if upd s.wr ((i + 1) % 2) true ((i + 1) % 2) = true then (upd s.lo ((i + 1) % 2) (Hd.bytes h) ((i + 1) % 2)).take _ ++ (s.sl ((i + 1) % 2)).drop ((upd s.lo ((i + 1) % 2) (Hd.bytes h) ((i + 1) % 2)).take _).length else _) = _
      rw [upd_eq, if_pos rfl, upd_eq, List.length_take, bytes_length, Nat.min_eq_left hm]
      have : sh s ((i + 1) % 2) = s.sl ((i + 1) % 2) := by unfold sh; rw [c.wr _ (two_of _)]; rfl
      rw [this]
    generalize crashD keep (died (fused (putS ((i + 1) % 2) (Hd.bytes h) s) (some (0, 0)))) = s2 at *
    have hm : slotM keep ((i + 1) % 2) ≤ 32 := Nat.min_le_right _ _
    generalize slotM keep ((i + 1) % 2) = m at *
    -- what is read of the torn slot
    have rd : ∀ g, Hd.read (sh s2 ((i + 1) % 2)) = some g → g = h ∨ (1 ≤ i ∧ g.serial < i) := fun g hg => by
      rw [e2] at hg
      have zz : sh s ((i + 1) % 2) = List.replicate 32 0 → g = h := fun e => by
        rw [e, List.drop_replicate] at hg
        exact torn0 w hm hg
      by_cases h0 : i = 0
      · exact .inl (zz ((c.zero h0).2 _ (two_of _)))
      · rcases c.other (by omega) with e | ⟨G, wG, rG, sG, e⟩
        · exact .inl (zz e)
        · rw [e] at hg
          rcases torn wG w (by omega) hm hg with e | e
          · right; rw [e]; omega
          · exact .inl e
    cases hx : Hd.read (sh s2 ((i + 1) % 2)) with
    | none =>
      by_cases h0 : i = 0
      · left
        refine ⟨h0, zeroNone h0 _ hA fun j hj => ?_⟩
        subst h0
        rcases (by omega : j = 0 ∨ j = 1) with rfl | rfl
        · exact (congrArg Hd.read (e1.trans ((c.zero rfl).2 0 (by decide)))).trans read0
        · exact hx
      · right
        obtain ⟨g1, g2⟩ := old (by omega) s2 hA (e1.trans (c.last (by omega))) (fun g hg => by rw [hx] at hg; cases hg)
        exact ⟨L, .inr ⟨by omega, rfl⟩, g1, g2⟩
    | some g =>
      right
      rcases rd g hx with e | ⟨h1, h2⟩
      · subst e
        obtain ⟨g1, g2⟩ := fresh s2 hA (read_some hx).2.1 e1
        exact ⟨g, .inl rfl, g1, g2⟩
      · obtain ⟨g1, g2⟩ := old h1 s2 hA (e1.trans (c.last h1)) (fun g' hg => by rw [hx] at hg; cases hg; exact h2)
        exact ⟨L, .inr ⟨h1, rfl⟩, g1, g2⟩
  · left
    have er : ∃ s2, r = ((h, 0), s2) ∧ (∀ j, j < 2 → s2.wr j = false) ∧ ∀ j, j < 2 → sh s2 j = sh (savedD h s) j := by
      refine ⟨fused (sySs (putS ((i + 1) % 2) (Hd.bytes h) s) 2) (some (0, 0)), ?_, fun j hj => ?_, fun j hj => ?_⟩
      · rw [← hr]
        show (if (0 : Nat) = 0 then _ else _) = _
        rw [if_pos rfl]
        show (let q := shD (fused (putS ((i + 1) % 2) (Hd.bytes h) s) (some (1, 0))); if q.1 = 0 then ((h, 0), q.2) else ((none_, q.1), q.2)) = _
        have : shD (fused (putS ((i + 1) % 2) (Hd.bytes h) s) (some (1, 0))) = (0, fused (sySs (putS ((i + 1) % 2) (Hd.bytes h) s) 2) (some (0, 0))) := by
          unfold shD
          rw [if_neg (by show ¬ s.dead = true; rw [c.al.dead]; simp)]
          show (0, fused (sySs (fused _ _) 2) _) = _
          have : ∀ (t : DS) o, sySs (fused t o) 2 = fused (sySs t 2) o := fun t o => by
            show syS 1 (syS 0 (fused t o)) = fused (syS 1 (syS 0 t)) o
            rw [syS_fused, syS_fused]
          rw [this]
          rfl
        rw [this]
        rfl
      · exact (sySs_sl _ hj).2.1
      · show sh (sySs (putS ((i + 1) % 2) (Hd.bytes h) s) 2) j = _
        unfold savedD
        rw [hkk]
    obtain ⟨s2, rfl, hw2, hs2⟩ := er
    have e1 : sh (crashD keep s2) ((i + 1) % 2) = Hd.bytes h := by
      rw [crash_safe _ _ (two_of _) (hw2 _ (two_of _)), hs2 _ (two_of _), ← hkk, saved_eq]
    have e2 : sh (crashD keep s2) (i % 2) = sh s (i % 2) := by
      rw [crash_safe _ _ (two_of _) (hw2 _ (two_of _)), hs2 _ (two_of _), saved_ne h (two_of _) (by omega)]
    obtain ⟨g1, g2⟩ := fresh _ (crash_al keep s2) e1 e2
    exact ⟨rfl, rfl, g1, g2⟩
end Go.Proofs.Ytpohefpiidlnjaa.HdW
