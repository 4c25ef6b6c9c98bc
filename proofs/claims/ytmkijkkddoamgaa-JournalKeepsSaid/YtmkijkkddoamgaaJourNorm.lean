/-
  A journal on a disk that lives, without a fuse, plainly.
-/
import Derived.Test.YtmkijkkddoamgaaJourClear
namespace Go.Proofs.Ytmkijkkddoamgaa.Jo
set_option linter.unusedVariables false
open Go Go.RowKit Go.Shelf Go.Proofs Go.Proofs.Ytmkijkkddoamgaa Go.Proofs.Ytmkijkkddoamgaa.Wd Go.Proofs.Ytmkijkkddoamgaa.Dk Go.Proofs.Ytmkijkkddoamgaa.Hd Go.Proofs.Ytmkijkkddoamgaa.HdW
open Go.Proofs.Ytmkijkkddoamgaa.Bat (B)

/-- The head y counts; the segments hold al. -/
structure JN (s : DS) (y : H) (cap : Nat) (al : Nat → List UInt8) : Prop where
  cap : s.cap = cap
  all : ∀ i, i < 2 → s.all i = al i
  live : Al s
  wf : Wf y
  rt : right y = true
  here : sh s (y.serial % 2) = Hd.bytes y
  older : ∀ g, Hd.read (sh s (1 - y.serial % 2)) = some g → g.serial % 2 = y.serial % 2 ∨ g.serial < y.serial
section
variable {s s' : DS} {y z : H} {cap : Nat} {al al' : Nat → List UInt8}
theorem right_of2 {h : H} (h1 : 0 < h.serial) (h2 : h.live < 2) : right h = true := by unfold right; simp [h1, h2]
theorem JN.lv (h : JN s y cap al) : y.live < 2 := by have := h.rt; simp [right] at this; exact this.2
theorem JN.pos (h : JN s y cap al) : 0 < y.serial := by have := h.rt; simp [right] at this; exact this.1
theorem JN.load (h : JN s y cap al) : loadR s = (y, 0) := load_own h.live h.wf h.rt (y.serial % 2) rfl h.here h.older
theorem JN.rd (h : JN s y cap al) {i : Nat} (hi : i < 2) : rd s (i : Int) = al i := by
  unfold Dk.rd; rw [if_neg (by rw [h.live.dead]; simp), among_yes hi, if_pos rfl, Int.toNat_natCast, h.all i hi]
theorem JN.free (h : JN s y cap al) : free s = cap - (al 0).length - (al 1).length := by
  unfold Dk.free; rw [if_neg (by rw [h.live.dead]; simp), h.cap, h.all 0 (by omega), h.all 1 (by omega)]
theorem JN.turn (h : JN s y cap al) (h1 : s'.cap = s.cap) (h2 : ∀ i, i < 2 → s'.all i = al' i) (h3 : s'.fuse = s.fuse) (h4 : s'.dead = s.dead) (h5 : s'.sl = s.sl) (h6 : s'.lo = s.lo) (h7 : s'.wr = s.wr) : JN s' y cap al' := by
  have hs : ∀ j, sh s' j = sh s j := fun j => by unfold sh; rw [h5, h6, h7]
  exact ⟨h1.trans h.cap, h2, ⟨h3.trans h.live.fuse, h4.trans h.live.dead⟩, h.wf, h.rt, by rw [hs]; exact h.here, by rw [hs]; exact h.older⟩
theorem JN.ext (h : JN s y cap al) (he : ∀ i, i < 2 → al i = al' i) : JN s y cap al' := h.turn rfl (fun i hi => (h.all i hi).trans (he i hi)) rfl rfl rfl rfl rfl
theorem JN.short (h : JN s y cap al) {i n : Nat} (hi : i < 2) : ∃ s', shortD s (i : Int) (n : Int) = (0, s') ∧ JN s' y cap (upd al i ((al i).take n)) := by
  unfold shortD
  rw [h.rd hi]
  by_cases hn : (al i).length ≤ n
  · rw [if_pos (by omega)]
    refine ⟨s, rfl, h.ext fun j hj => ?_⟩
    by_cases e : j = i
    · subst e; rw [upd_eq, List.take_of_length_le hn]
    · rw [upd_ne e]
  · rw [if_neg (by omega)]
    have e : trD s (i : Int) (n : Int) = (0, truncD i n s) := by
      unfold trD
      rw [if_neg (by rw [h.live.dead]; simp), if_neg, after_live h.live.fuse]; rfl
      rw [among_yes hi, Int.toNat_natCast, h.all i hi]
      rintro (h1 | h1 | h1)
      · cases h1
      · omega
      · omega
    rw [e]
    refine ⟨_, rfl, h.turn rfl (fun j hj => ?_) rfl rfl rfl rfl rfl⟩
    show upd s.all i ((s.all i).take n) j = _
    by_cases ej : j = i
    · subst ej; rw [upd_eq, upd_eq, h.all j hj]
    · rw [upd_ne ej, upd_ne ej, h.all j hj]
theorem JN.put (h : JN s y cap al) {i : Nat} (hi : i < 2) {b : List UInt8} (hb : b.length ≤ cap - (al 0).length - (al 1).length) : ∃ s', putJ s (i : Int) b = (0, s') ∧ JN s' y cap (upd al i (al i ++ b)) := by
  have e : appD s (i : Int) b = (0, putD i b b.length s) := by
    unfold appD
    rw [if_neg (by rw [h.live.dead]; simp), if_neg (by rw [among_yes hi]; simp), if_neg (by rw [h.free]; omega), after_live h.live.fuse]; rfl
  have h1 : JN (putD i b b.length s) y cap (upd al i (al i ++ b)) := h.turn rfl (fun j hj => by
    show upd s.all i (s.all i ++ b.take b.length) j = _
    by_cases ej : j = i
    · subst ej; rw [upd_eq, upd_eq, h.all j hj, List.take_length]
    · rw [upd_ne ej, upd_ne ej, h.all j hj]) rfl rfl rfl rfl rfl
  have e2 : syD (putD i b b.length s) (i : Int) = (0, syncD i (putD i b b.length s)) := by
    unfold syD
    rw [if_neg (by rw [h1.live.dead]; simp), if_neg (by rw [among_yes hi]; simp), after_live h1.live.fuse]; rfl
  refine ⟨syncD i (putD i b b.length s), ?_, h1.turn rfl h1.all rfl rfl rfl rfl rfl⟩
  unfold putJ then_
  rw [e, if_pos rfl]
  exact e2
theorem JN.full (h : JN s y cap al) {i : Nat} (hi : i < 2) {b : List UInt8} (hb : cap - (al 0).length - (al 1).length < b.length) : putJ s (i : Int) b = (5, s) := by
  have e : appD s (i : Int) b = (5, s) := by
    unfold appD
    rw [if_neg (by rw [h.live.dead]; simp), if_neg (by rw [among_yes hi]; simp), if_pos (by rw [h.free]; omega)]
  unfold putJ then_
  rw [e, if_neg (by simp)]
theorem JN.save (h : JN s y cap al) (hz : z.serial = y.serial) (hw : y.serial + 1 < 18446744073709551616) (he : z.epoch < 18446744073709551616) (hl : z.live < 2) :
    ∃ s', saveD s z = (0, s', ⟨y.serial + 1, z.epoch, z.live⟩) ∧ JN s' ⟨y.serial + 1, z.epoch, z.live⟩ cap al := by
  have eu : up1 z = ⟨y.serial + 1, z.epoch, z.live⟩ := by unfold up1; rw [hz, Nat.mod_eq_of_lt hw]
  obtain ⟨x, hx⟩ : ∃ x : H, x = ⟨y.serial + 1, z.epoch, z.live⟩ := ⟨_, rfl⟩
  rw [← hx] at eu ⊢
  have xs : x.serial = y.serial + 1 := by rw [hx]
  have xw : Wf x := by rw [hx]; exact ⟨hw, he, show z.live < 256 by omega⟩
  have xr : right x = true := right_of2 (by omega) (by rw [hx]; exact hl)
  have e := save_al h.live xr
  refine ⟨savedD x s, ?_, ?_⟩
  · unfold saveD
    rw [eu, e]
    rfl
  · have hv : ∀ i, (savedD x s).all i = s.all i ∧ (savedD x s).cap = s.cap := fun i => by
      have h1 : ∀ k (t : DS), (syS k t).all = t.all ∧ (syS k t).cap = t.cap := fun k t => by unfold syS; split <;> exact ⟨rfl, rfl⟩
      refine ⟨?_, ?_⟩
      · show (syS 1 (syS 0 _)).all i = _
        rw [(h1 1 _).1, (h1 0 _).1]; rfl
      · show (syS 1 (syS 0 _)).cap = _
        rw [(h1 1 _).2, (h1 0 _).2]; rfl
    have h0 := h.pos
    refine ⟨(hv 0).2.trans h.cap, fun i hi => ((hv i).1).trans (h.all i hi), saved_al h.live x, xw, xr, saved_eq x, fun g hg => ?_⟩
    rw [show 1 - x.serial % 2 = y.serial % 2 by omega, saved_ne x (two_of _) (by omega), h.here, read_bytes h.wf h.rt] at hg
    cases hg
    right; omega
theorem clear_eq {s1 s2 : DS} {r : Nat × DS × H} {i n j m : Int} (e1 : shortD s i n = (0, s1)) (e2 : shortD s1 j m = (0, s2)) (e3 : saveD s2 z = r) : clearD s z i n j m = r := by
  unfold clearD lift
  dsimp only
  rw [e1, then_ok (r := (0, s1, z)) rfl]
  dsimp only
  rw [e2, then_ok (r := (0, s2, z)) rfl]
  exact e3
theorem JN.clear (h : JN s y cap al) {i n j m : Nat} (hi : i < 2) (hj : j < 2) (hz : z.serial = y.serial) (hw : y.serial + 1 < 18446744073709551616) (he : z.epoch < 18446744073709551616) (hl : z.live < 2) :
    ∃ s', clearD s z (i : Int) (n : Int) (j : Int) (m : Int) = (0, s', ⟨y.serial + 1, z.epoch, z.live⟩) ∧ JN s' ⟨y.serial + 1, z.epoch, z.live⟩ cap (upd (upd al i ((al i).take n)) j ((upd al i ((al i).take n) j).take m)) := by
  obtain ⟨s1, e1, h1⟩ := h.short (n := n) hi
  obtain ⟨s2, e2, h2⟩ := h1.short (n := m) hj
  obtain ⟨s3, e3, h3⟩ := h2.save hz hw he hl
  exact ⟨s3, clear_eq e1 e2 e3, h3⟩
/-- Opened. -/
theorem JN.opened (h : JN s y cap al) (hw : y.serial + 1 < 18446744073709551616) :
    ∃ s', openD s = (0, s', ⟨y.serial + 1, (y.epoch + 1) % 18446744073709551616, y.live⟩) ∧ JN s' ⟨y.serial + 1, (y.epoch + 1) % 18446744073709551616, y.live⟩ cap (fun i => if i = y.live then (al y.live).take (Bat.scan (al y.live)).2.1 else []) ∧ openB s = Bat.scan (al y.live) := by
  have hl := h.lv
  have eb : openB s = Bat.scan (al y.live) := by unfold openB; rw [h.load]; dsimp only; rw [h.rd hl]
  obtain ⟨s', e, h'⟩ := h.clear (z := ⟨y.serial, (y.epoch + 1) % 18446744073709551616, y.live⟩) (i := y.live) (n := (openB s).2.1) (j := 1 - y.live) (m := 0) hl (by omega) rfl hw (Nat.mod_lt _ (by decide)) hl
  refine ⟨s', ?_, h'.ext fun i hi => ?_, eb⟩
  · unfold openD openH
    rw [h.load]
    dsimp only
    rw [if_neg (by simp), ← e]
    congr 1
    omega
  · rw [eb]
    by_cases ei : i = y.live
    · subst ei; rw [upd_ne (by omega), upd_eq, if_pos rfl]
    · obtain rfl : i = 1 - y.live := by omega
      rw [upd_eq, List.take_zero, if_neg ei]
theorem JN.formatted (h : JN s y cap al) (hw : y.serial + 1 < 18446744073709551616) : ∃ s', formatD s = (0, s') ∧ JN s' ⟨y.serial + 1, 0, 0⟩ cap (fun _ => []) := by
  obtain ⟨s', e, h'⟩ := h.clear (z := ⟨y.serial, 0, 0⟩) (i := 0) (n := 0) (j := 1) (m := 0) (by decide) (by decide) rfl hw (show (0 : Nat) < 18446744073709551616 by decide) (show (0 : Nat) < 2 by decide)
  refine ⟨s', ?_, h'.ext fun i hi => ?_⟩
  · unfold formatD
    rw [h.load]
    dsimp only
    rw [if_neg (by simp)]
    have e' : clearD s ⟨y.serial, 0, 0⟩ 0 0 1 0 = (0, s', ⟨y.serial + 1, 0, 0⟩) := e
    rw [e']
  · rcases (by omega : i = 0 ∨ i = 1) with rfl | rfl
    · rw [upd_ne (by decide), upd_eq]; rfl
    · rw [upd_eq]; rfl
theorem read_zeros : Hd.read (List.replicate 32 0) = none := by decide +kernel
theorem load_new (c : Nat) : loadR (newD c) = (none_, 50) := by
  rw [load_al ⟨rfl, rfl⟩]
  have : Hd.pick (sh (newD c) 0) (sh (newD c) 1) = none_ := by
    show Hd.pick (List.replicate 32 0) (List.replicate 32 0) = _
    unfold Hd.pick; rw [read_zeros]
  rw [this, if_neg (by decide)]
theorem format_new (c : Nat) : ∃ s', formatD (newD c) = (0, s') ∧ JN s' ⟨1, 0, 0⟩ c (fun _ => []) := by
  have ha : Al (newD c) := ⟨rfl, rfl⟩
  have e1 : ∀ i : Nat, i < 2 → shortD (newD c) (i : Int) 0 = (0, newD c) := fun i hi => by
    unfold shortD
    rw [if_pos]
    unfold Dk.rd
    rw [if_neg (by show ¬ (false = true); simp), among_yes hi, if_pos rfl]
    exact Int.le_refl _
  have e0 : shortD (newD c) 0 0 = (0, newD c) := e1 0 (by decide)
  have e2 : shortD (newD c) 1 0 = (0, newD c) := e1 1 (by decide)
  have eu : up1 ⟨0, 0, 0⟩ = (⟨1, 0, 0⟩ : H) := rfl
  have e3 : saveD (newD c) ⟨0, 0, 0⟩ = (0, savedD ⟨1, 0, 0⟩ (newD c), ⟨1, 0, 0⟩) := by
    unfold saveD
    rw [eu, save_al ha (by decide)]
    rfl
  refine ⟨savedD ⟨1, 0, 0⟩ (newD c), ?_, ?_⟩
  · unfold formatD
    rw [load_new]
    dsimp only
    rw [if_neg (by simp)]
    have : clearD (newD c) ⟨none_.serial, 0, 0⟩ 0 0 1 0 = (0, savedD ⟨1, 0, 0⟩ (newD c), ⟨1, 0, 0⟩) := clear_eq e0 e2 e3
    rw [this]
  · refine ⟨rfl, fun i hi => rfl, saved_al ha _, ⟨by decide, by decide, by decide⟩, by decide, saved_eq _, fun g hg => ?_⟩
    have hz : sh (savedD ⟨1, 0, 0⟩ (newD c)) (1 - 1 % 2) = List.replicate 32 0 := (saved_ne (s := newD c) ⟨1, 0, 0⟩ (j := 0) (by decide) (by decide)).trans rfl
    rw [show (1 - (⟨1, 0, 0⟩ : H).serial % 2) = 1 - 1 % 2 from rfl, hz, read_zeros] at hg
    cases hg
/-- A disk that is made: formatted, and opened. -/
theorem made_new (c : Nat) : ∃ s1 s2, formatD (newD c) = (0, s1) ∧ openD s1 = (0, s2, ⟨2, 1, 0⟩) ∧ (openB s1).1 = [] ∧ JN s2 ⟨2, 1, 0⟩ c (fun _ => []) := by
  obtain ⟨s1, e1, h1⟩ := format_new c
  obtain ⟨s2, e2, h2, e3⟩ := h1.opened (by decide)
  refine ⟨s1, s2, e1, e2, by rw [e3]; rfl, h2.ext fun i hi => ?_⟩
  split <;> rfl
theorem JN.append_wrong (rows : B) (hw : Bat.wrong rows ≠ 0) : appendJ s y rows = (Bat.wrong rows, s) := if_pos hw
theorem JN.append_full (h : JN s y cap al) (rows : B) (hw : Bat.wrong rows = 0) (hb : cap - (al 0).length - (al 1).length < (Bat.put rows).length) : appendJ s y rows = (5, s) := by
  unfold appendJ; rw [if_neg (by rw [hw]; simp), h.full h.lv hb]
theorem JN.append (h : JN s y cap al) (rows : B) (hw : Bat.wrong rows = 0) (hb : (Bat.put rows).length ≤ cap - (al 0).length - (al 1).length) : ∃ s', appendJ s y rows = (0, s') ∧ JN s' y cap (upd al y.live (al y.live ++ Bat.put rows)) := by
  obtain ⟨s', e, h'⟩ := h.put h.lv hb
  exact ⟨s', by unfold appendJ; rw [if_neg (by rw [hw]; simp), e], h'⟩
theorem JN.switch_wrong (rows : B) (hw : Bat.wrong rows ≠ 0) : switchJ s y rows = (Bat.wrong rows, s, y) := if_pos hw
theorem one_sub {l : Nat} (h : l < 2) : (1 - (l : Int)) = ((1 - l : Nat) : Int) := by omega
theorem JN.switch_full (h : JN s y cap al) (rows : B) (hw : Bat.wrong rows = 0) (hb : cap - (al 0).length - (al 1).length < (Bat.put rows).length) : switchJ s y rows = (5, s, y) := by
  have e := h.full (i := 1 - y.live) (by omega) hb
  unfold switchJ lift
  dsimp only
  rw [if_neg (by rw [hw]; simp), one_sub h.lv, e, then_no (r := then_ _ _)]
  · rw [then_no]; simp
  · rw [then_no]
    · simp
    · simp
theorem JN.switch (h : JN s y cap al) (rows : B) (hw : Bat.wrong rows = 0) (hb : (Bat.put rows).length ≤ cap - (al 0).length - (al 1).length) (hm : y.serial + 1 < 18446744073709551616) :
    ∃ s', switchJ s y rows = (0, s', ⟨y.serial + 1, y.epoch, 1 - y.live⟩) ∧ JN s' ⟨y.serial + 1, y.epoch, 1 - y.live⟩ cap (fun i => if i = y.live then [] else al (1 - y.live) ++ Bat.put rows) := by
  have hl := h.lv
  obtain ⟨s1, e1, h1⟩ := h.put (i := 1 - y.live) (by omega) hb
  obtain ⟨s2, e2, h2⟩ := h1.save (z := ⟨y.serial, y.epoch, 1 - y.live⟩) rfl hm h.wf.epoch (show 1 - y.live < 2 by omega)
  obtain ⟨s3, e3, h3⟩ := h2.short (i := y.live) (n := 0) hl
  refine ⟨s3, ?_, h3.ext fun i hi => ?_⟩
  · unfold switchJ lift
    dsimp only
    have e2' : turnJ (s1, y) = (0, s2, ⟨y.serial + 1, y.epoch, 1 - y.live⟩) := by
      unfold turnJ
      dsimp only
      rw [e2]
      rfl
    rw [if_neg (by rw [hw]; simp), one_sub hl, e1, then_ok (r := (0, s1, y)) rfl]
    dsimp only
    rw [e2', then_ok (r := (0, s2, _)) rfl]
    have e3' : shortD s2 (y.live : Nat) 0 = (0, s3) := e3
    dsimp only
    rw [e3']
  · by_cases ei : i = y.live
    · subst ei; rw [upd_eq, if_pos rfl]; rfl
    · obtain rfl : i = 1 - y.live := by omega
      rw [upd_ne ei, upd_eq, if_neg ei]
end
end Go.Proofs.Ytmkijkkddoamgaa.Jo
