/-
  A crash within Format, plainly.
-/
import Derived.Test.YtmkijkkddoamgaaJourAgainPl
namespace Go.Proofs.Ytmkijkkddoamgaa.Jo
set_option linter.unusedVariables false
open Go Go.RowKit Go.Shelf Go.Proofs Go.Proofs.Ytmkijkkddoamgaa Go.Proofs.Ytmkijkkddoamgaa.Wd Go.Proofs.Ytmkijkkddoamgaa.Dk Go.Proofs.Ytmkijkkddoamgaa.Hd Go.Proofs.Ytmkijkkddoamgaa.HdW
open Go.Proofs.Ytmkijkkddoamgaa.Bat (B writ allRight)

/-- All is safe. -/
def JF (s : DS) (al : Nat → List UInt8) : Prop := (∀ i, i < 2 → s.safe i = (al i).length) ∧ ∀ j, j < 2 → s.wr j = false
def JS (s : DS) (y : H) (cap : Nat) (al : Nat → List UInt8) : Prop := JN s y cap al ∧ JF s al
section
variable {s s' t : DS} {y z x : H} {cap : Nat} {al al' : Nat → List UInt8} {L : List B}
theorem JF.short (h : JN s y cap al) (f : JF s al) {i n : Nat} (hi : i < 2) (e : shortD s (i : Int) (n : Int) = (0, s')) : JF s' (upd al i ((al i).take n)) := by
  unfold shortD at e
  rw [h.rd hi] at e
  by_cases hn : (al i).length ≤ n
  · rw [if_pos (by omega)] at e
    cases e
    refine ⟨fun j hj => ?_, f.2⟩
    by_cases ej : j = i
    · subst ej; rw [upd_eq, List.take_of_length_le hn]; exact f.1 j hj
    · rw [upd_ne ej]; exact f.1 j hj
  · rw [if_neg (by omega)] at e
    have e' : trD s (i : Int) (n : Int) = (0, truncD i n s) := by
      unfold trD
      rw [if_neg (by rw [h.live.dead]; simp), if_neg, after_live h.live.fuse]; rfl
      rw [among_yes hi, Int.toNat_natCast, h.all i hi]
      rintro (h1 | h1 | h1)
      · cases h1
      · omega
      · omega
    rw [e'] at e
    cases e
    refine ⟨fun j hj => ?_, f.2⟩
    show upd s.safe i (min (s.safe i) n) j = _
    by_cases ej : j = i
    · subst ej; rw [upd_eq, upd_eq, f.1 j hj, List.length_take, Nat.min_comm]
    · rw [upd_ne ej, upd_ne ej, f.1 j hj]
theorem syS_safe (k : Nat) (s : DS) : (syS k s).safe = s.safe := by unfold syS; split <;> rfl
theorem savedD_safe (x : H) (s : DS) : (savedD x s).safe = s.safe := (syS_safe 1 _).trans (syS_safe 0 _)
theorem JF.save (h : JN s y cap al) (f : JF s al) (hr : right (up1 z) = true) (e : saveD s z = (0, s', x)) : JF s' al := by
  unfold saveD at e
  rw [save_al h.live hr] at e
  simp only [Prod.mk.injEq] at e
  obtain ⟨-, rfl, -⟩ := e
  exact ⟨fun i hi => (congrFun (savedD_safe (up1 z) s) i).trans (f.1 i hi), fun j hj => saved_wr (up1 z) hj⟩
theorem JF.put (h : JN s y cap al) (f : JF s al) {i : Nat} (hi : i < 2) {b : List UInt8} (hb : b.length ≤ cap - (al 0).length - (al 1).length) (e : putJ s (i : Int) b = (0, s')) : JF s' (upd al i (al i ++ b)) := by
  have e1 : appD s (i : Int) b = (0, putD i b b.length s) := by
    unfold appD
    rw [if_neg (by rw [h.live.dead]; simp), if_neg (by rw [among_yes hi]; simp), if_neg (by rw [h.free]; omega), after_live h.live.fuse]; rfl
  have e2 : syD (putD i b b.length s) (i : Int) = (0, syncD i (putD i b b.length s)) := by
    unfold syD
    rw [if_neg (by show ¬ s.dead = true; rw [h.live.dead]; simp), if_neg (by rw [among_yes hi]; simp), after_live (show (putD i b b.length s).fuse = none from h.live.fuse)]; rfl
  unfold putJ at e
  rw [e1, then_ok rfl] at e
  dsimp only at e
  rw [e2] at e
  cases e
  refine ⟨fun j hj => ?_, f.2⟩
  show upd s.safe i ((upd s.all i (s.all i ++ b.take b.length)) i).length j = _
  by_cases ej : j = i
  · subst ej; rw [upd_eq, upd_eq, upd_eq, h.all j hj, List.take_length]
  · rw [upd_ne ej, upd_ne ej, f.1 j hj]
theorem JS.ext (h : JS s y cap al) (he : ∀ i, i < 2 → al i = al' i) : JS s y cap al' := ⟨h.1.ext he, fun i hi => by rw [h.2.1 i hi, he i hi], h.2.2⟩
theorem JS.short (h : JS s y cap al) {i n : Nat} (hi : i < 2) : ∃ s', shortD s (i : Int) (n : Int) = (0, s') ∧ JS s' y cap (upd al i ((al i).take n)) := by
  obtain ⟨s', e, h'⟩ := h.1.short (n := n) hi
  exact ⟨s', e, h', JF.short h.1 h.2 hi e⟩
theorem JS.save (h : JS s y cap al) (hz : z.serial = y.serial) (hw : y.serial + 1 < 18446744073709551616) (he : z.epoch < 18446744073709551616) (hl : z.live < 2) :
    ∃ s', saveD s z = (0, s', ⟨y.serial + 1, z.epoch, z.live⟩) ∧ JS s' ⟨y.serial + 1, z.epoch, z.live⟩ cap al := by
  obtain ⟨s', e, h'⟩ := h.1.save hz hw he hl
  have hr : right (up1 z) = true := right_of2 (by show 0 < (z.serial + 1) % 18446744073709551616; rw [hz, Nat.mod_eq_of_lt hw]; omega) hl
  exact ⟨s', e, h', JF.save h.1 h.2 hr e⟩
theorem JS.opened1 (h : JS s ⟨1, 0, 0⟩ cap (fun _ => [])) : ∃ s', openD s = (0, s', ⟨2, 1, 0⟩) ∧ (openB s).1 = [] ∧ JS s' ⟨2, 1, 0⟩ cap (fun _ => []) := by
  have eb : openB s = ([], 0, 0) := by unfold openB; rw [h.1.load]; dsimp only; rw [h.1.rd (i := 0) (by decide)]; rfl
  obtain ⟨s1, e1, h1⟩ := h.short (i := 0) (n := 0) (by decide)
  obtain ⟨s2, e2, h2⟩ := h1.short (i := 1) (n := 0) (by decide)
  obtain ⟨s3, e3, h3⟩ := h2.save (z := ⟨1, 1, 0⟩) rfl (by decide) (by decide) (by decide)
  refine ⟨s3, ?_, by rw [eb], h3.ext fun i hi => ?_⟩
  · unfold openD openH
    rw [h.1.load, eb]
    dsimp only
    rw [if_neg (by simp)]
    exact clear_eq e1 e2 e3
  · rcases (by omega : i = 0 ∨ i = 1) with rfl | rfl
    · rw [upd_ne (by decide), upd_eq]; rfl
    · rw [upd_eq]; rfl
theorem format_new2 (c : Nat) : ∃ s1, formatD (newD c) = (0, s1) ∧ JS s1 ⟨1, 0, 0⟩ c (fun _ => []) := by
  obtain ⟨s1, e, h⟩ := format_new c
  refine ⟨s1, e, h, ?_⟩
  have ha : Al (newD c) := ⟨rfl, rfl⟩
  have e1 : ∀ i : Nat, i < 2 → shortD (newD c) (i : Int) 0 = (0, newD c) := fun i hi => by
    unfold shortD
    rw [if_pos]
    unfold Dk.rd
    rw [if_neg (by show ¬ (false = true); simp), among_yes hi, if_pos rfl]
    exact Int.le_refl _
  have eu : up1 ⟨0, 0, 0⟩ = (⟨1, 0, 0⟩ : H) := rfl
  have e3 : saveD (newD c) ⟨0, 0, 0⟩ = (0, savedD ⟨1, 0, 0⟩ (newD c), ⟨1, 0, 0⟩) := by
    unfold saveD
    rw [eu, save_al ha (by decide)]
    rfl
  have e' : formatD (newD c) = (0, savedD ⟨1, 0, 0⟩ (newD c)) := by
    unfold formatD
    rw [load_new]
    dsimp only
    rw [if_neg (by simp)]
    have : clearD (newD c) ⟨none_.serial, 0, 0⟩ 0 0 1 0 = (0, savedD ⟨1, 0, 0⟩ (newD c), ⟨1, 0, 0⟩) := clear_eq (e1 0 (by decide)) (e1 1 (by decide)) e3
    rw [this]
  rw [e'] at e
  cases e
  exact ⟨fun i hi => congrFun (savedD_safe _ _) i, fun j hj => saved_wr _ hj⟩
/-- A disk that is made, all of it safe. -/
theorem made_new2 (c : Nat) : ∃ s1 s2, formatD (newD c) = (0, s1) ∧ openD s1 = (0, s2, ⟨2, 1, 0⟩) ∧ (openB s1).1 = [] ∧ JS s2 ⟨2, 1, 0⟩ c (fun _ => []) := by
  obtain ⟨s1, e1, h1⟩ := format_new2 c
  obtain ⟨s2, e2, e3, h2⟩ := h1.opened1
  exact ⟨s1, s2, e1, e2, e3, h2⟩
/-- The batches L stand in segment 0, safe. -/
def AS (s : DS) (L : List B) : Prop := ∃ al, JS s ⟨2, 1, 0⟩ 60000 al ∧ al 0 = writ L ∧ al 1 = []
theorem AS.append (h : AS s L) (rows : B) : (∃ s', appendJ s ⟨2, 1, 0⟩ rows = (0, s') ∧ Bat.wrong rows = 0 ∧ AS s' (L ++ [rows])) ∨ (∃ c, c ≠ 0 ∧ appendJ s ⟨2, 1, 0⟩ rows = (c, s) ∧ (c = 5 → 60000 < (writ L).length + (Bat.put rows).length) ∧ (c ≠ 5 → c = 31 ∨ c = 34)) := by
  obtain ⟨al, h, h0, h1⟩ := h
  by_cases hw : Bat.wrong rows = 0
  · by_cases hb : (Bat.put rows).length ≤ 60000 - (al 0).length - (al 1).length
    · obtain ⟨s', e, h'⟩ := h.1.append rows hw hb
      have e' : putJ s ((0 : Nat) : Int) (Bat.put rows) = (0, s') := by
        unfold appendJ at e
        rw [if_neg (by rw [hw]; simp)] at e
        exact e
      refine .inl ⟨s', e, hw, _, ⟨h', JF.put h.1 h.2 (i := 0) (by decide) hb e'⟩, ?_, ?_⟩
      · show upd al 0 (al 0 ++ _) 0 = _
        rw [upd_eq, h0, Bat.writ_snoc]
      · show upd al 0 _ 1 = _
        rw [upd_ne (by decide), h1]
    · refine .inr ⟨5, by decide, h.1.append_full rows hw (by omega), fun _ => ?_, fun e => absurd rfl e⟩
      rw [h0, h1] at hb
      simp only [List.length_nil] at hb
      omega
  · have hc : Bat.wrong rows = 31 ∨ Bat.wrong rows = 34 := by
      unfold Bat.wrong at hw ⊢
      split
      · exact .inr rfl
      · rename_i h1
        rw [if_neg h1] at hw
        split
        · exact .inl rfl
        · rename_i h2
          rw [if_neg h2] at hw
          exact absurd rfl hw
    exact .inr ⟨Bat.wrong rows, hw, JN.append_wrong rows hw, fun e => by omega, fun _ => hc⟩
/-- What a crash leaves that keeps nothing that was loose. -/
theorem crash_seg0 (s : DS) {i : Nat} (hi : i < 2) : (crashD (fun _ => 0) s).all i = (s.all i).take (s.safe i) := by
  have hp : ∀ n (u : DS), (cslots (fun _ => 0) u n).all = u.all := fun n u => by
    induction n with
    | zero => rfl
    | succ n ih => show (unwr n _).all = _; unfold unwr; dsimp only; split <;> exact ih
  show (cslots _ _ 2).all i = _
  rw [hp]
  rcases (by omega : i = 0 ∨ i = 1) with rfl | rfl
  · show (s.all 0).take (segN _ 0 s) = _
    unfold segN; simp
  · show (s.all 1).take (s.safe 1 + min (0 : Int).toNat ((s.all 1).length - s.safe 1)) = _
    simp
theorem crash_cap (s : DS) : (crashD (fun _ => 0) s).cap = s.cap := by
  have hp : ∀ n (u : DS), (cslots (fun _ => 0) u n).cap = u.cap := fun n u => by
    induction n with
    | zero => rfl
    | succ n ih => show (unwr n _).cap = _; unfold unwr; dsimp only; split <;> exact ih
  show (cslots _ _ 2).cap = _
  rw [hp]; rfl
theorem crash_sh0 (s : DS) {j : Nat} (hj : j < 2) : sh (crashD (fun _ => 0) s) j = s.sl j := by
  rw [crash_slot _ _ hj]
  unfold cs1
  have : slotM (fun _ => 0) j = 0 := rfl
  rw [this]
  split <;> simp
theorem crash_back (h : JS s y cap al) (hc : t.cap = s.cap) (ha : ∀ i, i < 2 → t.all i = al' i) (hs : ∀ i, i < 2 → t.safe i = (al' i).length) (hsl : t.sl = s.sl) : JN (crashD (fun _ => 0) t) y cap al' := by
  have e : ∀ j, j < 2 → sh (crashD (fun _ => 0) t) j = sh s j := fun j hj => by
    rw [crash_sh0 t hj, hsl]; unfold sh; rw [h.2.2 j hj]; rfl
  refine ⟨(crash_cap t).trans (hc.trans h.1.cap), fun i hi => ?_, ⟨(crash_dead _ _).2, (crash_dead _ _).1⟩, h.1.wf, h.1.rt, ?_, fun g hg => ?_⟩
  · rw [crash_seg0 t hi, ha i hi, hs i hi, List.take_length]
  · rw [e _ (two_of _)]; exact h.1.here
  · rw [e _ (by omega)] at hg; exact h.1.older g hg
end
end Go.Proofs.Ytmkijkkddoamgaa.Jo
