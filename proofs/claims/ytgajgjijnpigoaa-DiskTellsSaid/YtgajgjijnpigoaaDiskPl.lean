/-
  A disk that lives, without a fuse: what calls answer, and make of it, plainly.
-/
import Derived.Test.YtgajgjijnpigoaaDiskWalks7
import Derived.Test.YtgajgjijnpigoaaDiskWalks8
import Derived.Test.YtgajgjijnpigoaaDiskSync
namespace Go.Proofs.Ytgajgjijnpigoaa.Dk
set_option linter.unusedVariables false
open Go Go.RowKit Go.Proofs.Ytgajgjijnpigoaa.Wd

structure Pl (s : DS) (cap : Nat) (al : Nat → List UInt8) (sf : Nat → Nat) : Prop where
  cap : s.cap = cap
  all : ∀ i, i < 2 → s.all i = al i
  safe : ∀ i, i < 2 → s.safe i = sf i
  fuse : s.fuse = none
  dead : s.dead = false
section
variable {s : DS} {cap : Nat} {al : Nat → List UInt8} {sf : Nat → Nat}
theorem Pl.new_ (c : Nat) : Pl (newD c) c (fun _ => []) (fun _ => 0) := ⟨rfl, fun _ _ => rfl, fun _ _ => rfl, rfl, rfl⟩
theorem Pl.free (h : Pl s cap al sf) : free s = cap - (al 0).length - (al 1).length := by
  unfold Dk.free; rw [if_neg (by rw [h.dead]; simp), h.cap, h.all 0 (by omega), h.all 1 (by omega)]
theorem Pl.rd (h : Pl s cap al sf) {i : Nat} (hi : i < 2) : rd s (i : Int) = al i := by
  unfold Dk.rd; rw [if_neg (by rw [h.dead]; simp), among_yes hi, if_pos rfl, Int.toNat_natCast, h.all i hi]
theorem after_none (h : s.fuse = none) (f : DS → DS) (fl : Nat → DS → DS) : after s f fl = (0, f s) := by unfold after; rw [h]
theorem Pl.append (h : Pl s cap al sf) {i : Nat} (hi : i < 2) {b : List UInt8} (hb : b.length ≤ cap - (al 0).length - (al 1).length) : (appD s (i : Int) b).1 = 0 ∧ Pl (appD s (i : Int) b).2 cap (upd al i (al i ++ b)) sf := by
  have e : appD s (i : Int) b = (0, putD i b b.length s) := by
    unfold appD
    rw [if_neg (by rw [h.dead]; simp), if_neg (by rw [among_yes hi]; simp), if_neg (by rw [h.free]; omega), after_none h.fuse]; rfl
  rw [e]
  refine ⟨rfl, h.cap, fun j hj => ?_, h.safe, h.fuse, h.dead⟩
  show upd s.all i (s.all i ++ b.take b.length) j = _
  by_cases ej : j = i
  · subst ej; rw [upd_eq, upd_eq, h.all j hj, List.take_length]
  · rw [upd_ne ej, upd_ne ej, h.all j hj]
theorem Pl.full (h : Pl s cap al sf) {i : Nat} (hi : i < 2) {b : List UInt8} (hb : cap - (al 0).length - (al 1).length < b.length) : appD s (i : Int) b = (5, s) := by
  unfold appD
  rw [if_neg (by rw [h.dead]; simp), if_neg (by rw [among_yes hi]; simp), if_pos (by rw [h.free]; omega)]
theorem Pl.sync (h : Pl s cap al sf) {i : Nat} (hi : i < 2) : (syD s (i : Int)).1 = 0 ∧ Pl (syD s (i : Int)).2 cap al (upd sf i (al i).length) := by
  have e : syD s (i : Int) = (0, syncD i s) := by
    unfold syD
    rw [if_neg (by rw [h.dead]; simp), if_neg (by rw [among_yes hi]; simp), after_none h.fuse]; rfl
  rw [e]
  refine ⟨rfl, h.cap, h.all, fun j hj => ?_, h.fuse, h.dead⟩
  show upd s.safe i (s.all i).length j = _
  by_cases ej : j = i
  · subst ej; rw [upd_eq, upd_eq, h.all j hj]
  · rw [upd_ne ej, upd_ne ej, h.safe j hj]
theorem Pl.trunc (h : Pl s cap al sf) {i n : Nat} (hi : i < 2) (hn : n ≤ (al i).length) : (trD s (i : Int) (n : Int)).1 = 0 ∧ Pl (trD s (i : Int) (n : Int)).2 cap (upd al i ((al i).take n)) (upd sf i (min (sf i) n)) := by
  have e : trD s (i : Int) (n : Int) = (0, truncD i n s) := by
    unfold trD
    rw [if_neg (by rw [h.dead]; simp), if_neg, after_none h.fuse]; rfl
    rw [among_yes hi, Int.toNat_natCast, h.all i hi]
    rintro (h1 | h1 | h1)
    · cases h1
    · omega
    · omega
  rw [e]
  refine ⟨rfl, h.cap, fun j hj => ?_, fun j hj => ?_, h.fuse, h.dead⟩
  · show upd s.all i ((s.all i).take n) j = _
    by_cases ej : j = i
    · subst ej; rw [upd_eq, upd_eq, h.all j hj]
    · rw [upd_ne ej, upd_ne ej, h.all j hj]
  · show upd s.safe i (min (s.safe i) n) j = _
    by_cases ej : j = i
    · subst ej; rw [upd_eq, upd_eq, h.safe j hj]
    · rw [upd_ne ej, upd_ne ej, h.safe j hj]
theorem Pl.trunc_bad (h : Pl s cap al sf) {i n : Nat} (hi : i < 2) (hn : (al i).length < n) : trD s (i : Int) (n : Int) = (2, s) := by
  unfold trD
  rw [if_neg (by rw [h.dead]; simp), if_pos]
  rw [Int.toNat_natCast, h.all i hi]
  right; right; omega
/-- How many bytes a crash leaves. -/
def left (keep : Nat → Int) (al : Nat → List UInt8) (sf : Nat → Nat) (i : Nat) : Nat := sf i + min (keep i).toNat ((al i).length - sf i)
theorem Pl.crash (h : Pl s cap al sf) (keep : Nat → Int) : Pl (crashD keep s) cap (fun i => (al i).take (left keep al sf i)) (left keep al sf) := by
  have h2 : ∀ (s : DS), (revive (cslots keep s 2)).all = s.all ∧ (revive (cslots keep s 2)).safe = s.safe ∧ (revive (cslots keep s 2)).cap = s.cap := by
    intro s
    have h1 : ∀ n, (cslots keep s n).all = s.all ∧ (cslots keep s n).safe = s.safe ∧ (cslots keep s n).cap = s.cap := by
      intro n
      induction n with
      | zero => exact ⟨rfl, rfl, rfl⟩
      | succ n ih =>
        show (unwr n _).all = _ ∧ (unwr n _).safe = _ ∧ (unwr n _).cap = _
        unfold unwr
        dsimp only
        split
        · exact ih
        · exact ih
    exact h1 2
  have h3 := h2 (csegs keep s 2)
  unfold crashD
  have ha0 := h.all 0 (by omega)
  have ha1 := h.all 1 (by omega)
  have hs0 := h.safe 0 (by omega)
  have hs1 := h.safe 1 (by omega)
  refine ⟨h3.2.2.trans h.cap, fun i hi => ?_, fun i hi => ?_, rfl, rfl⟩
  · rw [h3.1]
    rcases (by omega : i = 0 ∨ i = 1) with rfl | rfl
    · show (s.all 0).take (segN keep 0 s) = _
      unfold segN left; rw [ha0, hs0]
    · show (s.all 1).take (s.safe 1 + min (keep 1).toNat ((s.all 1).length - s.safe 1)) = _
      unfold left; rw [ha1, hs1]
  · rw [h3.2.1]
    rcases (by omega : i = 0 ∨ i = 1) with rfl | rfl
    · show segN keep 0 s = _
      unfold segN left; rw [ha0, hs0]
    · show s.safe 1 + min (keep 1).toNat ((s.all 1).length - s.safe 1) = _
      unfold left; rw [ha1, hs1]
end
end Go.Proofs.Ytgajgjijnpigoaa.Dk
