/-
  A disk with a fuse, or dead: what calls answer, and make of it, plainly.
-/
import Derived.Test.YtgajgjijnpigoaaDiskMore
namespace Go.Proofs.Ytgajgjijnpigoaa.Dk
set_option linter.unusedVariables false
open Go Go.RowKit Go.Proofs.Ytgajgjijnpigoaa.Wd

structure Pf (s : DS) (cap : Nat) (al : Nat → List UInt8) (fu : Option (Nat × Nat)) (dead : Bool) : Prop where
  cap : s.cap = cap
  all : ∀ i, i < 2 → s.all i = al i
  fuse : s.fuse = fu
  dead : s.dead = dead
section
variable {s : DS} {cap : Nat} {al : Nat → List UInt8} {fu : Option (Nat × Nat)} {c p : Nat}
theorem Pf.new_ (c : Nat) : Pf (newD c) c (fun _ => []) none false := ⟨rfl, fun _ _ => rfl, rfl, rfl⟩
theorem Pf.free (h : Pf s cap al fu false) : free s = cap - (al 0).length - (al 1).length := by
  unfold Dk.free; rw [if_neg (by rw [h.dead]; simp), h.cap, h.all 0 (by omega), h.all 1 (by omega)]
theorem Pf.rd (h : Pf s cap al fu false) {i : Nat} (hi : i < 2) : rd s (i : Int) = al i := by
  unfold Dk.rd; rw [if_neg (by rw [h.dead]; simp), among_yes hi, if_pos rfl, Int.toNat_natCast, h.all i hi]
theorem Pf.lit (h : Pf s cap al none false) (n k : Nat) : Pf (fuseD (n : Int) (k : Int) s) cap al (some (n, k)) false := by
  have e : fuseD (n : Int) (k : Int) s = fused s (some (n, k)) := by unfold fuseD; rw [if_neg (by rw [h.dead]; simp), if_neg (by omega)]; rfl
  rw [e]
  exact ⟨h.cap, h.all, rfl, h.dead⟩
theorem Pf.app_arg (h : Pf s cap al fu false) (b : List UInt8) : appD s 5 b = (2, s) := by
  unfold appD; rw [if_neg (by rw [h.dead]; simp), if_pos (by decide)]
theorem Pf.tr_arg (h : Pf s cap al fu false) : trD s 0 (-1) = (2, s) := by
  unfold trD; rw [if_neg (by rw [h.dead]; simp), if_pos (.inr (.inl (by decide)))]
theorem Pf.full (h : Pf s cap al fu false) {i : Nat} (hi : i < 2) {b : List UInt8} (hb : cap - (al 0).length - (al 1).length < b.length) : appD s (i : Int) b = (5, s) := by
  unfold appD
  rw [if_neg (by rw [h.dead]; simp), if_neg (by rw [among_yes hi]; simp), if_pos (by rw [h.free]; omega)]
theorem Pf.puts (h : Pf s cap al fu false) (i : Nat) (b : List UInt8) (q : Nat) : Pf (putD i b q s) cap (upd al i (al i ++ b.take q)) fu false := by
  refine ⟨h.cap, fun j hj => ?_, h.fuse, h.dead⟩
  show upd s.all i (s.all i ++ b.take q) j = _
  by_cases ej : j = i
  · subst ej; rw [upd_eq, upd_eq, h.all j hj]
  · rw [upd_ne ej, upd_ne ej, h.all j hj]
theorem Pf.app (h : Pf s cap al (some (c + 1, p)) false) {i : Nat} (hi : i < 2) {b : List UInt8} (hb : b.length ≤ cap - (al 0).length - (al 1).length) : (appD s (i : Int) b).1 = 0 ∧ Pf (appD s (i : Int) b).2 cap (upd al i (al i ++ b)) (some (c, p)) false := by
  have e : appD s (i : Int) b = (0, fused (putD i b b.length s) (some (c, p))) := by
    unfold appD
    rw [if_neg (by rw [h.dead]; simp), if_neg (by rw [among_yes hi]; simp), if_neg (by rw [h.free]; omega)]
    unfold after
    rw [h.fuse]; rfl
  rw [e]
  have k := h.puts i b b.length
  rw [List.take_length] at k
  exact ⟨rfl, k.cap, k.all, rfl, k.dead⟩
theorem Pf.app_none (h : Pf s cap al none false) {i : Nat} (hi : i < 2) {b : List UInt8} (hb : b.length ≤ cap - (al 0).length - (al 1).length) : (appD s (i : Int) b).1 = 0 ∧ Pf (appD s (i : Int) b).2 cap (upd al i (al i ++ b)) none false := by
  have e : appD s (i : Int) b = (0, putD i b b.length s) := by
    unfold appD
    rw [if_neg (by rw [h.dead]; simp), if_neg (by rw [among_yes hi]; simp), if_neg (by rw [h.free]; omega), after_none h.fuse]; rfl
  rw [e]
  have k := h.puts i b b.length
  rw [List.take_length] at k
  exact ⟨rfl, k⟩
theorem Pf.app_die (h : Pf s cap al (some (0, p)) false) {i : Nat} (hi : i < 2) {b : List UInt8} (hb : b.length ≤ cap - (al 0).length - (al 1).length) : (appD s (i : Int) b).1 = 3 ∧ Pf (appD s (i : Int) b).2 cap (upd al i (al i ++ b.take p)) (some (0, p)) true := by
  have e : appD s (i : Int) b = (3, died (putD i b p s)) := by
    unfold appD
    rw [if_neg (by rw [h.dead]; simp), if_neg (by rw [among_yes hi]; simp), if_neg (by rw [h.free]; omega)]
    unfold after
    rw [h.fuse]; rfl
  rw [e]
  have k := h.puts i b p
  exact ⟨rfl, k.cap, k.all, k.fuse, rfl⟩
theorem Pf.sync_die (h : Pf s cap al (some (0, p)) false) {i : Nat} (hi : i < 2) : (syD s (i : Int)).1 = 3 ∧ Pf (syD s (i : Int)).2 cap al (some (0, p)) true := by
  have e : syD s (i : Int) = (3, died s) := by
    unfold syD
    rw [if_neg (by rw [h.dead]; simp), if_neg (by rw [among_yes hi]; simp)]
    unfold after
    rw [h.fuse]
  rw [e]
  exact ⟨rfl, h.cap, h.all, h.fuse, rfl⟩
theorem Pf.gone (h : Pf s cap al fu true) : (∀ i b, appD s i b = (3, s)) ∧ (∀ i, syD s i = (3, s)) ∧ shD s = (3, s) ∧ (∀ i b, wrD s i b = (3, s)) ∧ (∀ i n, trD s i n = (3, s)) ∧ Dk.free s = 0 ∧ (∀ i, Dk.rd s i = []) ∧ (∀ i, hd s i = []) ∧ ∀ a b, fuseD a b s = s := by
  have d := h.dead
  refine ⟨fun i b => ?_, fun i => ?_, ?_, fun i b => ?_, fun i n => ?_, ?_, fun i => ?_, fun i => ?_, fun a b => ?_⟩
  · unfold appD; rw [if_pos d]
  · unfold syD; rw [if_pos d]
  · unfold shD; rw [if_pos d]
  · unfold wrD; rw [if_pos d]
  · unfold trD; rw [if_pos d]
  · unfold Dk.free; rw [if_pos d]
  · unfold Dk.rd; rw [if_pos d]
  · unfold hd; rw [if_pos d]
  · unfold fuseD; rw [if_pos d]
def kBig : Nat → Int := fun _ => 1073741824
theorem Pf.crash (h : Pf s cap al fu true) (ok : Ok s) : Pf (crashD kBig s) cap al none false := by
  have h2 : ∀ (s : DS), (revive (cslots kBig s 2)).all = s.all ∧ (revive (cslots kBig s 2)).cap = s.cap := by
    intro s
    have h1 : ∀ n, (cslots kBig s n).all = s.all ∧ (cslots kBig s n).cap = s.cap := by
      intro n
      induction n with
      | zero => exact ⟨rfl, rfl⟩
      | succ n ih =>
        show (unwr n _).all = _ ∧ (unwr n _).cap = _
        unfold unwr
        dsimp only
        split
        · exact ih
        · exact ih
    exact h1 2
  have h3 := h2 (csegs kBig s 2)
  have hl : ∀ i, i < 2 → (s.all i).length ≤ 1048576 := fun i hi => by
    have := ok.room; have := ok.cap
    rcases (by omega : i = 0 ∨ i = 1) with rfl | rfl <;> omega
  unfold crashD
  refine ⟨h3.2.trans h.cap, fun i hi => ?_, rfl, rfl⟩
  rw [h3.1]
  have e0 : segN kBig 0 s = (s.all 0).length := by
    have := ok.safe 0 (by omega); have := hl 0 (by omega); unfold segN kBig; rw [show (1073741824 : Int).toNat = 1073741824 from rfl]; omega
  rcases (by omega : i = 0 ∨ i = 1) with rfl | rfl
  · show (s.all 0).take (segN kBig 0 s) = _
    rw [e0, List.take_length, h.all 0 (by omega)]
  · show (s.all 1).take (s.safe 1 + min (kBig 1).toNat ((s.all 1).length - s.safe 1)) = _
    rw [List.take_of_length_le (by have := ok.safe 1 (by omega); have := hl 1 (by omega); unfold kBig; rw [show (1073741824 : Int).toNat = 1073741824 from rfl]; omega), h.all 1 (by omega)]
end
end Go.Proofs.Ytgajgjijnpigoaa.Dk
