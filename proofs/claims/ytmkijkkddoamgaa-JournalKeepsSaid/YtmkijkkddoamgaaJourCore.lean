/-
  What calls under a fuse make of a disk, plainly: done, refused, or dead midway.
-/
import Derived.Test.YtmkijkkddoamgaaJourNorm
namespace Go.Proofs.Ytmkijkkddoamgaa.Jo
set_option linter.unusedVariables false
open Go Go.RowKit Go.Shelf Go.Proofs Go.Proofs.Ytmkijkkddoamgaa Go.Proofs.Ytmkijkkddoamgaa.Wd Go.Proofs.Ytmkijkkddoamgaa.Dk Go.Proofs.Ytmkijkkddoamgaa.Hd Go.Proofs.Ytmkijkkddoamgaa.HdW
open Go.Proofs.Ytmkijkkddoamgaa.Bat (B writ allRight)
section
variable {s s' t : DS} {x y z : H}
theorem after_core {f : DS → DS} {fl : Nat → DS → DS} (hf : ∀ t o, f (fused t o) = fused (f t) o) (hl : ∀ p t o, fl p (fused t o) = fused (fl p t) o) (t : DS) (o : Option (Nat × Nat)) :
    (∃ o', after (fused t o) f fl = (0, fused (f t) o')) ∨ ∃ p o', after (fused t o) f fl = (3, died (fused (fl p t) o')) := by
  rcases o with _ | ⟨_ | k, p⟩
  · exact .inl ⟨none, by show (0, f (fused t none)) = _; rw [hf]⟩
  · exact .inr ⟨p, some (0, p), by show (3, died (fl p (fused t _))) = _; rw [hl]⟩
  · exact .inl ⟨some (k, p), by show (0, fused (f (fused t _)) _) = _; rw [hf]; rfl⟩
/-- A segment that is shortened. -/
def cutS (t : DS) (i n : Nat) : DS := if (t.all i).length ≤ n then t else truncD i n t
theorem cutS_al (h : Al t) (i n : Nat) : Al (cutS t i n) := by unfold cutS; split; exact h; exact ⟨h.fuse, h.dead⟩
theorem short_core (h : Al t) (o : Option (Nat × Nat)) {i n : Nat} (hi : i < 2) : (∃ o', shortD (fused t o) (i : Int) (n : Int) = (0, fused (cutS t i n) o')) ∨ ∃ o', shortD (fused t o) (i : Int) (n : Int) = (3, died (fused t o')) := by
  have hr : rd (fused t o) (i : Int) = t.all i := by
    unfold Dk.rd
    rw [if_neg (by show ¬ t.dead = true; rw [h.dead]; simp), among_yes hi, if_pos rfl, Int.toNat_natCast]
    rfl
  unfold shortD cutS
  rw [hr]
  by_cases hn : (t.all i).length ≤ n
  · rw [if_pos (by omega), if_pos hn]
    exact .inl ⟨o, rfl⟩
  · rw [if_neg (by omega), if_neg hn]
    have e : trD (fused t o) (i : Int) (n : Int) = after (fused t o) (truncD i n) (fun _ s => s) := by
      unfold trD
      rw [if_neg (by show ¬ t.dead = true; rw [h.dead]; simp), if_neg, Int.toNat_natCast, Int.toNat_natCast]
      rw [among_yes hi, Int.toNat_natCast]
      rintro (h1 | h1 | h1)
      · cases h1
      · omega
      · have : ((t.all i).length : Int) < n := h1; omega
    rw [e]
    rcases after_core (f := truncD i n) (fl := fun _ s => s) (fun _ _ => rfl) (fun _ _ _ => rfl) t o with ⟨o', e⟩ | ⟨p, o', e⟩
    · exact .inl ⟨o', e⟩
    · exact .inr ⟨o', e⟩
theorem sySs_fused (t : DS) (o : Option (Nat × Nat)) : sySs (fused t o) 2 = fused (sySs t 2) o := by
  show syS 1 (syS 0 (fused t o)) = fused (syS 1 (syS 0 t)) o
  rw [syS_fused, syS_fused]
theorem saveR_core (h : Al t) (hr : right x = true) (o : Option (Nat × Nat)) : (∃ o', saveR (fused t o) x = ((x, 0), fused (savedD x t) o')) ∨ (∃ o', saveR (fused t o) x = ((none_, 3), died (fused t o'))) ∨ ∃ o', saveR (fused t o) x = ((none_, 3), died (fused (putS (x.serial % 2) (Hd.bytes x) t) o')) := by
  have hw : wrD (fused t o) ((x.serial % 2 : Nat) : Int) (Hd.bytes x) = after (fused t o) (putS (x.serial % 2) (Hd.bytes x)) (fun _ s => s) := by
    unfold wrD
    rw [if_neg (by show ¬ t.dead = true; rw [h.dead]; simp), if_neg (by rw [among_yes (two_of _)]; simp), if_pos (bytes_length _), Int.toNat_natCast]
  have hs : saveR (fused t o) x = (let r := after (fused t o) (putS (x.serial % 2) (Hd.bytes x)) (fun _ s => s); if r.1 = 0 then let q := shD r.2; if q.1 = 0 then ((x, 0), q.2) else ((none_, q.1), q.2) else ((none_, r.1), r.2)) := by
    unfold saveR
    rw [if_neg (by rw [hr]; simp), hw]
  rw [hs]
  rcases after_core (f := putS (x.serial % 2) (Hd.bytes x)) (fl := fun _ s => s) (fun _ _ => rfl) (fun _ _ _ => rfl) t o with ⟨o', e⟩ | ⟨p, o', e⟩
  · rw [e]
    have e2 : shD (fused (putS (x.serial % 2) (Hd.bytes x) t) o') = after (fused (putS (x.serial % 2) (Hd.bytes x) t) o') (fun s => sySs s 2) (fun _ s => s) := by
      unfold shD
      rw [if_neg (by show ¬ t.dead = true; rw [h.dead]; simp)]
    simp only [e2]
    rcases after_core (f := fun s => sySs s 2) (fl := fun _ s => s) sySs_fused (fun _ _ _ => rfl) (putS (x.serial % 2) (Hd.bytes x) t) o' with ⟨o2, e3⟩ | ⟨p, o2, e3⟩
    · simp only [e3]
      exact .inl ⟨o2, rfl⟩
    · simp only [e3]
      exact .inr (.inr ⟨o2, rfl⟩)
  · simp only [e]
    exact .inr (.inl ⟨o', rfl⟩)
theorem save_core (h : Al t) (hx : up1 z = x) (hr : right x = true) (o : Option (Nat × Nat)) : (∃ o', saveD (fused t o) z = (0, fused (savedD x t) o', x)) ∨ (∃ o', saveD (fused t o) z = (3, died (fused t o'), z)) ∨ ∃ o', saveD (fused t o) z = (3, died (fused (putS (x.serial % 2) (Hd.bytes x) t) o'), z) := by
  unfold saveD
  rw [hx]
  rcases saveR_core h hr o with ⟨o', e⟩ | ⟨o', e⟩ | ⟨o', e⟩
  · rw [e]; exact .inl ⟨o', rfl⟩
  · rw [e]; exact .inr (.inl ⟨o', rfl⟩)
  · rw [e]; exact .inr (.inr ⟨o', rfl⟩)
theorem put_core (h : Al t) (o : Option (Nat × Nat)) {i : Nat} (hi : i < 2) (b : List UInt8) : (free t < b.length ∧ putJ (fused t o) (i : Int) b = (5, fused t o)) ∨
    (b.length ≤ free t ∧ ((∃ o', putJ (fused t o) (i : Int) b = (0, fused (syncD i (putD i b b.length t)) o')) ∨ ∃ p o', putJ (fused t o) (i : Int) b = (3, died (fused (putD i b p t) o')))) := by
  have hfr : free (fused t o) = free t := rfl
  by_cases hb : free t < b.length
  · left
    refine ⟨hb, ?_⟩
    have e : appD (fused t o) (i : Int) b = (5, fused t o) := by
      unfold appD
      rw [if_neg (by show ¬ t.dead = true; rw [h.dead]; simp), if_neg (by rw [among_yes hi]; simp), if_pos (by rw [hfr]; exact hb)]
    unfold putJ
    rw [e, then_no]
    simp
  · right
    refine ⟨by omega, ?_⟩
    have e : appD (fused t o) (i : Int) b = after (fused t o) (putD i b b.length) (putD i b) := by
      unfold appD
      rw [if_neg (by show ¬ t.dead = true; rw [h.dead]; simp), if_neg (by rw [among_yes hi]; simp), if_neg (by rw [hfr]; exact hb), Int.toNat_natCast]
    unfold putJ
    rw [e]
    rcases after_core (f := putD i b b.length) (fl := putD i b) (fun _ _ => rfl) (fun _ _ _ => rfl) t o with ⟨o', e1⟩ | ⟨p, o', e1⟩
    · rw [e1, then_ok (r := (0, _)) rfl]
      dsimp only
      have e2 : syD (fused (putD i b b.length t) o') (i : Int) = after (fused (putD i b b.length t) o') (syncD i) (fun _ s => s) := by
        unfold syD
        rw [if_neg (by show ¬ t.dead = true; rw [h.dead]; simp), if_neg (by rw [among_yes hi]; simp), Int.toNat_natCast]
      rw [e2]
      rcases after_core (f := syncD i) (fl := fun _ s => s) (fun _ _ => rfl) (fun _ _ _ => rfl) (putD i b b.length t) o' with ⟨o2, e3⟩ | ⟨p, o2, e3⟩
      · exact .inl ⟨o2, e3⟩
      · exact .inr ⟨b.length, o2, e3⟩
    · rw [e1, then_no (r := (3, _)) (by simp)]
      exact .inr ⟨p, o', rfl⟩
/-- Both shortened, and the head saved. -/
theorem clear_core (h : Al t) (hx : up1 z = x) (hr : right x = true) (o : Option (Nat × Nat)) {i n j m : Nat} (hi : i < 2) (hj : j < 2) :
    (∃ o', clearD (fused t o) z (i : Int) (n : Int) (j : Int) (m : Int) = (0, fused (savedD x (cutS (cutS t i n) j m)) o', x)) ∨
    ∃ t' o', clearD (fused t o) z (i : Int) (n : Int) (j : Int) (m : Int) = (3, died (fused t' o'), z) ∧ (t' = t ∨ t' = cutS t i n ∨ t' = cutS (cutS t i n) j m ∨ t' = putS (x.serial % 2) (Hd.bytes x) (cutS (cutS t i n) j m)) := by
  rcases short_core h o (n := n) hi with ⟨o1, e1⟩ | ⟨o1, e1⟩
  · rcases short_core (cutS_al h i n) o1 (n := m) hj with ⟨o2, e2⟩ | ⟨o2, e2⟩
    · rcases save_core (cutS_al (cutS_al h i n) j m) hx hr o2 with ⟨o3, e3⟩ | ⟨o3, e3⟩ | ⟨o3, e3⟩
      · exact .inl ⟨o3, clear_eq e1 e2 e3⟩
      · exact .inr ⟨_, o3, clear_eq e1 e2 e3, .inr (.inr (.inl rfl))⟩
      · exact .inr ⟨_, o3, clear_eq e1 e2 e3, .inr (.inr (.inr rfl))⟩
    · refine .inr ⟨_, o2, ?_, .inr (.inl rfl)⟩
      unfold clearD lift
      dsimp only
      rw [e1, then_ok (r := (0, _, z)) rfl]
      dsimp only
      rw [e2, then_no]
      simp
  · refine .inr ⟨_, o1, ?_, .inl rfl⟩
    unfold clearD lift
    dsimp only
    rw [e1, then_no (r := then_ _ _)]
    · rw [then_no]; simp
    · rw [then_no]
      · simp
      · simp
end
end Go.Proofs.Ytmkijkkddoamgaa.Jo
