/-
  Format with a fuse, and what a crash leaves, plainly.
-/
import Derived.Test.YtmkijkkddoamgaaJourFormatPl
namespace Go.Proofs.Ytmkijkkddoamgaa.Jo
set_option linter.unusedVariables false
open Go Go.RowKit Go.Shelf Go.Proofs Go.Proofs.Ytmkijkkddoamgaa Go.Proofs.Ytmkijkkddoamgaa.Wd Go.Proofs.Ytmkijkkddoamgaa.Dk Go.Proofs.Ytmkijkkddoamgaa.Hd Go.Proofs.Ytmkijkkddoamgaa.HdW
open Go.Proofs.Ytmkijkkddoamgaa.Bat (B writ allRight)
section
variable {s s' t : DS} {y z x : H} {cap : Nat} {al al' : Nat → List UInt8} {L : List B}
def x3 : H := ⟨3, 0, 0⟩
theorem x3_right : right x3 = true := by decide
theorem up_x3 : up1 ⟨2, 0, 0⟩ = x3 := rfl
/-- A save under a fuse. -/
theorem save_fuse (hd : t.dead = false) (hf : t.fuse = none) (k : Nat) :
    saveD (fused t (some (k, 0))) ⟨2, 0, 0⟩ = (if k = 0 then (3, died (fused t (some (0, 0))), ⟨2, 0, 0⟩) else if k = 1 then (3, died (fused (putS 1 (Hd.bytes x3) t) (some (0, 0))), ⟨2, 0, 0⟩) else (0, fused (savedD x3 t) (some (k - 2, 0)), x3)) := by
  have hw : ∀ o, wrD (fused t o) ((1 : Nat) : Int) (Hd.bytes x3) = after (fused t o) (putS 1 (Hd.bytes x3)) (fun _ s => s) := fun o => by
    unfold wrD
    rw [if_neg (by show ¬ t.dead = true; rw [hd]; simp), if_neg (by decide), if_pos (bytes_length _)]
    rfl
  have hs : ∀ o, saveR (fused t o) x3 = (let r := after (fused t o) (putS 1 (Hd.bytes x3)) (fun _ s => s); if r.1 = 0 then let q := shD r.2; if q.1 = 0 then ((x3, 0), q.2) else ((none_, q.1), q.2) else ((none_, r.1), r.2)) := fun o => by
    unfold saveR
    rw [if_neg (by rw [x3_right]; simp), show x3.serial % 2 = 1 from rfl, hw]
  rcases (show k = 0 ∨ k = 1 ∨ ∃ m, k = m + 2 by rcases k with _ | _ | m; exact .inl rfl; exact .inr (.inl rfl); exact .inr (.inr ⟨m, rfl⟩)) with rfl | rfl | ⟨m, rfl⟩
  · unfold saveD
    rw [up_x3, hs]
    rfl
  · have e1 : after (fused t (some (1, 0))) (putS 1 (Hd.bytes x3)) (fun _ s => s) = (0, fused (putS 1 (Hd.bytes x3) t) (some (0, 0))) := rfl
    have e2 : shD (fused (putS 1 (Hd.bytes x3) t) (some (0, 0))) = (3, died (fused (putS 1 (Hd.bytes x3) t) (some (0, 0)))) := by
      unfold shD
      rw [if_neg (by show ¬ t.dead = true; rw [hd]; simp)]
      rfl
    have e4 : saveR (fused t (some (1, 0))) x3 = ((none_, 3), died (fused (putS 1 (Hd.bytes x3) t) (some (0, 0)))) := by
      rw [hs, e1]
      simp only [e2]
      rfl
    unfold saveD
    rw [up_x3, e4]
    rfl
  · have e1 : after (fused t (some (m + 2, 0))) (putS 1 (Hd.bytes x3)) (fun _ s => s) = (0, fused (putS 1 (Hd.bytes x3) t) (some (m + 1, 0))) := rfl
    have e3 : ∀ (u : DS) o, sySs (fused u o) 2 = fused (sySs u 2) o := fun u o => by
      show syS 1 (syS 0 (fused u o)) = fused (syS 1 (syS 0 u)) o
      rw [syS_fused, syS_fused]
    have e2 : shD (fused (putS 1 (Hd.bytes x3) t) (some (m + 1, 0))) = (0, fused (savedD x3 t) (some (m, 0))) := by
      unfold shD
      rw [if_neg (by show ¬ t.dead = true; rw [hd]; simp)]
      show (0, fused (sySs (fused _ _) 2) _) = _
      rw [e3]
      rfl
    have e4 : saveR (fused t (some (m + 2, 0))) x3 = ((x3, 0), fused (savedD x3 t) (some (m, 0))) := by
      rw [hs, e1]
      simp only [e2]
      rfl
    unfold saveD
    rw [up_x3, e4]
    have h0 : ¬ (m + 2 = 0) := by omega
    have h1 : ¬ (m + 2 = 1) := by omega
    rw [if_neg h0, if_neg h1, show m + 2 - 2 = m by omega]
    rfl
theorem short_fused (h : JN s y cap al) (o : Option (Nat × Nat)) {i : Nat} (hi : i < 2) (h0 : al i = []) : shortD (fused s o) (i : Int) 0 = (0, fused s o) := by
  have : rd (fused s o) (i : Int) = al i := h.rd hi
  unfold shortD
  rw [this, h0, if_pos (by simp)]
theorem short_cut (h : JN s y cap al) (k : Nat) (h0 : al 0 ≠ []) : shortD (fused s (some (k, 0))) 0 0 = (if k = 0 then (3, died (fused s (some (0, 0)))) else (0, fused (truncD 0 0 s) (some (k - 1, 0)))) := by
  have hr : rd (fused s (some (k, 0))) 0 = al 0 := h.rd (i := 0) (by decide)
  have hl : ¬ ((al 0).length : Int) ≤ 0 := by have := List.length_pos_iff.2 h0; omega
  unfold shortD
  rw [hr, if_neg hl]
  unfold trD
  rw [if_neg (by show ¬ s.dead = true; rw [h.live.dead]; simp), if_neg (by rintro (h1 | h1 | h1); · cases h1
                                                                           · omega
                                                                           · have : ((s.all 0).length : Int) < 0 := h1; omega)]
  rcases k with _ | k
  · rfl
  · show (0, _) = _
    rw [if_neg (by omega), show k + 1 - 1 = k by omega]
    rfl
/-- What Format tells: done, or dead; then a crash leaves the batches, or none of them. -/
def FormatOut (L : List B) (r : Nat × DS) : Prop :=
  (r.1 = 0 ∧ JN (fuseD (-1) 0 r.2) x3 60000 (fun _ => [])) ∨ (r.1 = 3 ∧ r.2.dead = true ∧ ∃ L' al, L'.length ≤ L.length ∧ allRight L' = true ∧ JN (crashD (fun _ => 0) r.2) ⟨2, 1, 0⟩ 60000 al ∧ al 0 = writ L' ∧ al 1 = [])
theorem off_fused (h : JN t y cap al) (o : Option (Nat × Nat)) : JN (fuseD (-1) 0 (fused t o)) y cap al := by
  have e : fuseD (-1) 0 (fused t o) = fused (fused t o) none := by
    unfold fuseD
    rw [if_neg (by show ¬ t.dead = true; rw [h.live.dead]; simp), if_pos (by decide)]
  rw [e]
  exact h.turn rfl h.all (h.live.fuse).symm rfl rfl rfl rfl
/-- The end of Format, where both segments are empty. -/
theorem end_law (h0 : JS s ⟨2, 1, 0⟩ 60000 al) (L : List B) {al2 : Nat → List UInt8} (ht : JS t ⟨2, 1, 0⟩ 60000 al2) (hsl : t.sl = s.sl) {L' : List B} (hL : L'.length ≤ L.length) (hr : allRight L' = true) (e0 : al2 0 = writ L') (e1 : al2 1 = []) (hz : ∀ i, i < 2 → al2 i = []) (k : Nat)
    {r : Nat × DS × H} (e : saveD (fused t (some (k, 0))) ⟨2, 0, 0⟩ = r) : FormatOut L (r.1, r.2.1) := by
  rw [save_fuse ht.1.live.dead ht.1.live.fuse] at e
  subst e
  rcases (by omega : k = 0 ∨ k = 1 ∨ 2 ≤ k) with rfl | rfl | hk
  · refine .inr ⟨rfl, rfl, L', al2, hL, hr, crash_back (s := t) ht rfl (fun i hi => ht.1.all i hi) (fun i hi => ht.2.1 i hi) rfl, e0, e1⟩
  · refine .inr ⟨rfl, rfl, L', al2, hL, hr, crash_back (s := t) ht rfl (fun i hi => ht.1.all i hi) (fun i hi => ht.2.1 i hi) rfl, e0, e1⟩
  · left
    rw [if_neg (by omega), if_neg (by omega)]
    refine ⟨rfl, off_fused ?_ _⟩
    obtain ⟨s9, e9, h9⟩ := ht.1.save (z := ⟨2, 0, 0⟩) rfl (by decide) (by decide) (by decide)
    have es : s9 = savedD x3 t := by
      unfold saveD at e9
      rw [up_x3, save_al ht.1.live x3_right] at e9
      simp only [Prod.mk.injEq] at e9
      exact e9.2.1.symm
    rw [← es]
    exact h9.ext hz
theorem format_law (h : AS s L) (hr : allRight L = true) (k : Nat) : FormatOut L (formatD (fuseD (k : Int) 0 s)) := by
  obtain ⟨al, h, h0, h1⟩ := h
  have ef : fuseD (k : Int) 0 s = fused s (some (k, 0)) := by
    unfold fuseD
    rw [if_neg (by rw [h.1.live.dead]; simp), if_neg (by omega)]
    rfl
  rw [ef]
  have hl : loadR (fused s (some (k, 0))) = (⟨2, 1, 0⟩, 0) := h.1.load
  unfold formatD
  rw [hl]
  dsimp only
  rw [if_neg (by simp)]
  by_cases hn : al 0 = []
  · have c1 : shortD (fused s (some (k, 0))) 0 0 = (0, fused s (some (k, 0))) := short_fused h.1 _ (i := 0) (by decide) hn
    have c2 : shortD (fused s (some (k, 0))) 1 0 = (0, fused s (some (k, 0))) := short_fused h.1 _ (i := 1) (by decide) h1
    rw [clear_eq c1 c2 rfl]
    exact end_law h L h rfl (Nat.le_refl _) hr h0 h1 (fun i hi => by rcases (by omega : i = 0 ∨ i = 1) with rfl | rfl; · exact hn
                                                                     · exact h1) k rfl
  · have c1 := short_cut h.1 k hn
    rcases k with _ | k
    · rw [if_pos rfl] at c1
      have e : clearD (fused s (some (0, 0))) ⟨2, 0, 0⟩ 0 0 1 0 = (3, died (fused s (some (0, 0))), ⟨2, 0, 0⟩) := by
        unfold clearD lift
        dsimp only
        rw [c1, then_no (r := then_ _ _)]
        · rw [then_no]; simp
        · rw [then_no]
          · simp
          · simp
      rw [e]
      exact .inr ⟨rfl, rfl, L, al, Nat.le_refl _, hr, crash_back h rfl (fun i hi => h.1.all i hi) (fun i hi => h.2.1 i hi) rfl, h0, h1⟩
    · rw [if_neg (by omega), show k + 1 - 1 = k by omega] at c1
      have e1 : shortD s ((0 : Nat) : Int) ((0 : Nat) : Int) = (0, truncD 0 0 s) := by
        have hr : rd s ((0 : Nat) : Int) = al 0 := h.1.rd (by decide)
        have hl : ¬ ((al 0).length : Int) ≤ ((0 : Nat) : Int) := by have := List.length_pos_iff.2 hn; omega
        unfold shortD
        rw [hr, if_neg hl]
        unfold trD
        rw [if_neg (by rw [h.1.live.dead]; simp), if_neg (by rintro (h1 | h1 | h1); · cases h1
                                                             · omega
                                                             · have : ((s.all 0).length : Int) < 0 := h1; omega), after_live h.1.live.fuse]
        rfl
      obtain ⟨s2, e2, h2⟩ := h.short (i := 0) (n := 0) (by decide)
      rw [e1] at e2
      cases e2
      have b0 : upd al 0 ((al 0).take 0) 0 = [] := by rw [upd_eq]; rfl
      have b1 : upd al 0 ((al 0).take 0) 1 = [] := by rw [upd_ne (by decide), h1]
      have c2 : shortD (fused (truncD 0 0 s) (some (k, 0))) 1 0 = (0, fused (truncD 0 0 s) (some (k, 0))) := short_fused h2.1 _ (i := 1) (by decide) b1
      rw [clear_eq c1 c2 rfl]
      exact end_law h L h2 rfl (L' := []) (Nat.zero_le _) rfl b0 b1 (fun i hi => by rcases (by omega : i = 0 ∨ i = 1) with rfl | rfl; · exact b0
                                                                                    · exact b1) k rfl
end
end Go.Proofs.Ytmkijkkddoamgaa.Jo
