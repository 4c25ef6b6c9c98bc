/-
  The walk of made, for a journal that keeps.
-/
import Derived.Test.YtmkijkkddoamgaaJourOpened
namespace Go.Proofs.Ytmkijkkddoamgaa.Jo
set_option linter.unusedVariables false
open Go Go.RowKit Go.Shelf Go.Proofs Go.Proofs.Ytmkijkkddoamgaa Go.Proofs.Ytmkijkkddoamgaa.Wd Go.Proofs.Ytmkijkkddoamgaa.Dk Go.Proofs.Ytmkijkkddoamgaa.Hd Go.Proofs.Ytmkijkkddoamgaa.HdW Go.Proofs.Ytmkijkkddoamgaa.BatW
open Go.Proofs.Ytmkijkkddoamgaa.Bat (B writ allRight)
theorem format_new3 : ∃ s1, formatD (newD 4000) = (0, s1) ∧ PC s1 ⟨1, 0, 0⟩ [] := by
  have ha : Al (newD 4000) := ⟨rfl, rfl⟩
  have e1 : ∀ i : Nat, i < 2 → shortD (newD 4000) (i : Int) 0 = (0, newD 4000) := fun i hi => by
    unfold shortD
    rw [if_pos]
    unfold Dk.rd
    rw [if_neg (by show ¬ (false = true); simp), among_yes hi, if_pos rfl]
    exact Int.le_refl _
  have eu : up1 ⟨0, 0, 0⟩ = (⟨1, 0, 0⟩ : H) := rfl
  have e3 : saveD (newD 4000) ⟨0, 0, 0⟩ = (0, savedD ⟨1, 0, 0⟩ (newD 4000), ⟨1, 0, 0⟩) := by
    unfold saveD
    rw [eu, save_al ha (by decide)]
    rfl
  have e' : formatD (newD 4000) = (0, savedD ⟨1, 0, 0⟩ (newD 4000)) := by
    unfold formatD
    rw [load_new]
    dsimp only
    rw [if_neg (by simp)]
    have : clearD (newD 4000) ⟨none_.serial, 0, 0⟩ 0 0 1 0 = (0, savedD ⟨1, 0, 0⟩ (newD 4000), ⟨1, 0, 0⟩) := clear_eq (e1 0 (by decide)) (e1 1 (by decide)) e3
    rw [this]
  have hw : ∀ j, j < 2 → (savedD ⟨1, 0, 0⟩ (newD 4000)).wr j = false := fun j hj => saved_wr ⟨1, 0, 0⟩ hj
  have hsl : ∀ j, j < 2 → (savedD ⟨1, 0, 0⟩ (newD 4000)).sl j = sh (savedD ⟨1, 0, 0⟩ (newD 4000)) j := fun j hj => by unfold sh; rw [hw j hj]; rfl
  have s1 : (savedD ⟨1, 0, 0⟩ (newD 4000)).sl 1 = Hd.bytes ⟨1, 0, 0⟩ := by rw [hsl 1 (by decide)]; exact saved_eq (s := newD 4000) ⟨1, 0, 0⟩
  have s0 : (savedD ⟨1, 0, 0⟩ (newD 4000)).sl 0 = List.replicate 32 0 := by rw [hsl 0 (by decide)]; exact (saved_ne (s := newD 4000) ⟨1, 0, 0⟩ (j := 0) (by decide) (by decide)).trans rfl
  refine ⟨_, e', saved_al ha _, (savedD_all _ _).2.2, fun i hi => ?_, ⟨hw, s1, ?_, fun j hj => ?_⟩, ⟨by decide, by decide, by decide⟩, by decide, ?_⟩
  · rw [(savedD_all _ _).2.1, (savedD_all _ _).1]; rfl
  · show un8 (((savedD ⟨1, 0, 0⟩ (newD 4000)).sl 0).drop 24) ≤ 1
    rw [s0]
    decide
  · rcases (by omega : j = 0 ∨ j = 1) with rfl | rfl
    · rw [s0]; rfl
    · rw [s1]; rfl
  · rw [(savedD_all _ _).1]
    exact Holds.of_writ (L := []) rfl
theorem made_new3 : ∃ s1 s2, formatD (newD 4000) = (0, s1) ∧ openD s1 = (0, s2, ⟨2, 1, 0⟩) ∧ (openB s1).1 = [] ∧ K s2 ⟨2, 1, 0⟩ [] := by
  obtain ⟨s1, e1, h1⟩ := format_new3
  obtain ⟨e2, s2, e3, h2⟩ := open_plain h1 (by decide) (by decide)
  exact ⟨s1, s2, e1, e3, e2, h2⟩
structure Made3 (w : World) (jb : Nat) (F : Nat → Prop) (s : DS) (w' : World) : Prop where
  j : JAt w' w.heap.size F w.heap.size jb s ⟨2, 1, 0⟩
  n : K s ⟨2, 1, 0⟩ []
  below : Below w.heap.size w w'
  jlo : w.heap.size < jb
set_option maxRecDepth 100000 in
set_option maxHeartbeats 1000000 in
theorem made_any3 (w : World) : Calls Try.prog 10 #[.int .i64 4000] w fun e w' => ∃ jb F s, e = .returned (.tuple #[.pointer (some ⟨w.heap.size, 0, none⟩), .pointer (some ⟨jb, 0, none⟩), .bool true]) ∧ Made3 w jb F s w' := by
  obtain ⟨s1, s2, e1, e2, e3, hN⟩ := made_new3
  have HNW := Lib.hid (new_any 4000 (by decide) w)
  have HN := Lib.hid hN
  have HOB := Lib.hid e3
  have HE1 := Lib.hid e1
  have HE2 := Lib.hid e2
  clear hN e1 e2 e3
  go_enter Try.func10, Try.ntmps10
  go_wp2_with fail
  refine Calls.mono HNW.out ?_
  rintro e w1 ⟨rfl, hA1, hB1⟩
  have HA1 := Lib.hid hA1
  have HB1 := Lib.hid hB1
  clear HNW hA1 hB1
  go_wp2_with fail
  have hFm := format_any HA1.out
  rw [HE1.out] at hFm
  refine Calls.mono hFm ?_
  rintro e w2 ⟨rfl, F2, hA2, hf2, hs2⟩
  have HF2 := Lib.hid (HB1.out.trans (hf2.below (B := w.heap.size) HB1.out.size fun k hk => by rw [hk]; exact Nat.le_refl _))
  have HA2 := Lib.hid hA2
  have HS2 : Hid (∀ k, F2 k → w.heap.size ≤ k) := Lib.hid fun k hk => (hA2.lt hk).1
  clear hFm hA2 hf2 hs2 HA1
  go_wp2_with fail
  have hO := open_any HA2.out
  unfold OpenOut at hO
  rw [HE2.out] at hO
  refine Calls.mono hO ?_
  rintro e w3 ⟨F3, hA3, hf3, hs3, h⟩
  rcases h with ⟨h0, _⟩ | ⟨-, jb, A, cp, lo, hi, rfl, qj, hjb, njb, hlc, hcm, -, -, -, -⟩
  · exact absurd rfl h0
  have HB3 := Lib.hid (HF2.out.trans (hf3.below (B := w.heap.size) HF2.out.size HS2.out))
  have HJ : Hid (JAt w3 w.heap.size F3 w.heap.size jb s2 ⟨2, 1, 0⟩) := Lib.hid ⟨hA3, ⟨qj, njb⟩, ⟨by decide, by decide, by decide⟩, by decide⟩
  have HJB : Hid (w.heap.size < jb) := Lib.hid (by have := (HA2.out.lt HA2.out.fg).2; omega)
  rw [HOB.out]
  clear hO hA3 hf3 hs3 qj hjb njb hlc HA2 HS2 HF2
  show _
  go_wp2_with fail
  refine bodyPost_ret (v := .tuple #[.pointer (some ⟨w.heap.size, 0, none⟩), .pointer (some ⟨jb, 0, none⟩), .bool true]) (by simp [results, Try.results10, go_sem]) rfl ?_
  exact ⟨jb, F3, s2, rfl, HJ.out, HN.out, HB3.out, HJB.out⟩
end Go.Proofs.Ytmkijkkddoamgaa.Jo
