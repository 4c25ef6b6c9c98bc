/-
  The walk of made.
-/
import Derived.Test.YtmkijkkddoamgaaJourSwitch
import Derived.Test.YtmkijkkddoamgaaJourNorm
namespace Go.Proofs.Ytmkijkkddoamgaa.Jo
set_option linter.unusedVariables false
open Go Go.RowKit Go.Shelf Go.Proofs Go.Proofs.Ytmkijkkddoamgaa Go.Proofs.Ytmkijkkddoamgaa.Wd Go.Proofs.Ytmkijkkddoamgaa.Dk Go.Proofs.Ytmkijkkddoamgaa.Hd Go.Proofs.Ytmkijkkddoamgaa.HdW Go.Proofs.Ytmkijkkddoamgaa.BatW
open Go.Proofs.Ytmkijkkddoamgaa.Bat (B)

/-- A disk that is made, and its journal. -/
structure Made (w : World) (c : Nat) (jb : Nat) (F : Nat → Prop) (s : DS) (w' : World) : Prop where
  j : JAt w' w.heap.size F w.heap.size jb s ⟨2, 1, 0⟩
  n : JN s ⟨2, 1, 0⟩ c (fun _ => [])
  below : Below w.heap.size w w'
  jlo : w.heap.size < jb
set_option maxRecDepth 100000 in
set_option maxHeartbeats 1000000 in
theorem made_any (c : Nat) (hc : c ≤ 1048576) (w : World) : Calls Try.prog 10 #[.int .i64 c] w fun e w' => ∃ jb F s, e = .returned (.tuple #[.pointer (some ⟨w.heap.size, 0, none⟩), .pointer (some ⟨jb, 0, none⟩), .bool true]) ∧ Made w c jb F s w' := by
  obtain ⟨s1, s2, e1, e2, e3, hN⟩ := made_new c
  have HNW := Lib.hid (new_any c hc w)
  have HN := Lib.hid hN
  have HOB := Lib.hid e3
  have HE1 := Lib.hid e1
  have HE2 := Lib.hid e2
  clear hN e1 e2 e3
  go_enter Try.func10, Try.ntmps10
  go_wp2_with fail
  refine Calls.mono HNW.out ?_
  rintro e w1 ⟨rfl, hA1, hB1⟩
  have HA1 := Lib.hid hA1
  have HB1 := Lib.hid hB1
  clear HNW hA1 hB1
  go_wp2_with fail
  have hFm := format_any HA1.out
  rw [HE1.out] at hFm
  refine Calls.mono hFm ?_
  rintro e w2 ⟨rfl, F2, hA2, hf2, hs2⟩
  have HF2 := Lib.hid (HB1.out.trans (hf2.below (B := w.heap.size) HB1.out.size fun k hk => by rw [hk]; exact Nat.le_refl _))
  have HA2 := Lib.hid hA2
  have HS2 : Hid (∀ k, F2 k → w.heap.size ≤ k) := Lib.hid fun k hk => (hA2.lt hk).1
  clear hFm hA2 hf2 hs2 HA1
  go_wp2_with fail
  have hO := open_any HA2.out
  unfold OpenOut at hO
  rw [HE2.out] at hO
  refine Calls.mono hO ?_
  rintro e w3 ⟨F3, hA3, hf3, hs3, h⟩
  rcases h with ⟨h0, _⟩ | ⟨-, jb, A, cp, lo, hi, rfl, qj, hjb, njb, hlc, hcm, -, -, -, -⟩
  · exact absurd rfl h0
  have HB3 := Lib.hid (HF2.out.trans (hf3.below (B := w.heap.size) HF2.out.size HS2.out))
  have HJ : Hid (JAt w3 w.heap.size F3 w.heap.size jb s2 ⟨2, 1, 0⟩) := Lib.hid ⟨hA3, ⟨qj, njb⟩, ⟨by decide, by decide, by decide⟩, by decide⟩
  have HJB : Hid (w.heap.size < jb) := Lib.hid (by have := (HA2.out.lt HA2.out.fg).2; omega)
  rw [HOB.out]
  clear hO hA3 hf3 hs3 qj hjb njb hlc HA2 HS2 HF2
  show _
  go_wp2_with fail
  refine bodyPost_ret (v := .tuple #[.pointer (some ⟨w.heap.size, 0, none⟩), .pointer (some ⟨jb, 0, none⟩), .bool true]) (by simp [results, Try.results10, go_sem]) rfl ?_
  exact ⟨jb, F3, s2, rfl, HJ.out, HN.out, HB3.out, HJB.out⟩
end Go.Proofs.Ytmkijkkddoamgaa.Jo
