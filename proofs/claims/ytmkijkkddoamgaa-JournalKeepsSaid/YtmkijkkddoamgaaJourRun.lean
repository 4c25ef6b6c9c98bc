/-
  run: steps, one behind the other.
-/
import Derived.Test.YtmkijkkddoamgaaJW
import Derived.Shelf.Abstract
namespace Go.Proofs.Ytmkijkkddoamgaa.Jo
set_option linter.unusedVariables false
open Go Go.RowKit Go.Shelf Go.Proofs Go.Proofs.Ytmkijkkddoamgaa Go.Proofs.Ytmkijkkddoamgaa.Wd
set_option maxRecDepth 100000 in
theorem run_any (n b : Nat) (hn : n ≤ 9) (f : Nat → FuncId) (c : Nat → Array Value) (I : Nat → World → Prop) (X : Nat → World → Prop)
    (hcell : ∀ i W, i < n → I i W → W.cell? ⟨b, i, none⟩ = some (.func (.func (f i)) #[] (c i)))
    (hent : ∀ i, i < n → Enters Try.prog (f i))
    (hstep : ∀ i W, i < n → I i W → Calls Try.prog (f i) (c i) W fun e W' => (e = .returned (.int .i64 0) ∧ I (i + 1) W') ∨ ∃ k : Nat, k ≠ 0 ∧ e = .returned (.int .i64 k) ∧ X k W')
    (w : World) (h0 : I 0 w) :
    Calls Try.prog 34 #[.slice (some ⟨b, 0, none⟩) n n] w fun e w' => (e = .returned (.int .i64 0) ∧ I n w') ∨ ∃ k : Nat, k ≠ 0 ∧ e = .returned (.int .i64 k) ∧ X k w' := by
  have HC := Lib.hid hcell
  have HS := Lib.hid hstep
  have HE := Lib.hid hent
  have H0 := Lib.hid h0
  clear hcell hstep h0 hent
  go_enter Try.func34, Try.ntmps34
  go_wp2_with fail
  go_loopw [8] (fun i wr => ∃ j : Nat, j ≤ n ∧ i = .int .i64 j ∧ Hid (I j wr)) (fun i _ => n - (intOf i).toNat)
  case atStart => exact ⟨0, Nat.zero_le _, rfl, H0⟩
  case round =>
    obtain ⟨j, hj, rfl, HI⟩ := hrel
    clear H0
    by_cases hlt : j < n
    · have p0 := HC.out j wr hlt HI.out
      have i1 : (0 : Int) ≤ (j : Int) := by omega
      have i2 : (j : Int) < (n : Int) := by omega
      have HJ := Lib.hid (HS.out j wr hlt HI.out)
      have HL := Lib.hid hlt
      have HEJ := Lib.hid (HE.out j hlt (c j) wr)
      clear HI hlt
      go_wp2_with fail
      rw [HEJ.out]
      refine Calls.mono HJ.out ?_
      rintro e w1 (⟨rfl, hI1⟩ | ⟨k, hk, rfl, hX⟩)
      · have HI1 := Lib.hid hI1
        clear hI1 HJ p0
        go_wp2_with fail
        go_roundw
        case rel => exact ⟨j + 1, by have := HL.out; omega, by go_num, HI1⟩
        case measure => have := HL.out; simp [intOf]; omega
      · have hk' : ¬ (k : Int) = 0 := by omega
        have HX := Lib.hid hX
        clear hX HJ p0
        go_wp2_with fail
        go_ret
        exact .inr ⟨k, hk, rfl, HX.out⟩
    · have hjn : j = n := by omega
      subst hjn
      go_wp2_with fail
      go_ret
      exact .inl ⟨rfl, HI.out⟩
end Go.Proofs.Ytmkijkkddoamgaa.Jo
