/-
  The statement BatchMixed, from its walk: every input that can be read; each argument reads as it did.
-/
import Derived.Test.YtnclbonoenjbeaaRows
import Derived.Test.YtnclbonoenjbeaaWordsArg
import Derived.Test.YtnclbonoenjbeaaBatMixedWalk
import Derived.WalkKit
import Derived.ProofKit
import Derived.OpenShut
import Derived.ShutString
import Derived.ChangeOld
import Derived.Below
import Derived.SizedLaws
import Derived.Test.YtnclbonoenjbeaaBatArg
namespace Go.Proofs.Ytnclbonoenjbeaa.batchMixedDone
open Go.ChangeShapes Go.WideShapes Go.ChangeAt Go.RowKit Go.Proofs Go.Proofs.Ytnclbonoenjbeaa Go.Proofs.Ytnclbonoenjbeaa.Wd
open Go.ChangeMaps (open_string shut_string)
set_option linter.unusedVariables false

theorem own : ownKnob Try.prog.godebug = none := by kernel_rfl
theorem laidOut : laidOutB Try.prog = true := by kernel_rfl

set_option maxRecDepth 100000 in
theorem lifted (os : Os) (started : os.Started) (H : Type) (enc : TypeId × Value → H) :
    ReturnsInHanded {} Try.checked os 5 .any (Rows.batchMixedSpec.pre6 enc Try.prog Try.f5 Rows.batchMixedRow.domain false) (Rows.batchMixedSpec.post enc Try.prog Try.f5 false true false false) := by
  refine returnsInHanded_of_change_sized (C := Try.checked) own started (by kernel_rfl) Try.func5
    (ChangeSpec.witness6 (enc := enc) (C := Try.checked) false ⟨#[], #[.slice none 0 0, .int .u16 0, .slice none 0 0], []⟩ 8 (by kernel_rfl) (by kernel_rfl) (by kernel_rfl) (by kernel_rfl)) ?_
  intro W base args ds gs before hval0 hW hcnd hsz _
  have hval : ∀ (j : Nat) t v, Try.f5.params[j]? = some t → args[j]? = some v → Value.okWide Try.prog W .any base t v := hval0
  have hW' := hW
  obtain ⟨p, q, hA0, hV, rfl, hfz, hnd⟩ := hW
  have hA : DataW.TrodAll enc Try.prog W 0 (fun _ => true) true Try.f5.params.toList args.toList ds p := hA0
  rw [Try.params5] at hA hval
  obtain ⟨v0, vs0, d0, ds0, p0, q0, hargs, rfl, rfl, h0, r0⟩ := trodAll_cons hA
  obtain ⟨v1, vs1, d1, ds1, p1, q1, rfl, rfl, rfl, h1, r1⟩ := trodAll_cons r0
  obtain ⟨v2, vs2, d2, ds2, p2, q2, rfl, rfl, rfl, h2, r2⟩ := trodAll_cons r1
  obtain ⟨rfl, rfl, rfl⟩ := trodAll_nil r2
  obtain rfl : args = #[v0, v1, v2] := by cases args; simp_all
  obtain ⟨rfl, rfl⟩ := trodVars_none hV
  have k0 := h0
  have lt0 : ∀ x ∈ p0, x.block < W.heap.size := by obtain ⟨m, hm⟩ := k0; exact DataW.trod_lt m _ _ _ hm
  obtain ⟨a0, len0, cap0, rfl⟩ := okWide_slice Try.underlying37 (hval 0 37 v0 rfl rfl)
  have s0 : (d0.weights Try.prog 37).all (· ≤ reachBytes) = true := by rw [List.all_eq_true]; exact fun n hn => List.all_eq_true.1 hsz n (DataW.weights_mem_each (j := 0) (t := 37) (d := d0) rfl rfl n hn)
  obtain ⟨l0, A0, C0, E0, lc0, cm0, B0, fit0⟩ : ∃ (l : Bat.B) (A : Option Addr) (c : Nat), Value.slice a0 len0 cap0 = .slice A l.length c ∧ l.length ≤ c ∧ c ≤ maxLen ∧ BatW.BRows W W.heap.size A l ∧ ∀ d ∈ l, d.length ≤ 140737488351232 := by obtain ⟨fuel, hf⟩ := h0; obtain ⟨l, A, c, e1, e2, e3, e4, e5⟩ := BatW.open_brows_sized (fun _ => rfl) hf; exact ⟨l, A, c, e1, e2, e3, e4, e5 s0⟩
  cases E0
  have k1 := h1
  have lt1 : ∀ x ∈ p1, x.block < W.heap.size := by obtain ⟨m, hm⟩ := k1; exact DataW.trod_lt m _ _ _ hm
  obtain ⟨a1, rfl, e1, g1, w1⟩ := open_int Try.underlying23 (hval 1 23 v1 rfl rfl) h1
  have k2 := h2
  have lt2 : ∀ x ∈ p2, x.block < W.heap.size := by obtain ⟨m, hm⟩ := k2; exact DataW.trod_lt m _ _ _ hm
  obtain ⟨a2, len2, cap2, rfl⟩ := okWide_slice Try.underlying37 (hval 2 37 v2 rfl rfl)
  have s2 : (d2.weights Try.prog 37).all (· ≤ reachBytes) = true := by rw [List.all_eq_true]; exact fun n hn => List.all_eq_true.1 hsz n (DataW.weights_mem_each (j := 2) (t := 37) (d := d2) rfl rfl n hn)
  obtain ⟨l2, A2, C2, E2, lc2, cm2, B2, fit2⟩ : ∃ (l : Bat.B) (A : Option Addr) (c : Nat), Value.slice a2 len2 cap2 = .slice A l.length c ∧ l.length ≤ c ∧ c ≤ maxLen ∧ BatW.BRows W W.heap.size A l ∧ ∀ d ∈ l, d.length ≤ 140737488351232 := by obtain ⟨fuel, hf⟩ := h2; obtain ⟨l, A, c, e1, e2, e3, e4, e5⟩ := BatW.open_brows_sized (fun _ => rfl) hf; exact ⟨l, A, c, e1, e2, e3, e4, e5 s2⟩
  cases E2
  clear hA0 hval0
  have main : Calls Try.prog 5 #[.slice a0 l0.length cap0, .int .u16 a1, .slice a2 l2.length cap2] W fun e w' => e = .returned (.bool true) ∧ Below W.heap.size W w' := by
    clear hA hargs hW' 
    obtain ⟨t, rfl, ht⟩ : ∃ t : Nat, a1 = (t : Int) ∧ t < 65536 := by have := bounds_u16 w1; exact ⟨a1.toNat, by omega, by omega⟩
    exact BatW.mixed_walk a0 a2 l0.length cap0 l2.length cap2 t ht l0 l2 rfl rfl lc0 lc2 cm0 cm2 fit0 W B0 B2
  refine main.mono fun e W' ⟨he, bel⟩ => ?_
  subst he
  exact ⟨_, rfl, _, _, _, [], _, [], hW', trodAll_mk1 (shut_bool Try.underlying4 _), (trodAll_cons_mk (Below.trod laidOut (by kernel_rfl) (of_decide_eq_true (by kernel_rfl)) k0 bel lt0) (trodAll_cons_mk (Below.trod laidOut (by kernel_rfl) (of_decide_eq_true (by kernel_rfl)) k1 bel lt1) (trodAll_cons_mk (Below.trod laidOut (by kernel_rfl) (of_decide_eq_true (by kernel_rfl)) k2 bel lt2) trodAll_mk0))), rfl, bel.frame _, fun h => by cases h⟩

theorem over : Rows.batchMixedRow.holds Try.pinned (OpenSpec.ofChange Rows.batchMixedSpec) :=
  OpenClaim.holds_of_wide 5 Try.f5 rfl rfl rfl rfl rfl rfl rfl ⟨rfl, rfl, rfl, rfl, rfl⟩ rfl rfl rfl rfl rfl (by kernel_rfl) Try.func5 (by kernel_rfl)
    (of_decide_eq_true (by kernel_rfl)) (by unfold Func.isWrapper; first | (rw [if_pos (by decide +kernel)]; kernel_rfl) | (rw [if_neg (by decide +kernel)]; exact ⟨rfl, rfl⟩))
    (fun os started H enc _ => lifted os started H enc)

theorem proved : Rows.BatchMixedSaid := over
#print axioms proved
end Go.Proofs.Ytnclbonoenjbeaa.batchMixedDone
