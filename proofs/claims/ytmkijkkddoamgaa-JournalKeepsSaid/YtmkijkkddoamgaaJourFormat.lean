/-
  The walk of Format.
-/
import Derived.Test.YtmkijkkddoamgaaJourClear
namespace Go.Proofs.Ytmkijkkddoamgaa.Jo
set_option linter.unusedVariables false
open Go Go.RowKit Go.Shelf Go.Proofs Go.Proofs.Ytmkijkkddoamgaa Go.Proofs.Ytmkijkkddoamgaa.Wd Go.Proofs.Ytmkijkkddoamgaa.Dk Go.Proofs.Ytmkijkkddoamgaa.Hd Go.Proofs.Ytmkijkkddoamgaa.HdW

theorem pick_wf (x y : List UInt8) : Wf (Hd.pick x y) := by
  rw [← best_pick]
  have hp : ∀ k b r, Wf b → Wf r.1 → Wf (pk k b r) := fun k b r hb hr => by
    unfold pk
    split
    · exact hr
    · exact hb
  exact hp _ _ _ (hp _ _ _ ⟨by decide, by decide, by decide⟩ (readR_wf _)) (readR_wf _)
theorem none_wf : Wf none_ := ⟨by decide, by decide, by decide⟩
theorem loadR_wf (s : DS) : Wf (loadR s).1 := by
  unfold loadR
  split
  · exact none_wf
  · split
    · exact pick_wf _ _
    · exact none_wf
section
variable {w : World} {base : Nat} {F : Nat → Prop} {g : Nat} {s : DS}
theorem next_saved {w1 w' : World} {F1 : Nat → Prop} {hb : Nat} {x : DS × H} (hf : Fr F w w1) (hs : ∀ k, F1 k → F k ∨ w.heap.size ≤ k) (hh : w.heap.size ≤ hb) (h : Saved w1 base F1 g hb x w') : Dk.Next w base F g x.1 w' := by
  obtain ⟨F2, k1, k2, k3, k4⟩ := h
  refine ⟨F2, k1, hf.trans k3 fun k hk => ?_, fun k hk => ?_⟩
  · rcases hk with h | h
    · exact hs k h
    · exact .inr (h ▸ hh)
  · rcases k4 k hk with h | h
    · exact hs k h
    · exact .inr (Nat.le_trans hf.size h)
set_option maxRecDepth 100000 in
set_option maxHeartbeats 1000000 in
theorem format_any (h : At w base F g s) : Calls Try.prog 24 #[.pointer (some ⟨g, 0, none⟩)] w fun e w' => e = .returned (.int .i64 ((formatD s).1 : Nat)) ∧ Dk.Next w base F g (formatD s).2 w' := by
  have HL := Lib.hid (load_any h)
  have hwf := loadR_wf s
  obtain ⟨⟨⟨r0, r1, r2⟩, c⟩, hr⟩ : ∃ x, loadR s = x := ⟨_, rfl⟩
  rw [hr] at HL hwf
  have HV : Hid (formatD s = if c ≠ 0 ∧ c ≠ 50 then (c, s) else ((clearD s ⟨r0, 0, 0⟩ 0 0 1 0).1, (clearD s ⟨r0, 0, 0⟩ 0 0 1 0).2.1)) := Lib.hid (by unfold formatD; rw [hr])
  have HW : Hid (r0 < 18446744073709551616) := Lib.hid hwf.serial
  have HF : Hid (∀ k, F k → k < w.heap.size) := Lib.hid fun k hk => (h.lt hk).2
  simp only [hv] at HL
  clear hwf hr h
  go_enter Try.func24, Try.ntmps24
  go_wp2_with fail
  refine Calls.mono HL.out ?_
  rintro e w1 ⟨rfl, F1, hA1, hf1, hs1⟩
  have HA1 := Lib.hid hA1
  have HF1 := Lib.hid hf1
  have HS1 := Lib.hid hs1
  clear hA1 hf1 hs1 HL
  go_upto_region 2 with fail
  have hB2 := (Below.refl w1.heap.size w1).alloc (Nat.le_refl _) (.cells #[.int .u64 (r0 : Nat), .int .u64 0, .int .u8 0] 35)
  have qh := Blk.new_ w1 35 #[.int .u64 (r0 : Nat), .int .u64 0, .int .u8 0] rfl
  have hB0 := (Below.refl w1.heap.size w1).alloc (Nat.le_refl _) (.cells #[.int .u64 (r0 : Nat), .int .u64 (r1 : Nat), .int .u8 (r2 : Nat)] 35)
  have HB0 := Lib.hid hB0
  have HB2 := Lib.hid hB2
  have HQ := Lib.hid qh
  clear hB2 qh hB0
  by_cases hc : c ≠ 0 ∧ c ≠ 50
  · have HR : Hid (formatD s = (c, s)) := Lib.hid (by rw [HV.out, if_pos hc])
    have u1 : ((c : Int) != 0) = true := by rw [bne_iff_ne]; omega
    have u2 : ((c : Int) != 50) = true := by rw [bne_iff_ne]; omega
    clear hc HV
    go_wp2_with fail
    go_ret
    rw [HR.out]
    exact ⟨rfl, F1, HA1.out.below HB0.out, HF1.out.trans (Fr.of_below HB0.out F) (fun _ h => .inl h), HS1.out⟩
  · have HR : Hid (formatD s = ((clearD s ⟨r0, 0, 0⟩ 0 0 1 0).1, (clearD s ⟨r0, 0, 0⟩ 0 0 1 0).2.1)) := Lib.hid (by rw [HV.out, if_neg hc])
    have hc' : c = 0 ∨ c = 50 := by omega
    clear hc HV
    rcases hc' with rfl | rfl
    all_goals (
      go_upto_region 5 with fail
      have hA2 := HA1.out.below HB2.out
      have qh := HQ.out
      have hf2 := HF1.out.trans (Fr.of_below HB2.out F) (fun _ h => .inl h)
      have hlo : Hid (∀ k, F1 k → k < w1.heap.size) := Lib.hid fun k hk => (HA1.out.lt hk).2
      have hsz : w.heap.size ≤ w1.heap.size := HF1.out.size
      clear HB0 HB2 HQ HF1 HA1
      generalize w1.alloc (.cells #[.int .u64 (r0 : Nat), .int .u64 0, .int .u8 0] 35) = w2 at *
      generalize w1.heap.size = hb at *
      have hbl := qh.lt
      go_wp2_with fail
      refine Calls.mono (shorten_any g 0 0 w2) ?_
      rintro e w3 ⟨rfl, hB3, sz3, qa1, qa2, qa3⟩
      go_wp2_with fail
      refine Calls.mono (shorten_any g 1 0 w3) ?_
      rintro e w4 ⟨rfl, hB4, sz4, qb1, qb2, qb3⟩
      go_wp2_with fail
      refine Calls.mono (save_makes g hb w4) ?_
      rintro e w5 ⟨rfl, hB5, sz5, qc1, qc2⟩
      go_wp2_with fail
      rw [sz3] at qb1 qb2 qb3 sz4
      rw [sz4] at qc1 qc2 sz5
      refine Calls.mono (clear_made hA2 (y := ⟨r0, 0, 0⟩) ⟨HW.out, show (0 : Nat) < 18446744073709551616 by decide, show (0 : Nat) < 256 by decide⟩ qh (fun e => absurd (hlo.out _ e) (Nat.lt_irrefl _)) hB3 hB4 hB5 qa1 qa2 qa3 qb1 qb2 qb3 qc1 qc2 (by omega) (by rw [sz5])) ?_
      rintro e w6 ⟨rfl, hS⟩
      have HN := Lib.hid (next_saved hf2 HS1.out hsz hS)
      clear hS qa1 qa2 qa3 qb1 qb2 qb3 qc1 qc2 hB3 hB4 hB5 sz3 sz4 sz5
      obtain ⟨⟨d, s9, y9⟩, hd⟩ : ∃ x, clearD s ⟨r0, 0, 0⟩ 0 0 1 0 = x := ⟨_, rfl⟩
      rw [hd] at HR HN ⊢
      clear hd
      dsimp only
      go_wp2_with fail
      go_ret
      rw [HR.out]
      exact ⟨rfl, HN.out⟩)
end
end Go.Proofs.Ytmkijkkddoamgaa.Jo
