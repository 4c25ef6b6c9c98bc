/-
  The walk of Load.
-/
import Derived.Test.YtpohefpiidlnjaaHeadWalks5
import Derived.Test.YtpohefpiidlnjaaDiskWalks8
import Derived.Test.YtpohefpiidlnjaaDiskSlotPl
import Derived.Test.YtpohefpiidlnjaaDiskNone
namespace Go.Proofs.Ytpohefpiidlnjaa.HdW
set_option linter.unusedVariables false
open Go Go.RowKit Go.Shelf Go.Proofs Go.Proofs.Ytpohefpiidlnjaa Go.Proofs.Ytpohefpiidlnjaa.Wd Go.Proofs.Ytpohefpiidlnjaa.Dk Go.Proofs.Ytpohefpiidlnjaa.Hd

section
variable {w wa : World} {base : Nat} {F F2 : Nat → Prop} {g : Nat} {s : DS}
theorem next_set3 (hA : At wa base F2 g s) (hf : Fr F w wa) (hs : ∀ k, F2 k → F k ∨ w.heap.size ≤ k) {r : Nat} (hr : w.heap.size ≤ r) (n2 : ¬ F2 r) (a b c : Value) : Dk.Next w base F g s (((wa.setCell ⟨r, 0, none⟩ a).setCell ⟨r, 1, none⟩ b).setCell ⟨r, 2, none⟩ c) :=
  ⟨F2, hA.fr (G := fun k => k = r) (((Fr.setCell (F := fun k => k = r) (p := ⟨r, 0, none⟩) (Fr.refl (fun k => k = r) wa) (.inl rfl) a).setCell (p := ⟨r, 1, none⟩) (.inl rfl) b).setCell (p := ⟨r, 2, none⟩) (.inl rfl) c) (fun k hk e => n2 (e ▸ hk)), ((hf.setCell (p := ⟨r, 0, none⟩) (.inr hr) a).setCell (p := ⟨r, 1, none⟩) (.inr hr) b).setCell (p := ⟨r, 2, none⟩) (.inr hr) c, hs⟩
/-- What Load answers. -/
def loadR (s : DS) : H × Nat := if s.dead then (none_, 3) else if 0 < (Hd.pick (hd s 0) (hd s 1)).serial then (Hd.pick (hd s 0) (hd s 1), 0) else (none_, 50)
set_option maxRecDepth 100000 in
set_option maxHeartbeats 1000000 in
theorem load_any (h : At w base F g s) : Calls Try.prog 18 #[.pointer (some ⟨g, 0, none⟩)] w fun e w' => e = .returned (.tuple #[.agg (hv (loadR s).1), .int .i64 ((loadR s).2 : Nat)]) ∧ Dk.Next w base F g s w' := by
  have q := Blk.new_ w 24 #[.int .u64 0, .int .u64 0, .int .u8 0] rfl
  have hBx := (Below.refl w.heap.size w).alloc (Nat.le_refl _) (.cells #[.int .u64 0, .int .u64 0, .int .u8 0] 24)
  have hA1 := h.below hBx
  have hF2 : ¬ F w.heap.size := fun e => by have := (h.lt e).2; omega
  have hf1 := Fr.of_below hBx F
  have hlt := q.lt
  clear hBx h
  go_enter Try.func18, Try.ntmps18
  go_wp2_with fail
  generalize w.alloc (.cells #[.int .u64 0, .int .u64 0, .int .u8 0] 24) = w1 at *
  have hT := trunc_any hA1 0 (-1)
  cases hd0 : s.dead
  · have ht : trD s 0 (-1) = (2, s) := by unfold trD; rw [hd0]; simp
    rw [ht] at hT
    have HR0 : Hid (loadR s = if 0 < (Hd.pick (hd s 0) (hd s 1)).serial then (Hd.pick (hd s 0) (hd s 1), 0) else (none_, 50)) := Lib.hid (by unfold loadR; rw [hd0]; rfl)
    clear ht hd0
    refine Calls.mono hT ?_
    rintro e w2 ⟨rfl, F2, hA2, hf2, hs2⟩
    have q2 := q.fr hf2 hF2
    have hf12 := hf1.trans hf2 (fun i hi => .inl hi)
    have hs : ∀ k, F2 k → F k ∨ w.heap.size ≤ k := fun k hk => (hs2 k hk).imp_right (fun h => by omega)
    have n2 : ¬ F2 w.heap.size := fun e => (hs2 _ e).elim hF2 (fun h => by omega)
    clear hT hA1 hf1 hf2 hs2 hF2 q
    go_wp2_with fail
    obtain ⟨z, hz⟩ : ∃ z, z = hd s 0 := ⟨_, rfl⟩
    obtain ⟨o, ho⟩ : ∃ o, o = hd s 1 := ⟨_, rfl⟩
    rw [← hz, ← ho] at HR0
    have hH0 := head_any hA2 0
    rw [← hz] at hH0
    refine Calls.mono hH0 ?_
    rintro e w3 ⟨A0, c0, rfl, hl0, hm0, hJ0, hb3, -⟩
    have hA3 := hA2.below hb3
    have q3 := q2.below hb3 q2.lt
    have hf3 := hf12.trans (Fr.of_below hb3 F) (fun i hi => .inl hi)
    have hH1 := head_any hA3 1
    rw [← ho] at hH1
    obtain ⟨n0, hn0⟩ : ∃ n, n = z.length := ⟨_, rfl⟩
    rw [← hn0] at hl0 ⊢
    have HN0 := Lib.hid hn0
    clear hH0 hA2 q2 hf12 hb3 hz ho hn0 hlt
    go_wp2_with fail
    refine Calls.mono hH1 ?_
    rintro e w4 ⟨A1, c1, rfl, hl1, hm1, hJ1, hb4, -⟩
    have hA4 := hA3.below hb4
    have q4 := q3.below hb4 q3.lt
    have hf4 := hf3.trans (Fr.of_below hb4 F) (fun i hi => .inl hi)
    have hJ0' := hJ0.grow hb4
    obtain ⟨n1, hn1⟩ : ∃ n, n = o.length := ⟨_, rfl⟩
    rw [← hn1] at hl1 ⊢
    have hP := pick_any A0 A1 c0 c1 n0 n1 z o HN0.out hn1 hl0 hl1 hm0 hm1 w4 hJ0' hJ1
    have HN1 := Lib.hid hn1
    clear hH1 hA3 q3 hf3 hb4 hn1 hJ0 hJ0' hJ1 hm0 hm1
    obtain ⟨⟨p0, p1, p2⟩, hp⟩ : ∃ p, Hd.pick z o = p := ⟨_, rfl⟩
    rw [hp] at hP HR0
    simp only [hv] at hP
    go_wp2_with fail
    refine Calls.mono hP ?_
    rintro e w5 ⟨rfl, hb5⟩
    have hA5 := hA4.below hb5
    have q5 := q4.below hb5 q4.lt
    have hf5 := hf4.trans (Fr.of_below hb5 F) (fun i hi => .inl hi)
    have hB6 := (Below.refl w5.heap.size w5).alloc (Nat.le_refl _) (.cells #[.int .u64 (p0 : Nat), .int .u64 (p1 : Nat), .int .u8 (p2 : Nat)] 24)
    have qp := Blk.new_ w5 24 #[.int .u64 (p0 : Nat), .int .u64 (p1 : Nat), .int .u8 (p2 : Nat)] rfl
    have hA := hA5.below hB6
    have q := q5.below hB6 q5.lt
    have hf := hf5.trans (Fr.of_below hB6 F) (fun i hi => .inl hi)
    clear hA5 q5 hf5 hA4 q4 hf4 hb5 hP hB6
    go_upto_region 5 with fail
    generalize w5.alloc (.cells #[.int .u64 (p0 : Nat), .int .u64 (p1 : Nat), .int .u8 (p2 : Nat)] 24) = w6 at *
    have z0 := Blk.at_ q 0 (v := .int .u64 0) rfl
    have z1 := Blk.at_ q 1 (v := .int .u64 0) rfl
    have z2 := Blk.at_ q 2 (v := .int .u8 0) rfl
    have zf := q.frozen
    have f0 := Blk.at_ qp 0 (v := .int .u64 (p0 : Nat)) rfl
    have f1 := Blk.at_ qp 1 (v := .int .u64 (p1 : Nat)) rfl
    have f2 := Blk.at_ qp 2 (v := .int .u8 (p2 : Nat)) rfl
    by_cases hpos : 0 < p0
    · have HR : Hid (loadR s = (⟨p0, p1, p2⟩, 0)) := Lib.hid (by rw [HR0.out]; exact if_pos hpos)
      have u1 : decide (0 < p0) = true := by simpa using hpos
      simp only [u1]
      clear HR0 hpos hp u1
      go_wp2_with fail
      have q9 := ((q.set_ 0 (.int .u64 (p0 : Nat))).set_ 1 (.int .u64 (p1 : Nat))).set_ 2 (.int .u8 (p2 : Nat))
      refine bodyPost_ret (results_cell_row2 rfl _ _ w.heap.size 24 #[.int .u64 (p0 : Nat), .int .u64 (p1 : Nat), .int .u8 (p2 : Nat)] (0, 0) _ rfl q9.out Try.underlying24 rfl (by kernel_rfl)) rfl ?_
      rw [HR.out]
      exact ⟨rfl, next_set3 hA hf hs (Nat.le_refl _) n2 _ _ _⟩
    · have HR : Hid (loadR s = (none_, 50)) := Lib.hid (by rw [HR0.out]; exact if_neg hpos)
      have u1 : decide (0 < p0) = false := by simpa using hpos
      simp only [u1]
      clear HR0 hpos hp u1
      go_wp2_with fail
      have q9 := ((q.set_ 0 (.int .u64 0)).set_ 1 (.int .u64 0)).set_ 2 (.int .u8 0)
      refine bodyPost_ret (results_cell_row2 rfl _ _ w.heap.size 24 #[.int .u64 0, .int .u64 0, .int .u8 0] (0, 0) _ rfl q9.out Try.underlying24 rfl (by kernel_rfl)) rfl ?_
      rw [HR.out]
      exact ⟨rfl, next_set3 hA hf hs (Nat.le_refl _) n2 _ _ _⟩
  · have ht : trD s 0 (-1) = (3, s) := by unfold trD; rw [hd0]; simp
    rw [ht] at hT
    have HR : Hid (loadR s = (none_, 3)) := Lib.hid (by unfold loadR; rw [hd0]; rfl)
    clear ht hd0
    refine Calls.mono hT ?_
    rintro e w2 ⟨rfl, F2, hA, hf2, hs2⟩
    have q2 := q.fr hf2 hF2
    have hf := hf1.trans hf2 (fun i hi => .inl hi)
    have hs : ∀ k, F2 k → F k ∨ w.heap.size ≤ k := fun k hk => (hs2 k hk).imp_right (fun h => by omega)
    have n2 : ¬ F2 w.heap.size := fun e => (hs2 _ e).elim hF2 (fun h => by omega)
    clear hT hA1 hf1 hf2 hs2 hF2 q
    have q := q2
    have z0 := Blk.at_ q 0 (v := .int .u64 0) rfl
    have z1 := Blk.at_ q 1 (v := .int .u64 0) rfl
    have z2 := Blk.at_ q 2 (v := .int .u8 0) rfl
    have zf := q.frozen
    go_wp2_with fail
    have q9 := ((q.set_ 0 (.int .u64 0)).set_ 1 (.int .u64 0)).set_ 2 (.int .u8 0)
    refine bodyPost_ret (results_cell_row2 rfl _ _ w.heap.size 24 #[.int .u64 0, .int .u64 0, .int .u8 0] (0, 0) _ rfl q9.out Try.underlying24 rfl (by kernel_rfl)) rfl ?_
    rw [HR.out]
    exact ⟨rfl, next_set3 hA hf hs (Nat.le_refl _) n2 _ _ _⟩
end
set_option maxRecDepth 100000 in
set_option maxHeartbeats 1000000 in
theorem load_non {w : World} {o : Option Addr} (h : Non w o) : Calls Try.prog 18 #[.pointer o] w fun e w' => e = .returned (.tuple #[.agg (hv none_), .int .i64 1]) ∧ Below w.heap.size w w' := by
  have q := Blk.new_ w 24 #[.int .u64 0, .int .u64 0, .int .u8 0] rfl
  have hBx := (Below.refl w.heap.size w).alloc (Nat.le_refl _) (.cells #[.int .u64 0, .int .u64 0, .int .u8 0] 24)
  have h1 := h.below hBx
  go_enter Try.func18, Try.ntmps18
  go_wp2_with fail
  generalize w.alloc (.cells #[.int .u64 0, .int .u64 0, .int .u8 0] 24) = w1 at *
  refine Calls.mono (trunc_non h1 0 (-1)) ?_
  rintro e w2 ⟨rfl, hb⟩
  have q2 := q.below hb q.lt
  have hB := hBx.trans (hb.mono hBx.size)
  clear q hBx hb
  have q := q2
  have z0 := Blk.at_ q 0 (v := .int .u64 0) rfl
  have z1 := Blk.at_ q 1 (v := .int .u64 0) rfl
  have z2 := Blk.at_ q 2 (v := .int .u8 0) rfl
  have zf := q.frozen
  go_wp2_with fail
  have q9 := ((q.set_ 0 (.int .u64 0)).set_ 1 (.int .u64 0)).set_ 2 (.int .u8 0)
  refine bodyPost_ret (results_cell_row2 rfl _ _ w.heap.size 24 #[.int .u64 0, .int .u64 0, .int .u8 0] (0, 0) _ rfl q9.out Try.underlying24 rfl (by kernel_rfl)) rfl ?_
  exact ⟨rfl, ((hB.setCell (p := ⟨w.heap.size, 0, none⟩) (Nat.le_refl _) (.int .u64 0)).setCell (p := ⟨w.heap.size, 1, none⟩) (Nat.le_refl _) (.int .u64 0)).setCell (p := ⟨w.heap.size, 2, none⟩) (Nat.le_refl _) (.int .u8 0)⟩
end Go.Proofs.Ytpohefpiidlnjaa.HdW
