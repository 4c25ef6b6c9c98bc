/-
  The walk of Truncate.
-/
import Derived.Test.YtpohefpiidlnjaaDiskWalks6
namespace Go.Proofs.Ytpohefpiidlnjaa.Dk
set_option linter.unusedVariables false
open Go Go.RowKit Go.Shelf Go.Proofs Go.Proofs.Ytpohefpiidlnjaa Go.Proofs.Ytpohefpiidlnjaa.Wd

def truncD (k n : Nat) (s : DS) : DS := { s with all := upd s.all k ((s.all k).take n), safe := upd s.safe k (min (s.safe k) n) }
theorem truncD_ok {s : DS} (h : Ok s) {k n : Nat} (hk : k < 2) (hn : n ≤ (s.all k).length) : Ok (truncD k n s) := by
  unfold truncD
  refine ⟨h.cap, ?_, fun i hi => ?_, h.sl, h.lo, h.fuse⟩
  · show (upd s.all k ((s.all k).take n) 0).length + (upd s.all k ((s.all k).take n) 1).length ≤ s.cap
    have := h.room
    rcases (by omega : k = 0 ∨ k = 1) with rfl | rfl
    · rw [upd_eq, upd_ne (by decide), List.length_take]; omega
    · rw [upd_eq, upd_ne (by decide), List.length_take]; omega
  · show upd s.safe k (min (s.safe k) n) i ≤ (upd s.all k ((s.all k).take n) i).length
    by_cases e : i = k
    · subst e; rw [upd_eq, upd_eq, List.length_take]; omega
    · rw [upd_ne e, upd_ne e]; exact h.safe i hi
section
variable {base : Nat} {F : Nat → Prop} {g : Nat} {s : DS}
set_option maxRecDepth 100000 in
set_option maxHeartbeats 1000000 in
theorem do_trunc {w : World} (h : At w base F g s) {k n : Nat} (hk : k < 2) (hn : n ≤ (s.all k).length) {B5 B8 : Nat} (q8 : Blk w B8 90 #[.pointer (some ⟨g, 2 + k * 2, none⟩)]) (q5 : Blk w B5 3 #[.int .i64 n]) :
    Calls Try.prog 57 #[.pointer (some ⟨B8, 0, none⟩), .pointer (some ⟨B5, 0, none⟩)] w fun e w' => (∃ v, e = .returned v) ∧ Next w base F g (truncD k n s) w' := by
  obtain ⟨cs, v, vf, R, fb, h⟩ := h
  obtain ⟨A0, k0, e0, l0, m0, b0⟩ := h.form hk
  have cg := h.cell (h.cells.seg k hk)
  have csf := h.cell (h.cells.safe k hk)
  have hrow := h.row k hk
  rw [e0] at cg hrow
  have h2 := h.below ((Below.refl _ w).drew)
  have hrow2 := h2.row k hk
  rw [e0] at hrow2
  have hsf := h.ok.safe k hk
  have hle : (s.all k).length ≤ 1048576 := by have := h.ok.room; have := h.ok.cap; rcases (by omega : k = 0 ∨ k = 1) with rfl | rfl <;> omega
  obtain ⟨m, hm⟩ : ∃ m, m = min (s.safe k) n := ⟨_, rfl⟩
  have HN : Hid (Next w base F g (truncD k n s) ((w.drew.setCell ⟨g, 2 + k * 2, none⟩ (.slice A0 n n)).setCell ⟨g, 2 + k * 2 + 1, none⟩ (.int .i64 m))) := Lib.hid
    ⟨F, ⟨_, _, _, _, _, by rw [hm]; exact h2.row_set2 hk (hrow2.cut hn) _ (truncD_ok h.ok hk hn)⟩, Fr.setCell (p := ⟨g, 2 + k * 2 + 1, none⟩) (Fr.setCell (p := ⟨g, 2 + k * 2, none⟩) ((Fr.refl _ _).drew) (.inl h.fg) _) (.inl h.fg) _, fun _ h => .inl h⟩
  have hb8 : B8 ≠ g := Blk.ne_ q8 h.blk (by decide)
  have hb5 : B5 ≠ g := Blk.ne_ q5 h.blk (by decide)
  have d8 := Blk.at_ q8 0 (v := .pointer (some ⟨g, 2 + k * 2, none⟩)) rfl
  have d5 := Blk.at_ q5 0 (v := .int .i64 (n : Int)) rfl
  have HFZ1 : Hid (w.drew.frozen? ⟨g, 2 + k * 2, none⟩ = false) := Lib.hid (h2.blk.frozen _)
  have HFZW : Hid (w.frozen? ⟨g, 2 + k * 2 + 1, none⟩ = false) := Lib.hid (h2.blk.frozen _)
  have HFZ0 : Hid (w.drew.frozen? ⟨g, 2 + k * 2 + 1, none⟩ = false) := Lib.hid (h2.blk.frozen _)
  have HFZ2 : Hid ((w.drew.setCell ⟨g, 2 + k * 2, none⟩ (.slice A0 n n)).frozen? ⟨g, 2 + k * 2 + 1, none⟩ = false) := Lib.hid ((h2.blk.set_ _ _).frozen _)
  have HC20 : Hid ((w.drew.setCell ⟨g, 2 + k * 2, none⟩ (.slice A0 n n)).cell? ⟨g, 2 + k * 2 + 1, none⟩ = some (.int .i64 (s.safe k))) := Lib.hid ((World.cell?_setCell_other _ ⟨g, 2 + k * 2, none⟩ ⟨g, 2 + k * 2 + 1, none⟩ _ (by intro e; injection e with e1 e2; omega)).trans csf)
  have x8 : ∀ (W : World) (o : Nat) (u : Value), (W.setCell ⟨g, o, none⟩ u).cell? ⟨B8, 0, none⟩ = W.cell? ⟨B8, 0, none⟩ := fun W o u => World.cell?_setCell_other _ ⟨g, o, none⟩ ⟨B8, 0, none⟩ _ (by intro e; injection e with e1; exact hb8 e1.symm)
  have x5 : ∀ (W : World) (o : Nat) (u : Value), (W.setCell ⟨g, o, none⟩ u).cell? ⟨B5, 0, none⟩ = W.cell? ⟨B5, 0, none⟩ := fun W o u => World.cell?_setCell_other _ ⟨g, o, none⟩ ⟨B5, 0, none⟩ _ (by intro e; injection e with e1; exact hb5 e1.symm)
  obtain ⟨ln, hln⟩ : ∃ ln, ln = (s.all k).length := ⟨_, rfl⟩
  rw [← hln] at cg hn l0
  obtain ⟨sf, hsf2⟩ : ∃ sf, sf = s.safe k := ⟨_, rfl⟩
  rw [← hsf2] at csf HC20 hm
  have hSB : (w.drew.setCell ⟨g, 2 + k * 2, none⟩ (.slice A0 n n)).cell? ⟨B8, 0, none⟩ = some (.pointer (some ⟨g, 2 + k * 2, none⟩)) ∧ (w.drew.setCell ⟨g, 2 + k * 2, none⟩ (.slice A0 n n)).cell? ⟨B5, 0, none⟩ = some (.int .i64 (n : Int)) ∧ (true = false → (w.drew.setCell ⟨g, 2 + k * 2, none⟩ (.slice A0 n n)).cell? ⟨g, 2 + k * 2, none⟩ = some (.slice A0 ln k0)) ∧ (false = false → (w.drew.setCell ⟨g, 2 + k * 2, none⟩ (.slice A0 n n)).cell? ⟨g, 2 + k * 2 + 1, none⟩ = some (.int .i64 sf)) := ⟨(x8 _ _ _).trans d8, (x5 _ _ _).trans d5, (fun e => by cases e), fun _ => HC20.out⟩
  have HSB := Lib.hid hSB
  have HSC : Hid (((w.drew.setCell ⟨g, 2 + k * 2, none⟩ (.slice A0 n n)).setCell ⟨g, 2 + k * 2 + 1, none⟩ (.int .i64 m)).cell? ⟨B8, 0, none⟩ = some (.pointer (some ⟨g, 2 + k * 2, none⟩)) ∧ ((w.drew.setCell ⟨g, 2 + k * 2, none⟩ (.slice A0 n n)).setCell ⟨g, 2 + k * 2 + 1, none⟩ (.int .i64 m)).cell? ⟨B5, 0, none⟩ = some (.int .i64 (n : Int)) ∧ (true = false → ((w.drew.setCell ⟨g, 2 + k * 2, none⟩ (.slice A0 n n)).setCell ⟨g, 2 + k * 2 + 1, none⟩ (.int .i64 m)).cell? ⟨g, 2 + k * 2, none⟩ = some (.slice A0 ln k0)) ∧ (true = false → ((w.drew.setCell ⟨g, 2 + k * 2, none⟩ (.slice A0 n n)).setCell ⟨g, 2 + k * 2 + 1, none⟩ (.int .i64 m)).cell? ⟨g, 2 + k * 2 + 1, none⟩ = some (.int .i64 sf))) := Lib.hid ⟨(x8 _ _ _).trans hSB.1, (x5 _ _ _).trans hSB.2.1, (fun e => by cases e), (fun e => by cases e)⟩
  have i0 : (0 : Int) ≤ (n : Int) := by omega
  have i1 : (n : Int) ≤ (k0 : Int) := by omega
  clear h h2 hrow hrow2 q8 q5 e0 m0 b0 x8 x5 hSB
  have HX : Hid (n ≤ ln) := Lib.hid hn
  clear hln hsf2 hsf hle
  by_cases hlt : n < sf
  · obtain rfl : m = n := by omega
    have u1 : m < sf := hlt
    clear hm hlt l0 hn
    go_enter Try.func57, Try.ntmps57
    refine wp_region_heldG [17, 20] (fun st W => W.cell? ⟨B8, 0, none⟩ = some (.pointer (some ⟨g, 2 + k * 2, none⟩)) ∧ W.cell? ⟨B5, 0, none⟩ = some (.int .i64 (m : Int)) ∧ (st 17 = false → W.cell? ⟨g, 2 + k * 2, none⟩ = some (.slice A0 ln k0)) ∧ (st 20 = false → W.cell? ⟨g, 2 + k * 2 + 1, none⟩ = some (.int .i64 sf))) (by kernel_rfl) ?_
    change wpAnyG _ _ _ _ _ _ 21 _ _ (World.drew _)
    have hS : w.drew.cell? ⟨B8, 0, none⟩ = some (.pointer (some ⟨g, 2 + k * 2, none⟩)) ∧ w.drew.cell? ⟨B5, 0, none⟩ = some (.int .i64 (m : Int)) ∧ (came [17, 20] (Array.replicate 21 false) 17 = false → w.drew.cell? ⟨g, 2 + k * 2, none⟩ = some (.slice A0 ln k0)) ∧ (came [17, 20] (Array.replicate 21 false) 20 = false → w.drew.cell? ⟨g, 2 + k * 2 + 1, none⟩ = some (.int .i64 sf)) := ⟨d8, d5, fun _ => cg, fun _ => csf⟩
    -- take0 take1 take2 take3 take4 take5 take6 take7 take8 take9 take10 take11 take12 take13 take15 take16 SEVERAL14 one17 take18 take19 one20 done
    refine g_take (i := 0) rfl rfl (by kernel_rfl) (by kernel_rfl) (by kernel_rfl) (by kernel_rfl) (by kernel_rfl) (fun _ _ _ h => h) hS (fun L W hL hW => by have q1 := hW.1; have q2 := hW.2.1; go_simp; rfl) ?_
    refine g_take (i := 1) rfl rfl (by kernel_rfl) (by kernel_rfl) (by kernel_rfl) (by kernel_rfl) (by kernel_rfl) (fun _ _ _ h => h) hS (fun L W hL hW => by have q1 := hW.1; have q2 := hW.2.1; go_simp; rfl) ?_
    refine g_take (i := 2) rfl rfl (by kernel_rfl) (by kernel_rfl) (by kernel_rfl) (by kernel_rfl) (by kernel_rfl) (fun _ _ _ h => h) hS (fun L W hL hW => by have q1 := hW.1; have q2 := hW.2.1; go_simp; rfl) ?_
    refine g_take (i := 3) rfl rfl (by kernel_rfl) (by kernel_rfl) (by kernel_rfl) (by kernel_rfl) (by kernel_rfl) (fun _ _ _ h => h) hS (fun L W hL hW => by go_simp; rfl) ?_
    refine g_take (i := 4) rfl rfl (by kernel_rfl) (by kernel_rfl) (by kernel_rfl) (by kernel_rfl) (by kernel_rfl) (fun _ _ _ h => h) hS (fun L W hL hW => by go_simp; rfl) ?_
    refine g_take (i := 5) rfl rfl (by kernel_rfl) (by kernel_rfl) (by kernel_rfl) (by kernel_rfl) (by kernel_rfl) (fun _ _ _ h => h) hS (fun L W hL hW => by have q1 := hW.1; have q2 := hW.2.1; have q3 := hW.2.2.1 (by simp [came, hL 17 (by kernel_rfl)]); go_simp; rfl) ?_
    refine g_take (i := 6) rfl rfl (by kernel_rfl) (by kernel_rfl) (by kernel_rfl) (by kernel_rfl) (by kernel_rfl) (fun _ _ _ h => h) hS (fun L W hL hW => by have q1 := hW.1; have q2 := hW.2.1; go_simp; rfl) ?_
    refine g_take (i := 7) rfl rfl (by kernel_rfl) (by kernel_rfl) (by kernel_rfl) (by kernel_rfl) (by kernel_rfl) (fun _ _ _ h => h) hS (fun L W hL hW => by have q1 := hW.1; have q2 := hW.2.1; go_simp; rfl) ?_
    refine g_take (i := 8) rfl rfl (by kernel_rfl) (by kernel_rfl) (by kernel_rfl) (by kernel_rfl) (by kernel_rfl) (fun _ _ _ h => h) hS (fun L W hL hW => by go_simp; rfl) ?_
    refine g_take (i := 9) rfl rfl (by kernel_rfl) (by kernel_rfl) (by kernel_rfl) (by kernel_rfl) (by kernel_rfl) (fun _ _ _ h => h) hS (fun L W hL hW => by have q1 := hW.1; have q2 := hW.2.1; go_simp; rfl) ?_
    refine g_take (i := 10) rfl rfl (by kernel_rfl) (by kernel_rfl) (by kernel_rfl) (by kernel_rfl) (by kernel_rfl) (fun _ _ _ h => h) hS (fun L W hL hW => by go_simp; rfl) ?_
    refine g_take (i := 11) rfl rfl (by kernel_rfl) (by kernel_rfl) (by kernel_rfl) (by kernel_rfl) (by kernel_rfl) (fun _ _ _ h => h) hS (fun L W hL hW => by go_simp; rfl) ?_
    refine g_take (i := 12) rfl rfl (by kernel_rfl) (by kernel_rfl) (by kernel_rfl) (by kernel_rfl) (by kernel_rfl) (fun _ _ _ h => h) hS (fun L W hL hW => by have q1 := hW.1; have q2 := hW.2.1; have q4 := hW.2.2.2 (by simp [came, hL 20 (by kernel_rfl)]); go_simp; rfl) ?_
    refine g_take (i := 13) rfl rfl (by kernel_rfl) (by kernel_rfl) (by kernel_rfl) (by kernel_rfl) (by kernel_rfl) (fun _ _ _ h => h) hS (fun L W hL hW => by have q1 := hW.1; have q2 := hW.2.1; go_simp; rfl) ?_
    refine g_take (i := 15) rfl rfl (by kernel_rfl) (by kernel_rfl) (by kernel_rfl) (by kernel_rfl) (by kernel_rfl) (fun _ _ _ h => h) hS (fun L W hL hW => by go_simp; rfl) ?_
    refine g_take (i := 16) rfl rfl (by kernel_rfl) (by kernel_rfl) (by kernel_rfl) (by kernel_rfl) (by kernel_rfl) (fun _ _ _ h => h) hS (fun L W hL hW => by go_simp; rfl) ?_
    refine g_two (i := 14) (j := 17) (by kernel_rfl) rfl rfl rfl rfl (fun K hK => ?_) (fun K hK => ?_)
    · go_simp
      refine hK _ _ hS ?_
      clear hK K
      refine g_one (i := 17) rfl rfl (by kernel_rfl) fun K hK => ?_
      have cg' := cg
      have fz := HFZ1.out
      go_simp
      refine hK _ _ HSB.out ?_
      clear hK K
      refine g_take (i := 18) rfl rfl (by kernel_rfl) (by kernel_rfl) (by kernel_rfl) (by kernel_rfl) (by kernel_rfl) (fun _ _ _ h => h) HSB.out (fun L W hL hW => by go_simp; rfl) ?_
      refine g_take (i := 19) rfl rfl (by kernel_rfl) (by kernel_rfl) (by kernel_rfl) (by kernel_rfl) (by kernel_rfl) (fun _ _ _ h => h) HSB.out (fun L W hL hW => by go_simp; rfl) ?_
      refine g_one (i := 20) rfl rfl (by kernel_rfl) fun K hK => ?_
      have c20 := HC20.out
      have fz := HFZ2.out
      have fz0 := HFZ0.out
      have fzw := HFZW.out
      go_simp
      refine hK _ _ HSC.out ?_
      clear hK K
      refine wpAnyG_done (by kernel_rfl) ?_ _
      go_end0
      exact ⟨⟨_, rfl⟩, HN.out⟩
    · have cg' := cg
      have fz := HFZ1.out
      go_simp
      refine hK _ _ HSB.out ?_
      clear hK K
      refine g_one (i := 14) rfl rfl (by kernel_rfl) fun K hK => ?_
      go_simp
      refine hK _ _ HSB.out ?_
      clear hK K
      refine g_take (i := 18) rfl rfl (by kernel_rfl) (by kernel_rfl) (by kernel_rfl) (by kernel_rfl) (by kernel_rfl) (fun _ _ _ h => h) HSB.out (fun L W hL hW => by go_simp; rfl) ?_
      refine g_take (i := 19) rfl rfl (by kernel_rfl) (by kernel_rfl) (by kernel_rfl) (by kernel_rfl) (by kernel_rfl) (fun _ _ _ h => h) HSB.out (fun L W hL hW => by go_simp; rfl) ?_
      refine g_one (i := 20) rfl rfl (by kernel_rfl) fun K hK => ?_
      have c20 := HC20.out
      have fz := HFZ2.out
      have fz0 := HFZ0.out
      have fzw := HFZW.out
      go_simp
      refine hK _ _ HSC.out ?_
      clear hK K
      refine wpAnyG_done (by kernel_rfl) ?_ _
      go_end0
      exact ⟨⟨_, rfl⟩, HN.out⟩
  · obtain rfl : m = sf := by omega
    have u1 : ¬ n < m := hlt
    clear hm hlt l0 hn
    go_enter Try.func57, Try.ntmps57
    refine wp_region_heldG [17, 20] (fun st W => W.cell? ⟨B8, 0, none⟩ = some (.pointer (some ⟨g, 2 + k * 2, none⟩)) ∧ W.cell? ⟨B5, 0, none⟩ = some (.int .i64 (n : Int)) ∧ (st 17 = false → W.cell? ⟨g, 2 + k * 2, none⟩ = some (.slice A0 ln k0)) ∧ (st 20 = false → W.cell? ⟨g, 2 + k * 2 + 1, none⟩ = some (.int .i64 m))) (by kernel_rfl) ?_
    change wpAnyG _ _ _ _ _ _ 21 _ _ (World.drew _)
    have hS : w.drew.cell? ⟨B8, 0, none⟩ = some (.pointer (some ⟨g, 2 + k * 2, none⟩)) ∧ w.drew.cell? ⟨B5, 0, none⟩ = some (.int .i64 (n : Int)) ∧ (came [17, 20] (Array.replicate 21 false) 17 = false → w.drew.cell? ⟨g, 2 + k * 2, none⟩ = some (.slice A0 ln k0)) ∧ (came [17, 20] (Array.replicate 21 false) 20 = false → w.drew.cell? ⟨g, 2 + k * 2 + 1, none⟩ = some (.int .i64 m)) := ⟨d8, d5, fun _ => cg, fun _ => csf⟩
    -- take0 take1 take2 take3 take4 take5 take6 take7 take8 take9 take10 take11 take12 take13 take15 take16 SEVERAL14 one17 take18 take19 one20 done
    refine g_take (i := 0) rfl rfl (by kernel_rfl) (by kernel_rfl) (by kernel_rfl) (by kernel_rfl) (by kernel_rfl) (fun _ _ _ h => h) hS (fun L W hL hW => by have q1 := hW.1; have q2 := hW.2.1; go_simp; rfl) ?_
    refine g_take (i := 1) rfl rfl (by kernel_rfl) (by kernel_rfl) (by kernel_rfl) (by kernel_rfl) (by kernel_rfl) (fun _ _ _ h => h) hS (fun L W hL hW => by have q1 := hW.1; have q2 := hW.2.1; go_simp; rfl) ?_
    refine g_take (i := 2) rfl rfl (by kernel_rfl) (by kernel_rfl) (by kernel_rfl) (by kernel_rfl) (by kernel_rfl) (fun _ _ _ h => h) hS (fun L W hL hW => by have q1 := hW.1; have q2 := hW.2.1; go_simp; rfl) ?_
    refine g_take (i := 3) rfl rfl (by kernel_rfl) (by kernel_rfl) (by kernel_rfl) (by kernel_rfl) (by kernel_rfl) (fun _ _ _ h => h) hS (fun L W hL hW => by go_simp; rfl) ?_
    refine g_take (i := 4) rfl rfl (by kernel_rfl) (by kernel_rfl) (by kernel_rfl) (by kernel_rfl) (by kernel_rfl) (fun _ _ _ h => h) hS (fun L W hL hW => by go_simp; rfl) ?_
    refine g_take (i := 5) rfl rfl (by kernel_rfl) (by kernel_rfl) (by kernel_rfl) (by kernel_rfl) (by kernel_rfl) (fun _ _ _ h => h) hS (fun L W hL hW => by have q1 := hW.1; have q2 := hW.2.1; have q3 := hW.2.2.1 (by simp [came, hL 17 (by kernel_rfl)]); go_simp; rfl) ?_
    refine g_take (i := 6) rfl rfl (by kernel_rfl) (by kernel_rfl) (by kernel_rfl) (by kernel_rfl) (by kernel_rfl) (fun _ _ _ h => h) hS (fun L W hL hW => by have q1 := hW.1; have q2 := hW.2.1; go_simp; rfl) ?_
    refine g_take (i := 7) rfl rfl (by kernel_rfl) (by kernel_rfl) (by kernel_rfl) (by kernel_rfl) (by kernel_rfl) (fun _ _ _ h => h) hS (fun L W hL hW => by have q1 := hW.1; have q2 := hW.2.1; go_simp; rfl) ?_
    refine g_take (i := 8) rfl rfl (by kernel_rfl) (by kernel_rfl) (by kernel_rfl) (by kernel_rfl) (by kernel_rfl) (fun _ _ _ h => h) hS (fun L W hL hW => by go_simp; rfl) ?_
    refine g_take (i := 9) rfl rfl (by kernel_rfl) (by kernel_rfl) (by kernel_rfl) (by kernel_rfl) (by kernel_rfl) (fun _ _ _ h => h) hS (fun L W hL hW => by have q1 := hW.1; have q2 := hW.2.1; go_simp; rfl) ?_
    refine g_take (i := 10) rfl rfl (by kernel_rfl) (by kernel_rfl) (by kernel_rfl) (by kernel_rfl) (by kernel_rfl) (fun _ _ _ h => h) hS (fun L W hL hW => by go_simp; rfl) ?_
    refine g_take (i := 11) rfl rfl (by kernel_rfl) (by kernel_rfl) (by kernel_rfl) (by kernel_rfl) (by kernel_rfl) (fun _ _ _ h => h) hS (fun L W hL hW => by go_simp; rfl) ?_
    refine g_take (i := 12) rfl rfl (by kernel_rfl) (by kernel_rfl) (by kernel_rfl) (by kernel_rfl) (by kernel_rfl) (fun _ _ _ h => h) hS (fun L W hL hW => by have q1 := hW.1; have q2 := hW.2.1; have q4 := hW.2.2.2 (by simp [came, hL 20 (by kernel_rfl)]); go_simp; rfl) ?_
    refine g_take (i := 13) rfl rfl (by kernel_rfl) (by kernel_rfl) (by kernel_rfl) (by kernel_rfl) (by kernel_rfl) (fun _ _ _ h => h) hS (fun L W hL hW => by have q1 := hW.1; have q2 := hW.2.1; go_simp; rfl) ?_
    refine g_take (i := 15) rfl rfl (by kernel_rfl) (by kernel_rfl) (by kernel_rfl) (by kernel_rfl) (by kernel_rfl) (fun _ _ _ h => h) hS (fun L W hL hW => by go_simp; rfl) ?_
    refine g_take (i := 16) rfl rfl (by kernel_rfl) (by kernel_rfl) (by kernel_rfl) (by kernel_rfl) (by kernel_rfl) (fun _ _ _ h => h) hS (fun L W hL hW => by go_simp; rfl) ?_
    refine g_two (i := 14) (j := 17) (by kernel_rfl) rfl rfl rfl rfl (fun K hK => ?_) (fun K hK => ?_)
    · go_simp
      refine hK _ _ hS ?_
      clear hK K
      refine g_one (i := 17) rfl rfl (by kernel_rfl) fun K hK => ?_
      have cg' := cg
      have fz := HFZ1.out
      go_simp
      refine hK _ _ HSB.out ?_
      clear hK K
      refine g_take (i := 18) rfl rfl (by kernel_rfl) (by kernel_rfl) (by kernel_rfl) (by kernel_rfl) (by kernel_rfl) (fun _ _ _ h => h) HSB.out (fun L W hL hW => by go_simp; rfl) ?_
      refine g_take (i := 19) rfl rfl (by kernel_rfl) (by kernel_rfl) (by kernel_rfl) (by kernel_rfl) (by kernel_rfl) (fun _ _ _ h => h) HSB.out (fun L W hL hW => by go_simp; rfl) ?_
      refine g_one (i := 20) rfl rfl (by kernel_rfl) fun K hK => ?_
      have c20 := HC20.out
      have fz := HFZ2.out
      have fz0 := HFZ0.out
      have fzw := HFZW.out
      go_simp
      refine hK _ _ HSC.out ?_
      clear hK K
      refine wpAnyG_done (by kernel_rfl) ?_ _
      go_end0
      exact ⟨⟨_, rfl⟩, HN.out⟩
    · have cg' := cg
      have fz := HFZ1.out
      go_simp
      refine hK _ _ HSB.out ?_
      clear hK K
      refine g_one (i := 14) rfl rfl (by kernel_rfl) fun K hK => ?_
      go_simp
      refine hK _ _ HSB.out ?_
      clear hK K
      refine g_take (i := 18) rfl rfl (by kernel_rfl) (by kernel_rfl) (by kernel_rfl) (by kernel_rfl) (by kernel_rfl) (fun _ _ _ h => h) HSB.out (fun L W hL hW => by go_simp; rfl) ?_
      refine g_take (i := 19) rfl rfl (by kernel_rfl) (by kernel_rfl) (by kernel_rfl) (by kernel_rfl) (by kernel_rfl) (fun _ _ _ h => h) HSB.out (fun L W hL hW => by go_simp; rfl) ?_
      refine g_one (i := 20) rfl rfl (by kernel_rfl) fun K hK => ?_
      have c20 := HC20.out
      have fz := HFZ2.out
      have fz0 := HFZ0.out
      have fzw := HFZW.out
      go_simp
      refine hK _ _ HSC.out ?_
      clear hK K
      refine wpAnyG_done (by kernel_rfl) ?_ _
      go_end0
      exact ⟨⟨_, rfl⟩, HN.out⟩
/-- What Truncate answers, and makes of a disk. -/
def trD (s : DS) (i n : Int) : Nat × DS :=
  if s.dead then (3, s) else if (decide (i = 0) || decide (i = 1)) = false ∨ n < 0 ∨ ((s.all i.toNat).length : Int) < n then (2, s) else after s (truncD i.toNat n.toNat) (fun _ s => s)
set_option maxRecDepth 100000 in
set_option maxHeartbeats 1000000 in
theorem trunc_any {w : World} (h : At w base F g s) (i n : Int) :
    Calls Try.prog 43 #[.pointer (some ⟨g, 0, none⟩), .int .i64 i, .int .i64 n] w fun e w' => e = .returned (.int .i64 ((trD s i n).1 : Nat)) ∧ Next w base F g (trD s i n).2 w' := by
  have HA0 := Lib.hid h
  have hz5 := Blk.new_ w 3 #[.int .i64 n] rfl
  have hB := (Below.refl w.heap.size w).alloc (Nat.le_refl _) (.cells #[.int .i64 n] 3)
  have hsz : (w.alloc (.cells #[.int .i64 n] 3)).heap.size = w.heap.size + 1 := by simp
  clear h
  go_enter Try.func43, Try.ntmps43
  go_wp2_with fail
  have hA := HA0.out.below hB
  refine Calls.mono (why_any hA) ?_
  rintro e w1 ⟨rfl, rfl⟩
  generalize w.alloc (.cells #[.int .i64 n] 3) = w1 at *
  have HSZ := Lib.hid hsz
  clear hsz
  have HNX0 : Hid (Next w base F g s w1) := Lib.hid ⟨F, hA, Fr.of_below hB F, fun _ h => .inl h⟩
  cases hd : s.dead
  rotate_left
  · have HR : Hid (trD s i n = (3, s)) := Lib.hid (by unfold trD; rw [if_pos hd])
    simp only [if_true]
    clear hA hB hz5 hd
    go_wp2_with fail
    go_ret
    rw [HR.out]
    exact ⟨rfl, HNX0.out⟩
  simp only [Bool.false_eq_true, if_false]
  have d5 := Blk.at_ hz5 0 (v := .int .i64 n) rfl
  have HT : Hid (trD s i n = if (decide (i = 0) || decide (i = 1)) = false ∨ n < 0 ∨ ((s.all i.toNat).length : Int) < n then (2, s) else after s (truncD i.toNat n.toNat) (fun _ s => s)) := Lib.hid (by unfold trD; rw [if_neg (by rw [hd]; simp)])
  go_upto_region 4 with fail
  go_cut [15] (fun v wx => v = .bool (decide ((decide (i = 0) || decide (i = 1)) = false ∨ n < 0 ∨ ((s.all i.toNat).length : Int) < n)) ∧ wx = w1.drew)
  case first =>
    rcases among_cases i with ⟨k, rfl, hk⟩ | hno
    · have hyes := among_yes hk
      obtain ⟨cs, v, vf, R, fb, h⟩ := hA
      obtain ⟨A0, k0, e0, l0, m0, b0⟩ := h.form hk
      have cg := h.cell (h.cells.seg k hk)
      rw [e0] at cg
      clear h e0 l0 m0 b0
      have j1 : (0 : Int) ≤ (k : Int) := by omega
      have j2 : (k : Int) < 2 := by omega
      have HTN : Hid (((k : Int)).toNat = k) := Lib.hid rfl
      by_cases hneg : n < 0
      · have u1 : decide (n < 0) = true := decide_eq_true hneg
        have HV : Hid (decide ((decide ((k : Int) = 0) || decide ((k : Int) = 1)) = false ∨ n < 0 ∨ ((s.all (k : Int).toNat).length : Int) < n) = true) := Lib.hid (decide_eq_true (.inr (.inl hneg)))
        clear hneg
        refine wp_region_heldG [] (fun _ W => W.cell? ⟨w.heap.size, 0, none⟩ = some (.int .i64 n) ∧ W.cell? ⟨g, 2 + k * 2, none⟩ = some (.slice A0 (s.all k).length k0)) (by kernel_rfl) ?_
        change wpAnyG _ _ _ _ _ _ 20 _ _ (World.drew _)
        have hS : w1.drew.cell? ⟨w.heap.size, 0, none⟩ = some (.int .i64 n) ∧ w1.drew.cell? ⟨g, 2 + k * 2, none⟩ = some (.slice A0 (s.all k).length k0) := ⟨d5, cg⟩
        -- take0 one1 take2 take3 take4G take5G take6 take7 take8G take9G take10G take11G take12G take13G take14G take15G take16G take17G take18 take19 done
        refine g_take (i := 0) rfl rfl (by kernel_rfl) (by kernel_rfl) (by kernel_rfl) (by kernel_rfl) (by kernel_rfl) (fun _ _ _ h => h) hS (fun L W hL hW => by go_simp; rfl) ?_
        refine g_one (i := 1) rfl rfl (by kernel_rfl) fun K hK => ?_
        go_simp
        refine Calls.mono (among_any (k : Int) _) ?_
        rintro e w2 ⟨rfl, rfl⟩
        rw [hyes]
        refine hK _ _ hS ?_
        clear hK K
        refine g_take (i := 2) rfl rfl (by kernel_rfl) (by kernel_rfl) (by kernel_rfl) (by kernel_rfl) (by kernel_rfl) (fun _ _ _ h => h) hS (fun L W hL hW => by go_simp; rfl) ?_
        refine g_take (i := 3) rfl rfl (by kernel_rfl) (by kernel_rfl) (by kernel_rfl) (by kernel_rfl) (by kernel_rfl) (fun _ _ _ h => h) hS (fun L W hL hW => by go_simp; rfl) ?_
        refine g_takeG (i := 4) rfl (by simp only [Region.wanted, yielded]; go_simp) (by kernel_rfl) (by kernel_rfl) (by kernel_rfl) (by kernel_rfl) (by kernel_rfl) (fun _ _ _ h => h) hS (fun L W hL hW => by have q1 := hW.1; have q2 := hW.2; go_simp; rfl) ?_
        refine g_takeG (i := 5) rfl (by simp only [Region.wanted, yielded]; go_simp) (by kernel_rfl) (by kernel_rfl) (by kernel_rfl) (by kernel_rfl) (by kernel_rfl) (fun _ _ _ h => h) hS (fun L W hL hW => by go_simp; rfl) ?_
        refine g_take (i := 6) rfl rfl (by kernel_rfl) (by kernel_rfl) (by kernel_rfl) (by kernel_rfl) (by kernel_rfl) (fun _ _ _ h => h) hS (fun L W hL hW => by go_simp; rfl) ?_
        refine g_take (i := 7) rfl rfl (by kernel_rfl) (by kernel_rfl) (by kernel_rfl) (by kernel_rfl) (by kernel_rfl) (fun _ _ _ h => h) hS (fun L W hL hW => by go_simp; rfl) ?_
        refine g_skip (i := 8) rfl (by simp only [Region.wanted, yielded]; go_simp) (by kernel_rfl) (by kernel_rfl) (by kernel_rfl) (by kernel_rfl) (by kernel_rfl) (fun _ _ _ h => h) hS ?_
        refine g_skip (i := 9) rfl (by simp only [Region.wanted, yielded]; go_simp) (by kernel_rfl) (by kernel_rfl) (by kernel_rfl) (by kernel_rfl) (by kernel_rfl) (fun _ _ _ h => h) hS ?_
        refine g_skip (i := 10) rfl (by simp only [Region.wanted, yielded]; go_simp) (by kernel_rfl) (by kernel_rfl) (by kernel_rfl) (by kernel_rfl) (by kernel_rfl) (fun _ _ _ h => h) hS ?_
        refine g_skip (i := 11) rfl (by simp only [Region.wanted, yielded]; go_simp) (by kernel_rfl) (by kernel_rfl) (by kernel_rfl) (by kernel_rfl) (by kernel_rfl) (fun _ _ _ h => h) hS ?_
        refine g_skip (i := 12) rfl (by simp only [Region.wanted, yielded]; go_simp) (by kernel_rfl) (by kernel_rfl) (by kernel_rfl) (by kernel_rfl) (by kernel_rfl) (fun _ _ _ h => h) hS ?_
        refine g_skip (i := 13) rfl (by simp only [Region.wanted, yielded]; go_simp) (by kernel_rfl) (by kernel_rfl) (by kernel_rfl) (by kernel_rfl) (by kernel_rfl) (fun _ _ _ h => h) hS ?_
        refine g_skip (i := 14) rfl (by simp only [Region.wanted, yielded]; go_simp) (by kernel_rfl) (by kernel_rfl) (by kernel_rfl) (by kernel_rfl) (by kernel_rfl) (fun _ _ _ h => h) hS ?_
        refine g_skip (i := 15) rfl (by simp only [Region.wanted, yielded]; go_simp) (by kernel_rfl) (by kernel_rfl) (by kernel_rfl) (by kernel_rfl) (by kernel_rfl) (fun _ _ _ h => h) hS ?_
        refine g_skip (i := 16) rfl (by simp only [Region.wanted, yielded]; go_simp) (by kernel_rfl) (by kernel_rfl) (by kernel_rfl) (by kernel_rfl) (by kernel_rfl) (fun _ _ _ h => h) hS ?_
        refine g_skip (i := 17) rfl (by simp only [Region.wanted, yielded]; go_simp) (by kernel_rfl) (by kernel_rfl) (by kernel_rfl) (by kernel_rfl) (by kernel_rfl) (fun _ _ _ h => h) hS ?_
        refine g_take (i := 18) rfl rfl (by kernel_rfl) (by kernel_rfl) (by kernel_rfl) (by kernel_rfl) (by kernel_rfl) (fun _ _ _ h => h) hS (fun L W hL hW => by go_simp; rfl) ?_
        refine g_take (i := 19) rfl rfl (by kernel_rfl) (by kernel_rfl) (by kernel_rfl) (by kernel_rfl) (by kernel_rfl) (fun _ _ _ h => h) hS (fun L W hL hW => by go_simp; rfl) ?_
        refine wpAnyG_done (by kernel_rfl) ?_ _
        go_simp
        go_wp2_with fail
        go_meet
        exact ⟨congrArg Value.bool HV.out.symm, rfl⟩
      · have u1 : decide (n < 0) = false := decide_eq_false hneg
        have HV : Hid (decide ((decide ((k : Int) = 0) || decide ((k : Int) = 1)) = false ∨ n < 0 ∨ ((s.all (k : Int).toNat).length : Int) < n) = decide (((s.all k).length : Int) < n)) := Lib.hid (by
          rw [hyes]; simp [hneg])
        clear hneg
        refine wp_region_heldG [] (fun _ W => W.cell? ⟨w.heap.size, 0, none⟩ = some (.int .i64 n) ∧ W.cell? ⟨g, 2 + k * 2, none⟩ = some (.slice A0 (s.all k).length k0)) (by kernel_rfl) ?_
        change wpAnyG _ _ _ _ _ _ 20 _ _ (World.drew _)
        have hS : w1.drew.cell? ⟨w.heap.size, 0, none⟩ = some (.int .i64 n) ∧ w1.drew.cell? ⟨g, 2 + k * 2, none⟩ = some (.slice A0 (s.all k).length k0) := ⟨d5, cg⟩
        -- take0 one1 take2 take3 take4G take5G take6 take7 take8G take9G take10G take11G take12G take13G take14G take15G take16G take17G take18 take19 done
        refine g_take (i := 0) rfl rfl (by kernel_rfl) (by kernel_rfl) (by kernel_rfl) (by kernel_rfl) (by kernel_rfl) (fun _ _ _ h => h) hS (fun L W hL hW => by go_simp; rfl) ?_
        refine g_one (i := 1) rfl rfl (by kernel_rfl) fun K hK => ?_
        go_simp
        refine Calls.mono (among_any (k : Int) _) ?_
        rintro e w2 ⟨rfl, rfl⟩
        rw [hyes]
        refine hK _ _ hS ?_
        clear hK K
        refine g_take (i := 2) rfl rfl (by kernel_rfl) (by kernel_rfl) (by kernel_rfl) (by kernel_rfl) (by kernel_rfl) (fun _ _ _ h => h) hS (fun L W hL hW => by go_simp; rfl) ?_
        refine g_take (i := 3) rfl rfl (by kernel_rfl) (by kernel_rfl) (by kernel_rfl) (by kernel_rfl) (by kernel_rfl) (fun _ _ _ h => h) hS (fun L W hL hW => by go_simp; rfl) ?_
        refine g_takeG (i := 4) rfl (by simp only [Region.wanted, yielded]; go_simp) (by kernel_rfl) (by kernel_rfl) (by kernel_rfl) (by kernel_rfl) (by kernel_rfl) (fun _ _ _ h => h) hS (fun L W hL hW => by have q1 := hW.1; have q2 := hW.2; go_simp; rfl) ?_
        refine g_takeG (i := 5) rfl (by simp only [Region.wanted, yielded]; go_simp) (by kernel_rfl) (by kernel_rfl) (by kernel_rfl) (by kernel_rfl) (by kernel_rfl) (fun _ _ _ h => h) hS (fun L W hL hW => by go_simp; rfl) ?_
        refine g_take (i := 6) rfl rfl (by kernel_rfl) (by kernel_rfl) (by kernel_rfl) (by kernel_rfl) (by kernel_rfl) (fun _ _ _ h => h) hS (fun L W hL hW => by go_simp; rfl) ?_
        refine g_take (i := 7) rfl rfl (by kernel_rfl) (by kernel_rfl) (by kernel_rfl) (by kernel_rfl) (by kernel_rfl) (fun _ _ _ h => h) hS (fun L W hL hW => by go_simp; rfl) ?_
        refine g_takeG (i := 8) rfl (by simp only [Region.wanted, yielded]; go_simp) (by kernel_rfl) (by kernel_rfl) (by kernel_rfl) (by kernel_rfl) (by kernel_rfl) (fun _ _ _ h => h) hS (fun L W hL hW => by have q1 := hW.1; have q2 := hW.2; go_simp; rfl) ?_
        refine g_takeG (i := 9) rfl (by simp only [Region.wanted, yielded]; go_simp) (by kernel_rfl) (by kernel_rfl) (by kernel_rfl) (by kernel_rfl) (by kernel_rfl) (fun _ _ _ h => h) hS (fun L W hL hW => by go_simp; rfl) ?_
        refine g_takeG (i := 10) rfl (by simp only [Region.wanted, yielded]; go_simp) (by kernel_rfl) (by kernel_rfl) (by kernel_rfl) (by kernel_rfl) (by kernel_rfl) (fun _ _ _ h => h) hS (fun L W hL hW => by go_simp; rfl) ?_
        refine g_takeG (i := 11) rfl (by simp only [Region.wanted, yielded]; go_simp) (by kernel_rfl) (by kernel_rfl) (by kernel_rfl) (by kernel_rfl) (by kernel_rfl) (fun _ _ _ h => h) hS (fun L W hL hW => by go_simp; rfl) ?_
        refine g_takeG (i := 12) rfl (by simp only [Region.wanted, yielded]; go_simp) (by kernel_rfl) (by kernel_rfl) (by kernel_rfl) (by kernel_rfl) (by kernel_rfl) (fun _ _ _ h => h) hS (fun L W hL hW => by go_simp; rfl) ?_
        refine g_takeG (i := 13) rfl (by simp only [Region.wanted, yielded]; go_simp) (by kernel_rfl) (by kernel_rfl) (by kernel_rfl) (by kernel_rfl) (by kernel_rfl) (fun _ _ _ h => h) hS (fun L W hL hW => by go_simp; rfl) ?_
        refine g_takeG (i := 14) rfl (by simp only [Region.wanted, yielded]; go_simp) (by kernel_rfl) (by kernel_rfl) (by kernel_rfl) (by kernel_rfl) (by kernel_rfl) (fun _ _ _ h => h) hS (fun L W hL hW => by go_simp; rfl) ?_
        refine g_takeG (i := 15) rfl (by simp only [Region.wanted, yielded]; go_simp) (by kernel_rfl) (by kernel_rfl) (by kernel_rfl) (by kernel_rfl) (by kernel_rfl) (fun _ _ _ h => h) hS (fun L W hL hW => by have q1 := hW.1; have q2 := hW.2; go_simp; rfl) ?_
        refine g_takeG (i := 16) rfl (by simp only [Region.wanted, yielded]; go_simp) (by kernel_rfl) (by kernel_rfl) (by kernel_rfl) (by kernel_rfl) (by kernel_rfl) (fun _ _ _ h => h) hS (fun L W hL hW => by go_simp; rfl) ?_
        refine g_takeG (i := 17) rfl (by simp only [Region.wanted, yielded]; go_simp) (by kernel_rfl) (by kernel_rfl) (by kernel_rfl) (by kernel_rfl) (by kernel_rfl) (fun _ _ _ h => h) hS (fun L W hL hW => by go_simp; rfl) ?_
        refine g_take (i := 18) rfl rfl (by kernel_rfl) (by kernel_rfl) (by kernel_rfl) (by kernel_rfl) (by kernel_rfl) (fun _ _ _ h => h) hS (fun L W hL hW => by go_simp; rfl) ?_
        refine g_take (i := 19) rfl rfl (by kernel_rfl) (by kernel_rfl) (by kernel_rfl) (by kernel_rfl) (by kernel_rfl) (fun _ _ _ h => h) hS (fun L W hL hW => by go_simp; rfl) ?_
        refine wpAnyG_done (by kernel_rfl) ?_ _
        go_simp
        go_wp2_with fail
        go_meet
        exact ⟨congrArg Value.bool HV.out.symm, rfl⟩
    · have HV : Hid (decide ((decide (i = 0) || decide (i = 1)) = false ∨ n < 0 ∨ ((s.all i.toNat).length : Int) < n) = true) := Lib.hid (decide_eq_true (.inl hno))
      refine wp_region_heldG [] (fun _ W => W.cell? ⟨w.heap.size, 0, none⟩ = some (.int .i64 n) ∧ True) (by kernel_rfl) ?_
      change wpAnyG _ _ _ _ _ _ 20 _ _ (World.drew _)
      have hS : w1.drew.cell? ⟨w.heap.size, 0, none⟩ = some (.int .i64 n) ∧ True := ⟨d5, trivial⟩
      -- take0 one1 take2 take3 take4G take5G take6 take7 take8G take9G take10G take11G take12G take13G take14G take15G take16G take17G take18 take19 done
      refine g_take (i := 0) rfl rfl (by kernel_rfl) (by kernel_rfl) (by kernel_rfl) (by kernel_rfl) (by kernel_rfl) (fun _ _ _ h => h) hS (fun L W hL hW => by go_simp; rfl) ?_
      refine g_one (i := 1) rfl rfl (by kernel_rfl) fun K hK => ?_
      go_simp
      refine Calls.mono (among_any i _) ?_
      rintro e w2 ⟨rfl, rfl⟩
      rw [hno]
      refine hK _ _ hS ?_
      clear hK K
      refine g_take (i := 2) rfl rfl (by kernel_rfl) (by kernel_rfl) (by kernel_rfl) (by kernel_rfl) (by kernel_rfl) (fun _ _ _ h => h) hS (fun L W hL hW => by go_simp; rfl) ?_
      refine g_take (i := 3) rfl rfl (by kernel_rfl) (by kernel_rfl) (by kernel_rfl) (by kernel_rfl) (by kernel_rfl) (fun _ _ _ h => h) hS (fun L W hL hW => by go_simp; rfl) ?_
      refine g_skip (i := 4) rfl (by simp only [Region.wanted, yielded]; go_simp) (by kernel_rfl) (by kernel_rfl) (by kernel_rfl) (by kernel_rfl) (by kernel_rfl) (fun _ _ _ h => h) hS ?_
      refine g_skip (i := 5) rfl (by simp only [Region.wanted, yielded]; go_simp) (by kernel_rfl) (by kernel_rfl) (by kernel_rfl) (by kernel_rfl) (by kernel_rfl) (fun _ _ _ h => h) hS ?_
      refine g_take (i := 6) rfl rfl (by kernel_rfl) (by kernel_rfl) (by kernel_rfl) (by kernel_rfl) (by kernel_rfl) (fun _ _ _ h => h) hS (fun L W hL hW => by go_simp; rfl) ?_
      refine g_take (i := 7) rfl rfl (by kernel_rfl) (by kernel_rfl) (by kernel_rfl) (by kernel_rfl) (by kernel_rfl) (fun _ _ _ h => h) hS (fun L W hL hW => by go_simp; rfl) ?_
      refine g_skip (i := 8) rfl (by simp only [Region.wanted, yielded]; go_simp) (by kernel_rfl) (by kernel_rfl) (by kernel_rfl) (by kernel_rfl) (by kernel_rfl) (fun _ _ _ h => h) hS ?_
      refine g_skip (i := 9) rfl (by simp only [Region.wanted, yielded]; go_simp) (by kernel_rfl) (by kernel_rfl) (by kernel_rfl) (by kernel_rfl) (by kernel_rfl) (fun _ _ _ h => h) hS ?_
      refine g_skip (i := 10) rfl (by simp only [Region.wanted, yielded]; go_simp) (by kernel_rfl) (by kernel_rfl) (by kernel_rfl) (by kernel_rfl) (by kernel_rfl) (fun _ _ _ h => h) hS ?_
      refine g_skip (i := 11) rfl (by simp only [Region.wanted, yielded]; go_simp) (by kernel_rfl) (by kernel_rfl) (by kernel_rfl) (by kernel_rfl) (by kernel_rfl) (fun _ _ _ h => h) hS ?_
      refine g_skip (i := 12) rfl (by simp only [Region.wanted, yielded]; go_simp) (by kernel_rfl) (by kernel_rfl) (by kernel_rfl) (by kernel_rfl) (by kernel_rfl) (fun _ _ _ h => h) hS ?_
      refine g_skip (i := 13) rfl (by simp only [Region.wanted, yielded]; go_simp) (by kernel_rfl) (by kernel_rfl) (by kernel_rfl) (by kernel_rfl) (by kernel_rfl) (fun _ _ _ h => h) hS ?_
      refine g_skip (i := 14) rfl (by simp only [Region.wanted, yielded]; go_simp) (by kernel_rfl) (by kernel_rfl) (by kernel_rfl) (by kernel_rfl) (by kernel_rfl) (fun _ _ _ h => h) hS ?_
      refine g_skip (i := 15) rfl (by simp only [Region.wanted, yielded]; go_simp) (by kernel_rfl) (by kernel_rfl) (by kernel_rfl) (by kernel_rfl) (by kernel_rfl) (fun _ _ _ h => h) hS ?_
      refine g_skip (i := 16) rfl (by simp only [Region.wanted, yielded]; go_simp) (by kernel_rfl) (by kernel_rfl) (by kernel_rfl) (by kernel_rfl) (by kernel_rfl) (fun _ _ _ h => h) hS ?_
      refine g_skip (i := 17) rfl (by simp only [Region.wanted, yielded]; go_simp) (by kernel_rfl) (by kernel_rfl) (by kernel_rfl) (by kernel_rfl) (by kernel_rfl) (fun _ _ _ h => h) hS ?_
      refine g_take (i := 18) rfl rfl (by kernel_rfl) (by kernel_rfl) (by kernel_rfl) (by kernel_rfl) (by kernel_rfl) (fun _ _ _ h => h) hS (fun L W hL hW => by go_simp; rfl) ?_
      refine g_take (i := 19) rfl rfl (by kernel_rfl) (by kernel_rfl) (by kernel_rfl) (by kernel_rfl) (by kernel_rfl) (fun _ _ _ h => h) hS (fun L W hL hW => by go_simp; rfl) ?_
      refine wpAnyG_done (by kernel_rfl) ?_ _
      go_simp
      go_wp2_with fail
      go_meet
      exact ⟨congrArg Value.bool HV.out.symm, rfl⟩
  case rest =>
  obtain ⟨rfl, rfl⟩ := hcut
  by_cases hbad : (decide (i = 0) || decide (i = 1)) = false ∨ n < 0 ∨ ((s.all i.toNat).length : Int) < n
  · have HR : Hid (trD s i n = (2, s)) := Lib.hid (by rw [HT.out, if_pos hbad])
    have HNX : Hid (Next w base F g s w1.drew) := Lib.hid ⟨F, hA.drew, (Fr.of_below hB F).drew, fun _ h => .inl h⟩
    rw [decide_eq_true hbad]
    clear hA hB hz5 hd hbad
    go_wp2_with fail
    go_ret
    rw [HR.out]
    exact ⟨rfl, HNX.out⟩
  rw [decide_eq_false hbad]
  have HR : Hid (trD s i n = after s (truncD i.toNat n.toNat) (fun _ s => s)) := Lib.hid (by rw [HT.out, if_neg hbad])
  rcases among_cases i with ⟨k, rfl, hk⟩ | hno
  rotate_left
  · exact absurd (.inl hno) hbad
  obtain ⟨m, rfl⟩ : ∃ m : Nat, n = m := ⟨n.toNat, by omega⟩
  have hlen : m ≤ (s.all k).length := by
    have h1 : ¬ ((s.all ((k : Int)).toNat).length : Int) < (m : Int) := fun h => hbad (.inr (.inr h))
    simp only [Int.toNat_natCast] at h1
    omega
  simp only [Int.toNat_natCast] at HR
  have j1 : (0 : Int) ≤ (k : Int) := by omega
  have j2 : (k : Int) < 2 := by omega
  have hB3 := (hB.alloc hB.size (.cells #[.pointer (some ⟨g, 2 + k * 2, none⟩)] 90)).drew
  have hz8 := (Blk.new_ w1 90 #[.pointer (some ⟨g, 2 + k * 2, none⟩)] (n := w.heap.size + 1) HSZ.out.symm).drew
  have hy5 := (hz5.alloc (.cells #[.pointer (some ⟨g, 2 + k * 2, none⟩)] 90)).drew
  have f5 : ¬ F w.heap.size := fun e => by have := (HA0.out.lt e).2; omega
  have f8 : ¬ F (w.heap.size + 1) := fun e => by have := (HA0.out.lt e).2; omega
  have hs1 : w1.heap.size = w.heap.size + 1 := HSZ.out
  clear hA hB hz5 hd hbad d5
  go_wp2_with fail
  have hA5 := HA0.out.below hB3
  generalize (w1.alloc (.cells #[.pointer (some ⟨g, 2 + k * 2, none⟩)] 90)).drew = w5 at *
  refine Calls.mono (change_any hA5 57 42 #[.pointer (some ⟨w.heap.size + 1, 0, none⟩), .pointer (some ⟨w.heap.size, 0, none⟩)] #[] (truncD k m) (fun _ s => s)
    (enters_of Try.func57 (by kernel_rfl) rfl) (enters_of Try.func42 (by kernel_rfl) rfl) rfl
    (fun W o hW hf => do_trunc (s := fused s o) hW hk hlen (hz8.fr hf f8) (hy5.fr hf f5))
    (fun p _ => nothing_any hA5 p)) ?_
  rintro e w6 ⟨rfl, hN⟩
  have HNX : Hid (Next w base F g (after s (truncD k m) (fun _ s => s)).2 w6) := Lib.hid (Next.trans (s' := s) (Fr.of_below hB3 F) (fun _ h => .inl h) hN)
  clear hN hA5 hB3 hz8 hy5
  go_wp2_with fail
  go_ret
  rw [HR.out]
  exact ⟨rfl, HNX.out⟩
end
end Go.Proofs.Ytpohefpiidlnjaa.Dk
