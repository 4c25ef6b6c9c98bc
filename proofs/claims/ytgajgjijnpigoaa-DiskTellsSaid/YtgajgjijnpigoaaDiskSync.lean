/-
  The walk of Sync.
-/
import Derived.Test.YtgajgjijnpigoaaDiskWalks5
import Derived.Test.YtgajgjijnpigoaaDiskWalks4
import Derived.Test.YtgajgjijnpigoaaWordsRange
import Derived.Deep.DeepCutAuto
import Derived.Shelf.Abstract
namespace Go.Proofs.Ytgajgjijnpigoaa.Dk
set_option linter.unusedVariables false
open Go Go.RowKit Go.Shelf Go.Proofs Go.Proofs.Ytgajgjijnpigoaa Go.Proofs.Ytgajgjijnpigoaa.Wd

section
variable {base : Nat} {F : Nat → Prop} {g : Nat} {s : DS}
/-- What Sync makes of a disk. -/
def syncD (k : Nat) (s : DS) : DS := { s with safe := upd s.safe k (s.all k).length }
set_option maxRecDepth 100000 in
theorem do_sync {w : World} (h : At w base F g s) {k : Nat} (hk : k < 2) {B6 : Nat} (q6 : Blk w B6 77 #[.pointer (some ⟨g, 2 + k * 2, none⟩)]) :
    Calls Try.prog 35 #[.pointer (some ⟨B6, 0, none⟩)] w fun e w' => (∃ v, e = .returned v) ∧ Next w base F g (syncD k s) w' := by
  obtain ⟨cs, v, vf, R, fb, h⟩ := h
  have ok : Ok (syncD k s) := ⟨h.ok.cap, h.ok.room, fun i hi => by
    show upd s.safe k (s.all k).length i ≤ _
    by_cases e : i = k
    · subst e; rw [upd_eq]; exact Nat.le_refl _
    · rw [upd_ne e]; exact h.ok.safe i hi, h.ok.sl, h.ok.lo, h.ok.fuse⟩
  have HN : Hid (Next w base F g (syncD k s) (w.drew.setCell ⟨g, 2 + k * 2 + 1, none⟩ (.int .i64 (s.all k).length))) := Lib.hid ⟨F, ⟨_, _, _, _, _, (h.below ((Below.refl _ w).drew)).set_ _ _ ok (h.cells.set_safe hk (s.all k).length) (fun _ _ => ⟨rfl, rfl⟩) ⟨rfl, rfl⟩⟩, Fr.setCell (p := ⟨g, 2 + k * 2 + 1, none⟩) ((Fr.refl _ w).drew) (.inl h.fg) _, fun _ h => .inl h⟩
  have d6 := Blk.at_ q6 0 (v := .pointer (some ⟨g, 2 + k * 2, none⟩)) rfl
  obtain ⟨A0, k0, e0, l0, m0, b0⟩ := h.form hk
  have cg := h.cell (h.cells.seg k hk)
  have cs3 := h.cell (h.cells.safe k hk)
  rw [e0] at cg
  have hbg : B6 ≠ g := Blk.ne_ q6 h.blk (by decide)
  have HFZ : Hid (w.drew.frozen? ⟨g, 2 + k * 2 + 1, none⟩ = false) := Lib.hid (h.blk.frozen _)
  have hle : (s.all k).length ≤ 1048576 := by have := h.ok.room; have := h.ok.cap; rcases (by omega : k = 0 ∨ k = 1) with rfl | rfl <;> omega
  clear q6 e0 l0 m0 b0
  obtain ⟨n, hn⟩ : ∃ n, n = (s.all k).length := ⟨_, rfl⟩
  rw [← hn] at HN cg
  have HNN := Lib.hid hn
  clear hn h
  go_enter Try.func35, Try.ntmps35
  refine wp_region_heldG [8] (fun st W => W.cell? ⟨B6, 0, none⟩ = some (.pointer (some ⟨g, 2 + k * 2, none⟩)) ∧ W.cell? ⟨g, 2 + k * 2, none⟩ = some (.slice A0 n k0) ∧ (st 8 = false → W.cell? ⟨g, 2 + k * 2 + 1, none⟩ = some (.int .i64 (s.safe k)))) (by kernel_rfl) ?_
  change wpAnyG _ _ _ _ _ _ 9 _ _ (World.drew _)
  have hS : w.drew.cell? ⟨B6, 0, none⟩ = some (.pointer (some ⟨g, 2 + k * 2, none⟩)) ∧ w.drew.cell? ⟨g, 2 + k * 2, none⟩ = some (.slice A0 n k0) ∧ (came [8] (Array.replicate 9 false) 8 = false → w.drew.cell? ⟨g, 2 + k * 2 + 1, none⟩ = some (.int .i64 (s.safe k))) := ⟨d6, cg, fun _ => cs3⟩
  have HS3 : Hid ((w.drew.setCell ⟨g, 2 + k * 2 + 1, none⟩ (.int .i64 n)).cell? ⟨B6, 0, none⟩ = some (.pointer (some ⟨g, 2 + k * 2, none⟩)) ∧ (w.drew.setCell ⟨g, 2 + k * 2 + 1, none⟩ (.int .i64 n)).cell? ⟨g, 2 + k * 2, none⟩ = some (.slice A0 n k0) ∧ (true = false → (w.drew.setCell ⟨g, 2 + k * 2 + 1, none⟩ (.int .i64 n)).cell? ⟨g, 2 + k * 2 + 1, none⟩ = some (.int .i64 (s.safe k)))) := Lib.hid
    ⟨(World.cell?_setCell_other _ ⟨g, 2 + k * 2 + 1, none⟩ ⟨B6, 0, none⟩ _ (by intro e; injection e with e1; exact hbg e1.symm)).trans d6, (World.cell?_setCell_other _ ⟨g, 2 + k * 2 + 1, none⟩ ⟨g, 2 + k * 2, none⟩ _ (by intro e; injection e with e1 e2; omega)).trans cg, fun e => by cases e⟩
  -- take0 take1 take2 take3 take4 take5 take6 take7 one8 done
  refine g_take (i := 0) rfl rfl (by kernel_rfl) (by kernel_rfl) (by kernel_rfl) (by kernel_rfl) (by kernel_rfl) (fun _ _ _ h => h) hS (fun L W hL hW => by have q1 := hW.1; have q2 := hW.2.1; go_simp; rfl) ?_
  refine g_take (i := 1) rfl rfl (by kernel_rfl) (by kernel_rfl) (by kernel_rfl) (by kernel_rfl) (by kernel_rfl) (fun _ _ _ h => h) hS (fun L W hL hW => by have q1 := hW.1; have q2 := hW.2.1; go_simp; rfl) ?_
  refine g_take (i := 2) rfl rfl (by kernel_rfl) (by kernel_rfl) (by kernel_rfl) (by kernel_rfl) (by kernel_rfl) (fun _ _ _ h => h) hS (fun L W hL hW => by go_simp; rfl) ?_
  refine g_take (i := 3) rfl rfl (by kernel_rfl) (by kernel_rfl) (by kernel_rfl) (by kernel_rfl) (by kernel_rfl) (fun _ _ _ h => h) hS (fun L W hL hW => by go_simp; rfl) ?_
  refine g_take (i := 4) rfl rfl (by kernel_rfl) (by kernel_rfl) (by kernel_rfl) (by kernel_rfl) (by kernel_rfl) (fun _ _ _ h => h) hS (fun L W hL hW => by have q1 := hW.1; have q2 := hW.2.1; go_simp; rfl) ?_
  refine g_take (i := 5) rfl rfl (by kernel_rfl) (by kernel_rfl) (by kernel_rfl) (by kernel_rfl) (by kernel_rfl) (fun _ _ _ h => h) hS (fun L W hL hW => by go_simp; rfl) ?_
  refine g_take (i := 6) rfl rfl (by kernel_rfl) (by kernel_rfl) (by kernel_rfl) (by kernel_rfl) (by kernel_rfl) (fun _ _ _ h => h) hS (fun L W hL hW => by go_simp; rfl) ?_
  refine g_take (i := 7) rfl rfl (by kernel_rfl) (by kernel_rfl) (by kernel_rfl) (by kernel_rfl) (by kernel_rfl) (fun _ _ _ h => h) hS (fun L W hL hW => by go_simp; rfl) ?_
  refine g_one (i := 8) rfl rfl (by kernel_rfl) fun K hK => ?_
  have c3 := hS.2.2 (by simp [came])
  have fz := HFZ.out
  go_simp
  refine hK _ _ (HS3.out) ?_
  clear hK K
  refine wpAnyG_done (by kernel_rfl) ?_ _
  go_end0
  exact ⟨⟨_, rfl⟩, HN.out⟩
/-- What Sync answers, and makes of a disk. -/
def syD (s : DS) (i : Int) : Nat × DS :=
  if s.dead then (3, s) else if (decide (i = 0) || decide (i = 1)) = false then (2, s) else after s (syncD i.toNat) (fun _ s => s)
set_option maxRecDepth 100000 in
set_option maxHeartbeats 1000000 in
theorem sync_any {w : World} (h : At w base F g s) (i : Int) :
    Calls Try.prog 12 #[.pointer (some ⟨g, 0, none⟩), .int .i64 i] w fun e w' => e = .returned (.int .i64 ((syD s i).1 : Nat)) ∧ Next w base F g (syD s i).2 w' := by
  have HA0 := Lib.hid h
  clear h
  go_enter Try.func12, Try.ntmps12
  go_wp2_with fail
  refine Calls.mono (why_any HA0.out) ?_
  rintro e w1 ⟨rfl, rfl⟩
  cases hd : s.dead
  rotate_left
  · have HR : Hid (syD s i = (3, s)) := Lib.hid (by unfold syD; rw [if_pos hd])
    have HNX := Lib.hid (Next.refl HA0.out)
    simp only [if_true]
    clear hd
    go_wp2_with fail
    go_ret
    rw [HR.out]
    exact ⟨rfl, HNX.out⟩
  simp only [Bool.false_eq_true, if_false]
  go_wp2_with fail
  refine Calls.mono (among_any i w) ?_
  rintro e w2 ⟨rfl, rfl⟩
  rcases among_cases i with ⟨k, rfl, hk⟩ | hno
  rotate_left
  · have HR : Hid (syD s i = (2, s)) := Lib.hid (by unfold syD; rw [if_neg (by rw [hd]; simp), if_pos hno])
    have HNX := Lib.hid (Next.refl HA0.out)
    rw [hno]
    clear hd hno
    go_wp2_with fail
    go_ret
    rw [HR.out]
    exact ⟨rfl, HNX.out⟩
  have HR : Hid (syD s (k : Int) = after s (syncD k) (fun _ s => s)) := Lib.hid (by
    unfold syD; rw [if_neg (by rw [hd]; simp), if_neg (by rw [among_yes hk]; simp)]; rfl)
  rw [among_yes hk]
  have j1 : (0 : Int) ≤ (k : Int) := by omega
  have j2 : (k : Int) < 2 := by omega
  have hB := (Below.refl w.heap.size w).alloc (Nat.le_refl _) (.cells #[.pointer (some ⟨g, 2 + k * 2, none⟩)] 77)
  have hz := Blk.new_ w 77 #[.pointer (some ⟨g, 2 + k * 2, none⟩)] rfl
  have hF : ¬ F w.heap.size := fun e => by have := (HA0.out.lt e).2; omega
  clear hd
  go_wp2_with fail
  generalize w.alloc (.cells #[.pointer (some ⟨g, 2 + k * 2, none⟩)] 77) = w5 at *
  have hA5 := HA0.out.below hB
  refine Calls.mono (change_any hA5 35 36 #[.pointer (some ⟨w.heap.size, 0, none⟩)] #[] (syncD k) (fun _ s => s)
    (enters_of Try.func35 (by kernel_rfl) rfl) (enters_of Try.func36 (by kernel_rfl) rfl) rfl
    (fun W o hW hf => do_sync (s := fused s o) hW hk (hz.fr hf hF))
    (fun p _ => nothing_any hA5 p)) ?_
  rintro e w6 ⟨rfl, hN⟩
  have HNX : Hid (Next w base F g (after s (syncD k) (fun _ s => s)).2 w6) := Lib.hid (Next.trans (s' := s) (Fr.of_below hB F) (fun _ h => .inl h) hN)
  clear hN hA5 hB hz
  go_wp2_with fail
  go_ret
  rw [HR.out]
  exact ⟨rfl, HNX.out⟩

end
end Go.Proofs.Ytgajgjijnpigoaa.Dk
