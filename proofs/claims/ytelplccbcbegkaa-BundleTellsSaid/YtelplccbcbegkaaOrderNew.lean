/-
  The walks of an order's New and Copy.
-/
import Derived.Test.YtelplccbcbegkaaOrderGrow
namespace Go.Proofs.Ytelplccbcbegkaa.OrW
set_option linter.unusedVariables false
open Go Go.RowKit Go.Proofs Go.Proofs.Ytelplccbcbegkaa Go.Proofs.Ytelplccbcbegkaa.Wd Go.Proofs.Ytelplccbcbegkaa.GrW Go.Proofs.Ytelplccbcbegkaa.Ord
open Go.Proofs.Ytelplccbcbegkaa.Gr (OK putL)

theorem OUpd.low {base o n B : Nat} {F : Nat → Prop} {L : List (List Int)} {P A : List Nat} {w w' : World} (h : OUpd base F o n L P A w w') (hF : ∀ k, F k → B ≤ k) (hs : B ≤ w.heap.size) : OAt w' base (fun k => B ≤ k) o n L P A ∧ Below B w w' := by
  obtain ⟨F', h1, h2, h3⟩ := h
  refine ⟨h1.wide fun k hk => ?_, h2.low hF hs⟩
  rcases h3 k hk with e | e
  · exact hF k e
  · omega
/-- What New answers. -/
def ONewOut (w : World) (n : Int) (e : Ending) (w' : World) : Prop :=
  if 0 ≤ n ∧ n ≤ 10000 then ∃ o, e = .returned (.tuple #[.pointer (some ⟨o, 0, none⟩), .int .i64 0]) ∧ OAt w' w.heap.size (fun k => w.heap.size ≤ k) o n.toNat (List.replicate (2 * n.toNat) []) (List.range n.toNat) (List.range n.toNat) ∧ Below w.heap.size w w' else e = .returned (.tuple #[.pointer none, .int .i64 2]) ∧ Below w.heap.size w w'
theorem gro_start (m : Nat) : gro [] 0 m = List.range m := by simp [gro]
theorem newO_any (n : Int) (w : World) : Calls Try.prog 24 #[.int .i64 n] w (ONewOut w n) := by
  have HG := Lib.hid (GrW.new_any 0 w)
  go_enter Try.func24, Try.ntmps24
  go_wp2_with fail
  refine Calls.mono HG.out ?_
  intro e w1 h1
  unfold NewOut at h1
  rw [if_pos (by omega)] at h1
  obtain ⟨g, rfl, G1, B1⟩ := h1
  have hO : OParts (w1.alloc (.cells #[.pointer (some ⟨g, 0, none⟩), .slice none 0 0, .slice none 0 0] 70)) w.heap.size (fun k => w.heap.size ≤ k) w1.heap.size 0 [] [] [] g (.slice none 0 0) (.slice none 0 0) (fun k => w.heap.size ≤ k ∧ k < w1.heap.size) := {
    blk := Blk.new_ w1 _ _ rfl
    far := B1.size
    gr := G1.exist.below ((Below.refl _ w1).alloc (Nat.le_refl _) _)
    rp := own_nil _ _ _
    ra := own_nil _ _ _
    fo := B1.size
    og := fun e => by omega
    fg := fun k e => e.1
    fp := fun b e => by simp [Value.ownBlock] at e
    fa := fun b e => by simp [Value.ownBlock] at e
    pa := fun b e => by simp [Value.ownBlock] at e }
  have hB : Below w.heap.size w (w1.alloc (.cells #[.pointer (some ⟨g, 0, none⟩), .slice none 0 0, .slice none 0 0] 70)) := B1.alloc B1.size _
  have HR := Lib.hid (growO_any _ w.heap.size w1.heap.size 0 _ [] [] [] ⟨_, _, _, _, hO⟩ (Perm.start 0) (by omega) n)
  have HB := Lib.hid hB
  clear HG G1 B1 hO hB
  go_wp2_with fail
  refine Calls.mono HR.out ?_
  intro e w2 h2
  unfold OGrowOut at h2
  by_cases hn : 0 ≤ n ∧ n ≤ 10000
  · rw [if_pos (by unfold canGrow; simp; omega)] at h2
    obtain ⟨rfl, h2⟩ := h2
    obtain ⟨q1, q2⟩ := h2.low (fun k e => e) HB.out.size
    have HF : Hid (ONewOut w n (.returned (.tuple #[.pointer (some ⟨w1.heap.size, 0, none⟩), .int .i64 0])) w2) := Lib.hid (by
      unfold ONewOut
      rw [if_pos hn]
      refine ⟨_, rfl, ?_, HB.out.trans q2⟩
      rw [Nat.zero_add, gro_start] at q1
      exact q1)
    clear HR HB h2 q1 q2 hn
    go_wp2_with fail
    go_ret2
    exact HF.out
  · rw [if_neg (by unfold canGrow; simp; omega)] at h2
    obtain ⟨rfl, rfl⟩ := h2
    have HF : Hid (ONewOut w n (.returned (.tuple #[.pointer none, .int .i64 2])) (w1.alloc (.cells #[.pointer (some ⟨g, 0, none⟩), .slice none 0 0, .slice none 0 0] 70))) := Lib.hid (by
      unfold ONewOut
      rw [if_neg hn]
      exact ⟨rfl, HB.out⟩)
    clear HR HB hn
    go_wp2_with fail
    go_ret2
    exact HF.out
/-- What Copy answers. -/
def OCopyOut (w : World) (n : Nat) (L : List (List Int)) (P A : List Nat) (e : Ending) (w' : World) : Prop := ∃ o, e = .returned (.pointer (some ⟨o, 0, none⟩)) ∧ OAt w' w.heap.size (fun k => w.heap.size ≤ k) o n L P A ∧ Below w.heap.size w w'
set_option maxRecDepth 100000 in
set_option maxHeartbeats 4000000 in
theorem copyO_any (w : World) (base o n : Nat) (F : Nat → Prop) (L : List (List Int)) (P A : List Nat) (h : OAt w base F o n L P A) (ok : OK n L) (hP : Perm n P A) (hn : n ≤ 30000) :
    Calls Try.prog 29 #[.pointer (some ⟨o, 0, none⟩)] w (OCopyOut w n L P A) := by
  obtain ⟨g, vp, va, Fg, hO⟩ := h
  obtain ⟨c0, c1, c2⟩ := hO.cells
  obtain ⟨Ap, cp, rfl⟩ := hO.rowp
  obtain ⟨Aa, ca, rfl⟩ := hO.rowa
  have HN := Lib.hid (none_o w o g c0)
  have HO := Lib.hid hO
  have HOK := Lib.hid ok
  have HP := Lib.hid hP
  have HCL : Hid (∀ W, Below w.heap.size w W → W.cell? ⟨o, 0, none⟩ = some (.pointer (some ⟨g, 0, none⟩)) ∧ W.cell? ⟨o, 1, none⟩ = some (.slice Ap P.length cp) ∧ W.cell? ⟨o, 2, none⟩ = some (.slice Aa A.length ca)) := Lib.hid (fun W hW => (hO.below hW).cells)
  clear hO ok hP c0 c1 c2
  go_enter Try.func29, Try.ntmps29
  go_wp2_with fail
  refine Calls.mono HN.out ?_
  rintro e w' ⟨rfl, rfl⟩
  clear HN
  go_wp2_with fail
  have hS : Below w.heap.size w w.drew := (Below.refl _ w).drew
  refine wp_region_heldG [] (fun _ W => Below w.heap.size w W) (by kernel_rfl) ?_
  change wpAnyG _ _ _ _ _ _ 18 _ _ w.drew
  refine g_take (i := 0) rfl rfl (by kernel_rfl) (by kernel_rfl) (by kernel_rfl) (by kernel_rfl) (by kernel_rfl) (fun _ _ _ h => h) hS (fun L' W' hL hW => by go_simp; rfl) ?_
  refine g_take (i := 1) rfl rfl (by kernel_rfl) (by kernel_rfl) (by kernel_rfl) (by kernel_rfl) (by kernel_rfl) (fun _ _ _ h => h) hS (fun L' W' hL hW => by go_simp; rfl) ?_
  refine g_take (i := 2) rfl rfl (by kernel_rfl) (by kernel_rfl) (by kernel_rfl) (by kernel_rfl) (by kernel_rfl) (fun _ _ _ h => h) hS (fun L' W' hL hW => by go_simp; rfl) ?_
  refine g_take (i := 3) rfl rfl (by kernel_rfl) (by kernel_rfl) (by kernel_rfl) (by kernel_rfl) (by kernel_rfl) (fun _ _ _ h => h) hS (fun L' W' hL hW => by obtain ⟨k0, k1, k2⟩ := HCL.out _ hW; go_simp; rfl) ?_
  refine g_take (i := 5) rfl rfl (by kernel_rfl) (by kernel_rfl) (by kernel_rfl) (by kernel_rfl) (by kernel_rfl) (fun _ _ _ h => h) hS (fun L' W' hL hW => by go_simp; rfl) ?_
  refine g_take (i := 6) rfl rfl (by kernel_rfl) (by kernel_rfl) (by kernel_rfl) (by kernel_rfl) (by kernel_rfl) (fun _ _ _ h => h) hS (fun L' W' hL hW => by go_simp; rfl) ?_
  refine g_take (i := 7) rfl rfl (by kernel_rfl) (by kernel_rfl) (by kernel_rfl) (by kernel_rfl) (by kernel_rfl) (fun _ _ _ h => h) hS (fun L' W' hL hW => by go_simp; rfl) ?_
  refine g_take (i := 8) rfl rfl (by kernel_rfl) (by kernel_rfl) (by kernel_rfl) (by kernel_rfl) (by kernel_rfl) (fun _ _ _ h => h) hS (fun L' W' hL hW => by obtain ⟨k0, k1, k2⟩ := HCL.out _ hW; go_simp; rfl) ?_
  refine g_take (i := 10) rfl rfl (by kernel_rfl) (by kernel_rfl) (by kernel_rfl) (by kernel_rfl) (by kernel_rfl) (fun _ _ _ h => h) hS (fun L' W' hL hW => by go_simp; rfl) ?_
  refine g_take (i := 11) rfl rfl (by kernel_rfl) (by kernel_rfl) (by kernel_rfl) (by kernel_rfl) (by kernel_rfl) (fun _ _ _ h => h) hS (fun L' W' hL hW => by go_simp; rfl) ?_
  refine g_take (i := 12) rfl rfl (by kernel_rfl) (by kernel_rfl) (by kernel_rfl) (by kernel_rfl) (by kernel_rfl) (fun _ _ _ h => h) hS (fun L' W' hL hW => by go_simp; rfl) ?_
  refine g_take (i := 13) rfl rfl (by kernel_rfl) (by kernel_rfl) (by kernel_rfl) (by kernel_rfl) (by kernel_rfl) (fun _ _ _ h => h) hS (fun L' W' hL hW => by obtain ⟨k0, k1, k2⟩ := HCL.out _ hW; go_simp; rfl) ?_
  refine g_one (i := 4) rfl rfl (by kernel_rfl) fun K' hK => ?_
  go_simp
  refine Calls.mono (copy_any w.drew base g n Fg L (HO.out.below hS).gr (HOK.out.rises hn) hn) ?_
  rintro e w2 h2
  obtain ⟨g2, rfl, q1, q2⟩ := h2
  have hS2 : Below w.heap.size w w2 := hS.trans q2
  have HG2 := Lib.hid q1.exist
  have HG2s := Lib.hid q2.size
  refine hK _ _ hS2 ?_
  clear hK K' q1 q2
  refine g_one (i := 9) rfl rfl (by kernel_rfl) fun K' hK => ?_
  go_simp
  refine Calls.mono (clone_row w2 base _ (zs P) (IRow.of_own (HO.out.below hS2).rp) (by rw [zs_length, HP.out.lp]; omega)) ?_
  rintro e w3 ⟨v3, rfl, o3, b3⟩
  have hS3 : Below w.heap.size w w3 := hS2.trans (b3.mono hS2.size)
  obtain ⟨A3, c3, rfl⟩ := own_form o3
  have HG3 := Lib.hid (HG2.out.below b3)
  have HO3 := Lib.hid o3
  have HS2 := Lib.hid hS2.size
  have HS23 := Lib.hid b3.size
  refine hK _ _ hS3 ?_
  clear hK K' o3 b3 HG2
  refine g_one (i := 14) rfl rfl (by kernel_rfl) fun K' hK => ?_
  go_simp
  refine Calls.mono (clone_row w3 base _ (zs A) (IRow.of_own (HO.out.below hS3).ra) (by rw [zs_length, HP.out.la]; omega)) ?_
  rintro e w4 ⟨v4, rfl, o4, b4⟩
  have hS4 : Below w.heap.size w w4 := hS3.trans (b4.mono hS3.size)
  obtain ⟨A4, c4, rfl⟩ := own_form o4
  have HG4 := Lib.hid (HG3.out.below b4)
  have HO34 := Lib.hid (own_belowW HO3.out b4)
  have HO4 := Lib.hid o4
  have HS3 := Lib.hid hS3.size
  have HS34 := Lib.hid b4.size
  refine hK _ _ hS4 ?_
  clear hK K' o4 b4 HG3
  have HF : Hid (OCopyOut w n L P A (.returned (.pointer (some ⟨w4.heap.size, 0, none⟩))) (w4.alloc (.cells #[.pointer (some ⟨g2, 0, none⟩), .slice A3 (zs P).length c3, .slice A4 (zs A).length c4] 70))) := Lib.hid (by
    have hba : Below w4.heap.size w4 (w4.alloc (.cells #[.pointer (some ⟨g2, 0, none⟩), .slice A3 (zs P).length c3, .slice A4 (zs A).length c4] 70)) := (Below.refl _ w4).alloc (Nat.le_refl _) _
    have lo3 : ∀ b, (Value.slice A3 (zs P).length c3).ownBlock = some b → w2.heap.size ≤ b ∧ b < w3.heap.size := fun b e => ⟨(own_row HO3.out e).1, by obtain ⟨_, cs, hc⟩ := own_row HO3.out e; exact hc.lt⟩
    have lo4 : ∀ b, (Value.slice A4 (zs A).length c4).ownBlock = some b → w3.heap.size ≤ b := fun b e => (own_row HO4.out e).1
    refine ⟨_, rfl, ⟨g2, _, _, (fun k => w.heap.size ≤ k ∧ k < w2.heap.size), {
      blk := Blk.new_ w4 _ _ rfl
      far := hS4.size
      gr := HG4.out.below hba
      rp := own_belowW (own_base HO34.out HS2.out) hba
      ra := own_belowW (own_base HO4.out HS3.out) hba
      fo := hS4.size
      og := fun e => by have := HS23.out; have := HS34.out; omega
      fg := fun k e => e.1
      fp := fun b e => by have := lo3 b e; have := HS2.out; exact ⟨by omega, fun e2 => by omega⟩
      fa := fun b e => by have := lo4 b e; have := HS2.out; have := HS23.out; exact ⟨by omega, fun e2 => by omega⟩
      pa := fun b e e2 => by have := lo3 b e; have := lo4 b e2; omega }⟩, hS4.trans (hba.mono hS4.size)⟩)
  clear HG4 HO34 HO4 HO3 HCL
  generalize (zs P).length = lp at *
  generalize (zs A).length = la at *
  refine g_one (i := 15) rfl rfl (by kernel_rfl) fun K' hK => ?_
  go_simp
  refine hK _ _ hS4 ?_
  clear hK K'
  refine g_one (i := 16) rfl rfl (by kernel_rfl) fun K' hK => ?_
  go_simp
  refine hK _ _ (hS4.alloc hS4.size _) ?_
  clear hK K'
  refine g_take (i := 17) rfl rfl (by kernel_rfl) (by kernel_rfl) (by kernel_rfl) (by kernel_rfl) (by kernel_rfl) (fun _ _ _ h => h) (hS4.alloc hS4.size _) (fun L' W' hL hW => by go_simp; rfl) ?_
  refine wpAnyG_done (by kernel_rfl) ?_ _
  go_simp
  go_wp2_with fail
  go_ret
  exact HF.out
end Go.Proofs.Ytelplccbcbegkaa.OrW
