/-
  The walk of OrderTells, of any numbers.
-/
import Derived.Test.YtpikdjaedbogdaaOrderTellsMain
namespace Go.Proofs.Ytpikdjaedbogdaa.OrW
set_option linter.unusedVariables false
open Go Go.RowKit Go.Proofs Go.Proofs.Ytpikdjaedbogdaa Go.Proofs.Ytpikdjaedbogdaa.Wd Go.Proofs.Ytpikdjaedbogdaa.GrW Go.Proofs.Ytpikdjaedbogdaa.Ord
open Go.Proofs.Ytpikdjaedbogdaa.Gr (OK putL outs intos Path edgesTo ev)

set_option maxRecDepth 100000 in
set_option maxHeartbeats 16000000 in
theorem tells_far (n0 : Nat) (hn0 : n0 ≤ 10000) (A : Option Addr) (c : Nat) (m : Nat) (hmc : m ≤ c) (hcm : c ≤ maxLen) (hfar : 24 < n0 ∨ 50 < m) (w : World) :
    Calls Try.prog 5 #[.int .i64 (n0 : Int), .slice A m c] w fun e w' => e = .returned (.bool true) ∧ Below w.heap.size w w' := by
  have HNW := Lib.hid (newO_any (n0 : Int) w)
  unfold maxLen at hcm
  go_enter Try.func5, Try.ntmps5
  go_wp2_with fail
  refine Calls.mono HNW.out ?_
  intro e w1 h1
  unfold ONewOut at h1
  rw [if_pos (by omega)] at h1
  obtain ⟨o, rfl, O1, B1⟩ := h1
  rw [Int.toNat_natCast] at O1
  have HO1 : Hid (OnF w w1 (fun k => w.heap.size ≤ k ∧ k < w1.heap.size) o n0 (List.replicate (2 * n0) []) (List.range n0) (List.range n0)) := Lib.hid ⟨O1.exist, fun k e => e, B1⟩
  clear HNW O1 B1
  go_wp2_with fail
  refine Calls.mono (newR_any w1 (n0 : Int)) ?_
  intro e w2 h2
  unfold NewR at h2
  rw [if_pos (by omega)] at h2
  obtain ⟨Am, cm, rfl, o2, B2⟩ := h2
  rw [Int.toNat_natCast] at o2 ⊢
  unfold ov
  have HT0 := Lib.hid (TO.start HO1.out o2 B2)
  clear HO1 B2 o2
  generalize hw3 : w2.alloc (.cells #[.int .i64 (n0 : Int), .slice none 0 0, .slice Am n0 cm] 52) = w3 at *
  generalize hbm : w2.heap.size = bm at *
  have HL := Lib.hid HT0.out.on.low
  have HCL : Hid (∀ W, Below w3.heap.size w3 W → W.cell? ⟨bm, 0, none⟩ = some (.int .i64 (n0 : Int))) := Lib.hid (fun W hW => (HT0.out.box.below hW HT0.out.box.lt).at_ 0 rfl)
  by_cases u0 : (24 : Int) < (n0 : Int)
  · clear hfar
    go_upto_region 6 with fail
    clear hw3 hbm
    have hS : Below w3.heap.size w3 w3.drew := (Below.refl _ w3).drew
    refine wp_region_heldG [] (fun _ W => Below w3.heap.size w3 W) (by kernel_rfl) ?_
    change wpAnyG _ _ _ _ _ _ 10 _ _ w3.drew
    refine g_take (i := 0) rfl rfl (by kernel_rfl) (by kernel_rfl) (by kernel_rfl) (by kernel_rfl) (by kernel_rfl) (fun _ _ _ h => h) hS (fun L' W' hL hW => by go_simp; rfl) ?_
    refine g_take (i := 2) rfl rfl (by kernel_rfl) (by kernel_rfl) (by kernel_rfl) (by kernel_rfl) (by kernel_rfl) (fun _ _ _ h => h) hS (fun L' W' hL hW => by go_simp; rfl) ?_
    refine g_take (i := 3) rfl rfl (by kernel_rfl) (by kernel_rfl) (by kernel_rfl) (by kernel_rfl) (by kernel_rfl) (fun _ _ _ h => h) hS (fun L' W' hL hW => by go_simp; rfl) ?_
    refine g_take (i := 4) rfl rfl (by kernel_rfl) (by kernel_rfl) (by kernel_rfl) (by kernel_rfl) (by kernel_rfl) (fun _ _ _ h => h) hS (fun L' W' hL hW => by have k0 := HCL.out _ hW; go_simp; rfl) ?_
    refine g_one (i := 1) rfl rfl (by kernel_rfl) fun K' hK => ?_
    go_simp
    refine Calls.mono (len_o (HT0.out.below hS).on.ord) ?_
    rintro e w5 ⟨rfl, hw5⟩
    subst hw5
    refine hK _ _ hS ?_
    clear hK K'
    refine g_take (i := 5) rfl rfl (by kernel_rfl) (by kernel_rfl) (by kernel_rfl) (by kernel_rfl) (by kernel_rfl) (fun _ _ _ h => h) hS (fun L' W' hL hW => by go_simp; rfl) ?_
    refine g_take (i := 6) rfl rfl (by kernel_rfl) (by kernel_rfl) (by kernel_rfl) (by kernel_rfl) (by kernel_rfl) (fun _ _ _ h => h) hS (fun L' W' hL hW => by go_simp; rfl) ?_
    refine g_one (i := 7) rfl (by simp only [Region.wanted, yielded]; go_simp) (by kernel_rfl) fun K' hK => ?_
    go_simp
    refine Calls.mono (awakeO_any _) ?_
    rintro e w6 ⟨rfl, B6⟩
    have hS : Below w3.heap.size w3 w6 := hS.trans (B6.mono hS.size)
    refine hK _ _ hS ?_
    clear hK K' B6
    refine g_take (i := 8) rfl rfl (by kernel_rfl) (by kernel_rfl) (by kernel_rfl) (by kernel_rfl) (by kernel_rfl) (fun _ _ _ h => h) hS (fun L' W' hL hW => by go_simp; rfl) ?_
    refine g_take (i := 9) rfl rfl (by kernel_rfl) (by kernel_rfl) (by kernel_rfl) (by kernel_rfl) (by kernel_rfl) (fun _ _ _ h => h) hS (fun L' W' hL hW => by go_simp; rfl) ?_
    refine wpAnyG_done (by kernel_rfl) ?_ _
    have HF := Lib.hid (HL.out.trans (hS.mono HL.out.size))
    clear hS HCL
    go_simp
    go_wp2_with fail
    go_ret
    exact ⟨rfl, HF.out⟩
  · have u1 : (50 : Int) < (m : Int) := by omega
    clear hfar
    go_upto_region 6 with fail
    clear hw3 hbm
    have hS : Below w3.heap.size w3 w3.drew := (Below.refl _ w3).drew
    refine wp_region_heldG [] (fun _ W => Below w3.heap.size w3 W) (by kernel_rfl) ?_
    change wpAnyG _ _ _ _ _ _ 10 _ _ w3.drew
    refine g_take (i := 0) rfl rfl (by kernel_rfl) (by kernel_rfl) (by kernel_rfl) (by kernel_rfl) (by kernel_rfl) (fun _ _ _ h => h) hS (fun L' W' hL hW => by go_simp; rfl) ?_
    refine g_take (i := 2) rfl rfl (by kernel_rfl) (by kernel_rfl) (by kernel_rfl) (by kernel_rfl) (by kernel_rfl) (fun _ _ _ h => h) hS (fun L' W' hL hW => by go_simp; rfl) ?_
    refine g_take (i := 3) rfl rfl (by kernel_rfl) (by kernel_rfl) (by kernel_rfl) (by kernel_rfl) (by kernel_rfl) (fun _ _ _ h => h) hS (fun L' W' hL hW => by go_simp; rfl) ?_
    refine g_take (i := 4) rfl rfl (by kernel_rfl) (by kernel_rfl) (by kernel_rfl) (by kernel_rfl) (by kernel_rfl) (fun _ _ _ h => h) hS (fun L' W' hL hW => by have k0 := HCL.out _ hW; go_simp; rfl) ?_
    refine g_one (i := 1) rfl rfl (by kernel_rfl) fun K' hK => ?_
    go_simp
    refine Calls.mono (len_o (HT0.out.below hS).on.ord) ?_
    rintro e w5 ⟨rfl, hw5⟩
    subst hw5
    refine hK _ _ hS ?_
    clear hK K'
    refine g_take (i := 5) rfl rfl (by kernel_rfl) (by kernel_rfl) (by kernel_rfl) (by kernel_rfl) (by kernel_rfl) (fun _ _ _ h => h) hS (fun L' W' hL hW => by go_simp; rfl) ?_
    refine g_take (i := 6) rfl rfl (by kernel_rfl) (by kernel_rfl) (by kernel_rfl) (by kernel_rfl) (by kernel_rfl) (fun _ _ _ h => h) hS (fun L' W' hL hW => by go_simp; rfl) ?_
    refine g_one (i := 7) rfl (by simp only [Region.wanted, yielded]; go_simp) (by kernel_rfl) fun K' hK => ?_
    go_simp
    refine Calls.mono (awakeO_any _) ?_
    rintro e w6 ⟨rfl, B6⟩
    have hS : Below w3.heap.size w3 w6 := hS.trans (B6.mono hS.size)
    refine hK _ _ hS ?_
    clear hK K' B6
    refine g_take (i := 8) rfl rfl (by kernel_rfl) (by kernel_rfl) (by kernel_rfl) (by kernel_rfl) (by kernel_rfl) (fun _ _ _ h => h) hS (fun L' W' hL hW => by go_simp; rfl) ?_
    refine g_take (i := 9) rfl rfl (by kernel_rfl) (by kernel_rfl) (by kernel_rfl) (by kernel_rfl) (by kernel_rfl) (fun _ _ _ h => h) hS (fun L' W' hL hW => by go_simp; rfl) ?_
    refine wpAnyG_done (by kernel_rfl) ?_ _
    have HF := Lib.hid (HL.out.trans (hS.mono HL.out.size))
    clear hS HCL
    go_simp
    go_wp2_with fail
    go_ret
    exact ⟨rfl, HF.out⟩
set_option maxRecDepth 100000 in
set_option maxHeartbeats 16000000 in
theorem tells_err (n : Int) (hn : ¬ (0 ≤ n ∧ n ≤ 10000)) (A : Option Addr) (c : Nat) (m : Nat) (w : World) :
    Calls Try.prog 5 #[.int .i64 n, .slice A m c] w fun e w' => e = .returned (.bool true) ∧ Below w.heap.size w w' := by
  have HNW := Lib.hid (newO_any n w)
  have HNN := Lib.hid hn
  clear hn
  go_enter Try.func5, Try.ntmps5
  go_wp2_with fail
  refine Calls.mono HNW.out ?_
  intro e w1 h1
  unfold ONewOut at h1
  rw [if_neg HNN.out] at h1
  obtain ⟨rfl, B1⟩ := h1
  have HB1 := Lib.hid B1
  clear HNW B1
  go_wp2_with fail
  refine Calls.mono (newR_any w1 n) ?_
  intro e w2 h2
  unfold NewR at h2
  rw [if_neg HNN.out] at h2
  obtain ⟨rfl, B2⟩ := h2
  unfold ov
  have HL : Hid (Below w.heap.size w (w2.alloc (.cells #[.int .i64 0, .slice none 0 0, .slice none 0 0] 52))) := Lib.hid ((HB1.out.trans (B2.mono HB1.out.size)).alloc (Nat.le_trans HB1.out.size B2.size) _)
  have HBX := Lib.hid (Blk.new_ w2 52 #[.int .i64 0, .slice none 0 0, .slice none 0 0] rfl)
  clear HB1 B2
  have HCL : Hid (∀ W, Below (w2.alloc (.cells #[.int .i64 0, .slice none 0 0, .slice none 0 0] 52)).heap.size (w2.alloc (.cells #[.int .i64 0, .slice none 0 0, .slice none 0 0] 52)) W → W.cell? ⟨w2.heap.size, 0, none⟩ = some (.int .i64 0)) := Lib.hid (fun W hW => (HBX.out.below hW HBX.out.lt).at_ 0 rfl)
  clear HBX
  go_upto_region 6 with fail
  generalize hw3 : w2.alloc (.cells #[.int .i64 0, .slice none 0 0, .slice none 0 0] 52) = w3 at *
  generalize hbm : w2.heap.size = bm at *
  clear hw3 hbm
  have hS : Below w3.heap.size w3 w3.drew := (Below.refl _ w3).drew
  refine wp_region_heldG [] (fun _ W => Below w3.heap.size w3 W) (by kernel_rfl) ?_
  change wpAnyG _ _ _ _ _ _ 10 _ _ w3.drew
  refine g_take (i := 0) rfl rfl (by kernel_rfl) (by kernel_rfl) (by kernel_rfl) (by kernel_rfl) (by kernel_rfl) (fun _ _ _ h => h) hS (fun L' W' hL hW => by go_simp; rfl) ?_
  refine g_take (i := 2) rfl rfl (by kernel_rfl) (by kernel_rfl) (by kernel_rfl) (by kernel_rfl) (by kernel_rfl) (fun _ _ _ h => h) hS (fun L' W' hL hW => by go_simp; rfl) ?_
  refine g_take (i := 3) rfl rfl (by kernel_rfl) (by kernel_rfl) (by kernel_rfl) (by kernel_rfl) (by kernel_rfl) (fun _ _ _ h => h) hS (fun L' W' hL hW => by go_simp; rfl) ?_
  refine g_take (i := 4) rfl rfl (by kernel_rfl) (by kernel_rfl) (by kernel_rfl) (by kernel_rfl) (by kernel_rfl) (fun _ _ _ h => h) hS (fun L' W' hL hW => by have k0 := HCL.out _ hW; go_simp; rfl) ?_
  refine g_one (i := 1) rfl rfl (by kernel_rfl) fun K' hK => ?_
  go_simp
  refine Calls.mono (len_nono _ _ (.inl rfl)) ?_
  rintro e w5 ⟨rfl, hw5⟩
  subst hw5
  refine hK _ _ hS ?_
  clear hK K'
  refine g_take (i := 5) rfl rfl (by kernel_rfl) (by kernel_rfl) (by kernel_rfl) (by kernel_rfl) (by kernel_rfl) (fun _ _ _ h => h) hS (fun L' W' hL hW => by go_simp; rfl) ?_
  refine g_take (i := 6) rfl rfl (by kernel_rfl) (by kernel_rfl) (by kernel_rfl) (by kernel_rfl) (by kernel_rfl) (fun _ _ _ h => h) hS (fun L' W' hL hW => by go_simp; rfl) ?_
  refine g_one (i := 7) rfl (by simp only [Region.wanted, yielded]; go_simp) (by kernel_rfl) fun K' hK => ?_
  go_simp
  refine Calls.mono (awakeO_any _) ?_
  rintro e w6 ⟨rfl, B6⟩
  have hS : Below w3.heap.size w3 w6 := hS.trans (B6.mono hS.size)
  refine hK _ _ hS ?_
  clear hK K' B6
  refine g_take (i := 8) rfl rfl (by kernel_rfl) (by kernel_rfl) (by kernel_rfl) (by kernel_rfl) (by kernel_rfl) (fun _ _ _ h => h) hS (fun L' W' hL hW => by go_simp; rfl) ?_
  refine g_take (i := 9) rfl rfl (by kernel_rfl) (by kernel_rfl) (by kernel_rfl) (by kernel_rfl) (by kernel_rfl) (fun _ _ _ h => h) hS (fun L' W' hL hW => by go_simp; rfl) ?_
  refine wpAnyG_done (by kernel_rfl) ?_ _
  have HF := Lib.hid (HL.out.trans (hS.mono HL.out.size))
  clear hS HCL
  go_simp
  go_wp2_with fail
  go_ret
  exact ⟨rfl, HF.out⟩
theorem tells_walk (n : Int) (A : Option Addr) (c : Nat) (l : List (Bool × Int × Int)) (m : Nat) (hm : m = l.length) (hmc : m ≤ c) (hcm : c ≤ maxLen) (w : World) (hI : OCalls w w.heap.size A l) :
    Calls Try.prog 5 #[.int .i64 n, .slice A m c] w fun e w' => e = .returned (.bool true) ∧ Below w.heap.size w w' := by
  by_cases hin : 0 ≤ n ∧ n ≤ 10000
  · obtain ⟨n0, rfl⟩ : ∃ n0 : Nat, n = n0 := ⟨n.toNat, by omega⟩
    by_cases h1 : 24 < n0 ∨ 50 < m
    · exact tells_far n0 (by omega) A c m hmc hcm h1 w
    · exact tells_main n0 (by omega) A c l m hm hmc hcm (by omega) w hI
  · exact tells_err n hin A c m w
end Go.Proofs.Ytpikdjaedbogdaa.OrW
