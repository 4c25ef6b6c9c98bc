/-
  GraphTells, whatever comes: of a number that may not be, and of more than is walked, the graph is as empty as the document's.
-/
import Derived.Test.YtclbpohhmaojcaaGraphTellsWalk
namespace Go.Proofs.Ytclbpohhmaojcaa.GrW
set_option linter.unusedVariables false
open Go Go.RowKit Go.Proofs Go.Proofs.Ytclbpohhmaojcaa Go.Proofs.Ytclbpohhmaojcaa.Wd
open Go.Proofs.Ytclbpohhmaojcaa.Gr (OK ofL IsR outs intos ev edgesTo putL cutL)
/-- What an argument of numbers reads as. -/
theorem gnums_arg {w : World} {a : Option Addr} {len cap : Nat} {zs : List Int}
    (h : (a = none ∧ len = 0 ∧ cap = 0 ∧ zs = []) ∨ ∃ x, a = some x ∧ len ≤ cap ∧ cap ≤ maxLen ∧ zs.length = cap ∧ (∀ i, i < zs.length → w.cell? (x.add i) = some (.int .i64 (zs.getD i 0))) ∧ ∀ n ∈ zs, (Lit.int .i64 n).wf = true) :
    ∃ l : List Int, len = l.length ∧ len ≤ cap ∧ cap ≤ maxLen ∧ Nums w w.heap.size a l := by
  rcases h with ⟨rfl, rfl, rfl, rfl⟩ | ⟨x, rfl, h1, h2, h3, h4, h5⟩
  · exact ⟨[], rfl, Nat.le_refl _, by simp [maxLen], Row.nil⟩
  · refine ⟨zs.take len, by simp; omega, h1, h2, fun j hj => ?_⟩
    have hj' : j < len := by simp [iv] at hj; omega
    obtain ⟨b, off, spot⟩ := x
    have hc := h4 j (by omega)
    have hspot : spot = none := by
      have h0 := World.cell?_spot (h4 0 (by omega))
      simpa [Addr.add] using h0
    subst hspot
    rw [Addr.add_lit] at hc
    refine ⟨b, off, rfl, block_lt_of_cell hc, ?_⟩
    rw [hc]
    have hg : zs.getD j 0 = zs[j]'(by omega) := by simp [show j < zs.length by omega]
    rw [hg]
    simp [iv]
set_option maxRecDepth 100000 in
set_option maxHeartbeats 16000000 in
theorem tells_big (n0 : Nat) (hn : n0 ≤ 10000) (A : Option Addr) (c m : Nat) (hmc : m ≤ c) (hcm : c ≤ maxLen) (hb : 40 < n0 ∨ 60 < m) (v2 : Value) (w : World) :
    Calls Try.prog 7 #[.int .i64 (n0 : Int), .slice A m c, v2] w fun e w' => e = .returned (.bool true) ∧ Below w.heap.size w w' := by
  have HNW := Lib.hid (new_any (n0 : Int) w)
  unfold maxLen at hcm
  go_enter Try.func7, Try.ntmps7
  go_wp2_with fail
  refine Calls.mono HNW.out ?_
  intro e w1 h1
  unfold NewOut at h1
  rw [if_pos (by omega)] at h1
  obtain ⟨g, rfl, G1, B1⟩ := h1
  rw [Int.toNat_natCast] at G1
  have HG1 := Lib.hid G1
  have HB1 := Lib.hid B1
  clear HNW G1 B1
  go_wp2_with fail
  refine Calls.mono (refnew_any w1 (n0 : Int)) ?_
  rintro e w2' ⟨rfl, B2⟩
  rw [if_pos (by omega), Int.toNat_natCast]
  have HT := Lib.hid ((HB1.out.trans (B2.mono HB1.out.size)).alloc (Nat.le_trans HB1.out.size B2.size) (.cells #[.int .i64 (n0 : Int), .slice none 0 0] 52))
  have HG := Lib.hid ((HG1.out.exist.below B2).below ((Below.refl _ w2').alloc (Nat.le_refl _) (.cells #[.int .i64 (n0 : Int), .slice none 0 0] 52)))
  have HBX := Lib.hid (Blk.new_ w2' 52 #[.int .i64 (n0 : Int), .slice none 0 0] rfl)
  unfold rv
  clear HG1 HB1 B2
  by_cases hn40 : 40 < n0
  · have u0 : (40 : Int) < (n0 : Int) := by omega
    clear hb hn40
    go_upto_region 6 with fail
    generalize w2'.alloc _ = w2 at *
    generalize w2'.heap.size = bm at *
    have hS : Below w2.heap.size w2 w2.drew := (Below.refl _ w2).drew
    refine wp_region_heldG [] (fun _ W => Below w2.heap.size w2 W) (by kernel_rfl) ?_
    change wpAnyG _ _ _ _ _ _ 9 _ _ w2.drew
    refine g_take (i := 0) rfl rfl (by kernel_rfl) (by kernel_rfl) (by kernel_rfl) (by kernel_rfl) (by kernel_rfl) (fun _ _ _ h => h) hS (fun L W hL hW => by go_simp; rfl) ?_
    refine g_take (i := 2) rfl rfl (by kernel_rfl) (by kernel_rfl) (by kernel_rfl) (by kernel_rfl) (by kernel_rfl) (fun _ _ _ h => h) hS (fun L W hL hW => by go_simp; rfl) ?_
    refine g_take (i := 3) rfl rfl (by kernel_rfl) (by kernel_rfl) (by kernel_rfl) (by kernel_rfl) (by kernel_rfl) (fun _ _ _ h => h) hS (fun L W hL hW => by have k0 := HBX.out.below hW HBX.out.lt |>.at_ 0 rfl; go_simp; rfl) ?_
    refine g_one (i := 1) rfl rfl (by kernel_rfl) fun K hK => ?_
    go_simp
    refine Calls.mono (len_g (HG.out.below hS)) ?_
    rintro e w' ⟨rfl, rfl⟩
    refine hK _ _ hS ?_
    clear hK K
    refine g_take (i := 4) rfl rfl (by kernel_rfl) (by kernel_rfl) (by kernel_rfl) (by kernel_rfl) (by kernel_rfl) (fun _ _ _ h => h) hS (fun L W hL hW => by go_simp; rfl) ?_
    refine g_take (i := 5) rfl rfl (by kernel_rfl) (by kernel_rfl) (by kernel_rfl) (by kernel_rfl) (by kernel_rfl) (fun _ _ _ h => h) hS (fun L W hL hW => by go_simp; rfl) ?_
    refine g_one (i := 6) rfl (by simp only [Region.wanted, yielded]; go_simp) (by kernel_rfl) fun K hK => ?_
    go_simp
    refine Calls.mono (awake_any _) ?_
    rintro e w5 ⟨rfl, B5⟩
    have hS : Below w2.heap.size w2 w5 := hS.trans (B5.mono hS.size)
    refine hK _ _ hS ?_
    clear hK K B5
    refine g_take (i := 7) rfl rfl (by kernel_rfl) (by kernel_rfl) (by kernel_rfl) (by kernel_rfl) (by kernel_rfl) (fun _ _ _ h => h) hS (fun L W hL hW => by go_simp; rfl) ?_
    refine g_take (i := 8) rfl rfl (by kernel_rfl) (by kernel_rfl) (by kernel_rfl) (by kernel_rfl) (by kernel_rfl) (fun _ _ _ h => h) hS (fun L W hL hW => by go_simp; rfl) ?_
    refine wpAnyG_done (by kernel_rfl) ?_ _
    have HB9 := Lib.hid (HT.out.trans (hS.mono HT.out.size))
    clear hS HT
    go_simp
    go_wp2_with fail
    go_ret
    exact ⟨rfl, HB9.out⟩
  · have u0 : ¬ (40 : Int) < (n0 : Int) := by omega
    have u1 : (60 : Int) < (m : Int) := by omega
    clear hb hn40
    go_upto_region 6 with fail
    generalize w2'.alloc _ = w2 at *
    generalize w2'.heap.size = bm at *
    have hS : Below w2.heap.size w2 w2.drew := (Below.refl _ w2).drew
    refine wp_region_heldG [] (fun _ W => Below w2.heap.size w2 W) (by kernel_rfl) ?_
    change wpAnyG _ _ _ _ _ _ 9 _ _ w2.drew
    refine g_take (i := 0) rfl rfl (by kernel_rfl) (by kernel_rfl) (by kernel_rfl) (by kernel_rfl) (by kernel_rfl) (fun _ _ _ h => h) hS (fun L W hL hW => by go_simp; rfl) ?_
    refine g_take (i := 2) rfl rfl (by kernel_rfl) (by kernel_rfl) (by kernel_rfl) (by kernel_rfl) (by kernel_rfl) (fun _ _ _ h => h) hS (fun L W hL hW => by go_simp; rfl) ?_
    refine g_take (i := 3) rfl rfl (by kernel_rfl) (by kernel_rfl) (by kernel_rfl) (by kernel_rfl) (by kernel_rfl) (fun _ _ _ h => h) hS (fun L W hL hW => by have k0 := HBX.out.below hW HBX.out.lt |>.at_ 0 rfl; go_simp; rfl) ?_
    refine g_one (i := 1) rfl rfl (by kernel_rfl) fun K hK => ?_
    go_simp
    refine Calls.mono (len_g (HG.out.below hS)) ?_
    rintro e w' ⟨rfl, rfl⟩
    refine hK _ _ hS ?_
    clear hK K
    refine g_take (i := 4) rfl rfl (by kernel_rfl) (by kernel_rfl) (by kernel_rfl) (by kernel_rfl) (by kernel_rfl) (fun _ _ _ h => h) hS (fun L W hL hW => by go_simp; rfl) ?_
    refine g_take (i := 5) rfl rfl (by kernel_rfl) (by kernel_rfl) (by kernel_rfl) (by kernel_rfl) (by kernel_rfl) (fun _ _ _ h => h) hS (fun L W hL hW => by go_simp; rfl) ?_
    refine g_one (i := 6) rfl (by simp only [Region.wanted, yielded]; go_simp) (by kernel_rfl) fun K hK => ?_
    go_simp
    refine Calls.mono (awake_any _) ?_
    rintro e w5 ⟨rfl, B5⟩
    have hS : Below w2.heap.size w2 w5 := hS.trans (B5.mono hS.size)
    refine hK _ _ hS ?_
    clear hK K B5
    refine g_take (i := 7) rfl rfl (by kernel_rfl) (by kernel_rfl) (by kernel_rfl) (by kernel_rfl) (by kernel_rfl) (fun _ _ _ h => h) hS (fun L W hL hW => by go_simp; rfl) ?_
    refine g_take (i := 8) rfl rfl (by kernel_rfl) (by kernel_rfl) (by kernel_rfl) (by kernel_rfl) (by kernel_rfl) (fun _ _ _ h => h) hS (fun L W hL hW => by go_simp; rfl) ?_
    refine wpAnyG_done (by kernel_rfl) ?_ _
    have HB9 := Lib.hid (HT.out.trans (hS.mono HT.out.size))
    clear hS HT
    go_simp
    go_wp2_with fail
    go_ret
    exact ⟨rfl, HB9.out⟩
set_option maxRecDepth 100000 in
set_option maxHeartbeats 16000000 in
theorem tells_err (n0 : Int) (hn : ¬ (0 ≤ n0 ∧ n0 ≤ 10000)) (v1 v2 : Value) (w : World) :
    Calls Try.prog 7 #[.int .i64 n0, v1, v2] w fun e w' => e = .returned (.bool true) ∧ Below w.heap.size w w' := by
  have HNW := Lib.hid (new_any n0 w)
  have HN0 := Lib.hid hn
  clear hn
  go_enter Try.func7, Try.ntmps7
  go_wp2_with fail
  refine Calls.mono HNW.out ?_
  intro e w1 h1
  unfold NewOut at h1
  rw [if_neg HN0.out] at h1
  obtain ⟨rfl, rfl⟩ := h1
  have HB1 := Lib.hid (Below.refl w1.heap.size w1)
  clear HNW
  go_wp2_with fail
  refine Calls.mono (refnew_any w1 n0) ?_
  rintro e w2' ⟨rfl, B2⟩
  rw [if_neg HN0.out]
  have HT := Lib.hid ((HB1.out.trans (B2.mono HB1.out.size)).alloc (Nat.le_trans HB1.out.size B2.size) (.cells #[.int .i64 ((0 : Nat) : Int), .slice none 0 0] 52))
  have HBX := Lib.hid (Blk.new_ w2' 52 #[.int .i64 ((0 : Nat) : Int), .slice none 0 0] rfl)
  unfold rv
  clear HB1 B2 HN0
  go_upto_region 6 with fail
  generalize w2'.alloc _ = w2 at *
  generalize w2'.heap.size = bm at *
  have hS : Below w2.heap.size w2 w2.drew := (Below.refl _ w2).drew
  refine wp_region_heldG [] (fun _ W => Below w2.heap.size w2 W) (by kernel_rfl) ?_
  change wpAnyG _ _ _ _ _ _ 9 _ _ w2.drew
  refine g_take (i := 0) rfl rfl (by kernel_rfl) (by kernel_rfl) (by kernel_rfl) (by kernel_rfl) (by kernel_rfl) (fun _ _ _ h => h) hS (fun L W hL hW => by go_simp; rfl) ?_
  refine g_take (i := 2) rfl rfl (by kernel_rfl) (by kernel_rfl) (by kernel_rfl) (by kernel_rfl) (by kernel_rfl) (fun _ _ _ h => h) hS (fun L W hL hW => by go_simp; rfl) ?_
  refine g_take (i := 3) rfl rfl (by kernel_rfl) (by kernel_rfl) (by kernel_rfl) (by kernel_rfl) (by kernel_rfl) (fun _ _ _ h => h) hS (fun L W hL hW => by have k0 := HBX.out.below hW HBX.out.lt |>.at_ 0 rfl; go_simp; rfl) ?_
  refine g_one (i := 1) rfl rfl (by kernel_rfl) fun K hK => ?_
  go_simp
  refine Calls.mono (len_non _ _ (.inl rfl)) ?_
  rintro e w' ⟨rfl, rfl⟩
  refine hK _ _ hS ?_
  clear hK K
  refine g_take (i := 4) rfl rfl (by kernel_rfl) (by kernel_rfl) (by kernel_rfl) (by kernel_rfl) (by kernel_rfl) (fun _ _ _ h => h) hS (fun L W hL hW => by go_simp; rfl) ?_
  refine g_take (i := 5) rfl rfl (by kernel_rfl) (by kernel_rfl) (by kernel_rfl) (by kernel_rfl) (by kernel_rfl) (fun _ _ _ h => h) hS (fun L W hL hW => by go_simp; rfl) ?_
  refine g_one (i := 6) rfl (by simp only [Region.wanted, yielded]; go_simp) (by kernel_rfl) fun K hK => ?_
  go_simp
  refine Calls.mono (awake_any _) ?_
  rintro e w5 ⟨rfl, B5⟩
  have hS : Below w2.heap.size w2 w5 := hS.trans (B5.mono hS.size)
  refine hK _ _ hS ?_
  clear hK K B5
  refine g_take (i := 7) rfl rfl (by kernel_rfl) (by kernel_rfl) (by kernel_rfl) (by kernel_rfl) (by kernel_rfl) (fun _ _ _ h => h) hS (fun L W hL hW => by go_simp; rfl) ?_
  refine g_take (i := 8) rfl rfl (by kernel_rfl) (by kernel_rfl) (by kernel_rfl) (by kernel_rfl) (by kernel_rfl) (fun _ _ _ h => h) hS (fun L W hL hW => by go_simp; rfl) ?_
  refine wpAnyG_done (by kernel_rfl) ?_ _
  have HB9 := Lib.hid (HT.out.trans (hS.mono HT.out.size))
  clear hS HT
  go_simp
  go_wp2_with fail
  go_ret
  exact ⟨rfl, HB9.out⟩
theorem tells_walk (n0 : Int) (A : Option Addr) (c : Nat) (l : List (Nat × Int × Int)) (hmc : l.length ≤ c) (hcm : c ≤ maxLen) (Aa : Option Addr) (ca : Nat) (la : List Int) (ma : Nat) (hma : ma = la.length) (hmca : ma ≤ ca) (hcma : ca ≤ maxLen) (w : World) (hI : CallsAt w w.heap.size A l) (hJ : Nums w w.heap.size Aa la) :
    Calls Try.prog 7 #[.int .i64 n0, .slice A l.length c, .slice Aa ma ca] w fun e w' => e = .returned (.bool true) ∧ Below w.heap.size w w' := by
  by_cases h : 0 ≤ n0 ∧ n0 ≤ 10000
  · obtain ⟨k, rfl⟩ : ∃ k : Nat, n0 = k := ⟨n0.toNat, by omega⟩
    by_cases h2 : k ≤ 40 ∧ l.length ≤ 60
    · exact tells_main k h2.1 A c l _ rfl hmc hcm h2.2 Aa ca la ma hma hmca hcma w hI hJ
    · exact tells_big k (by omega) A c _ hmc hcm (by omega) _ w
  · exact tells_err n0 h _ _ w
end Go.Proofs.Ytclbpohhmaojcaa.GrW
