/-
  The walks of slices.Chunk and Cut.
-/
import Derived.RangeFuncNested
import Derived.RangeFuncBound
import Derived.RangeFuncCalls
import Derived.RangeFuncLeaves
import Derived.Shelf.Abstract
import Derived.Shelf.RegionOpen
import Derived.OwnWalkIn
import Derived.TacticsInMore
import Derived.LoopNIn
import Derived.LoopIn
import Derived.Test.YtnclbonoenjbeaaBatTake
import Derived.Test.YtnclbonoenjbeaaWordsRange
import Derived.Test.YtnclbonoenjbeaaWordsRoundApp
namespace Go.Proofs.Ytnclbonoenjbeaa.BatW
set_option linter.unusedVariables false
open Go.RowKit Go.Shelf Go.Proofs Go.Proofs.Ytnclbonoenjbeaa Go.Proofs.Ytnclbonoenjbeaa.Wd Go.Proofs.Ytnclbonoenjbeaa.RecW
open Go.Proofs.Ytnclbonoenjbeaa.Bat (B)
attribute [local go_sem] Oper.semAt_some

/-- A chunk of n bytes that lie in block G, from k on. -/
def chunkV (G n k : Nat) : Value := .slice (some ⟨G, k, none⟩) (min 4096 (n - k)) (min 4096 (n - k))
def parts (n : Nat) : Nat := (n + 4095) / 4096
set_option maxRecDepth 100000 in
set_option maxHeartbeats 2000000 in
theorem chunk1_in (l B1 B2 n₀ G : Nat) (A : Option Addr) (c n : Nat) (hnc : n ≤ c) (hcm : n ≤ 1000000000000) (hc : c ≤ maxLen) (hA : 0 < n → A = some ⟨G, 0, none⟩) (J : Nat → World → Prop) (hJd : ∀ j W, J j W → J j W.drew)
    (hY : ∀ (j : Nat) (W : World), J j W → 4096 * j < n → YieldAt Fence.wide 8 Try.prog l #[chunkV G n (4096 * j)] W fun en W' =>
      en = .returned (.bool true) ∧ J (j + 1) W' ∧ Below n₀ W W' ∧ W'.heap[B1]? = W.heap[B1]? ∧ W'.heap[B2]? = W.heap[B2]?)
    (W : World) (hn₀ : n₀ ≤ W.heap.size) (hB1 : Blk W B1 24 #[.slice A n c]) (hB2 : Blk W B2 3 #[.int .i64 4096]) (h0 : J 0 W) :
    CallsIn Fence.wide 9 Try.prog 49 #[.func (.yield l) #[] #[], .pointer (some ⟨B1, 0, none⟩), .pointer (some ⟨B2, 0, none⟩)] W fun e W' => (∃ v, e = .returned v) ∧ J (parts n) W' := by
  unfold maxLen at hc
  refine callsIn_of_wp Try.func49 rfl trivial ?_ rfl
  simp only [Try.ntmps49, List.size_toArray, List.length_cons, List.length_nil, Nat.reduceAdd, Nat.reduceSub, Array.replicate_succ, Array.replicate_zero, List.push_toArray, List.append_toArray, List.nil_append, List.cons_append]
  gi_wp2
  gi_loopw [4] (fun o wr => ∃ j k : Nat, o = .int .i64 k ∧ k ≤ n + 4095 ∧ RowKit.Hid (k = 4096 * j) ∧ RowKit.Hid (j ≤ parts n) ∧ J j wr ∧ Below n₀ W wr ∧ Blk wr B1 24 #[.slice A n c] ∧ Blk wr B2 3 #[.int .i64 4096])
    (fun o _ => n - (intOf o).toNat)
  case atStart => exact ⟨0, 0, rfl, by omega, Lib.hid rfl, Lib.hid (Nat.zero_le _), h0, Below.refl _ _, hB1, hB2⟩
  case round =>
    clear hB1 hB2 h0
    obtain ⟨j, k, rfl, hk, HK, HJP, hJ, hB, hB1, hB2⟩ := hrel
    have b1 : wr.cell? ⟨B1, 0, none⟩ = some (.slice A n c) := Blk.at_ hB1 0 rfl
    have b2 : wr.cell? ⟨B2, 0, none⟩ = some (.int .i64 4096) := Blk.at_ hB2 0 rfl
    by_cases hlt : k < n
    · have hA' := hA (by omega)
      subst hA'
      have g5 : (k : Int) ≤ (n : Int) := by omega
      have g4 : ¬ c = k := by omega
      gi_wp2_with fail
      refine wpIn_wide.2 (wp_region_heldG [] (fun _ W' => W'.cell? ⟨B1, 0, none⟩ = some (.slice (some ⟨G, 0, none⟩) n c) ∧ W'.cell? ⟨B2, 0, none⟩ = some (.int .i64 4096)) (by kernel_rfl) ?_)
      have hS : wr.drew.cell? ⟨B1, 0, none⟩ = some (.slice (some ⟨G, 0, none⟩) n c) ∧ wr.drew.cell? ⟨B2, 0, none⟩ = some (.int .i64 4096) := ⟨b1, b2⟩
      change wpAnyG _ _ _ _ _ _ 7 _ _ wr.drew
      -- take0 take1 take2 take3 take4 one5 take6 done
      refine g_take (i := 0) rfl rfl (by kernel_rfl) (by kernel_rfl) (by kernel_rfl) (by kernel_rfl) (by kernel_rfl) (fun _ _ _ h => h) hS (fun L W hL hW => by have c1 := hW.1; have c2 := hW.2; go_simp; rfl) ?_
      refine g_take (i := 1) rfl rfl (by kernel_rfl) (by kernel_rfl) (by kernel_rfl) (by kernel_rfl) (by kernel_rfl) (fun _ _ _ h => h) hS (fun L W hL hW => by have c1 := hW.1; have c2 := hW.2; go_simp; rfl) ?_
      refine g_take (i := 2) rfl rfl (by kernel_rfl) (by kernel_rfl) (by kernel_rfl) (by kernel_rfl) (by kernel_rfl) (fun _ _ _ h => h) hS (fun L W hL hW => by go_simp; rfl) ?_
      refine g_take (i := 3) rfl rfl (by kernel_rfl) (by kernel_rfl) (by kernel_rfl) (by kernel_rfl) (by kernel_rfl) (fun _ _ _ h => h) hS (fun L W hL hW => by go_simp; rfl) ?_
      refine g_take (i := 4) rfl rfl (by kernel_rfl) (by kernel_rfl) (by kernel_rfl) (by kernel_rfl) (by kernel_rfl) (fun _ _ _ h => h) hS (fun L W hL hW => by go_simp; rfl) ?_
      refine g_one (i := 5) rfl rfl (by kernel_rfl) fun K hK => ?_
      go_simp
      refine hK _ _ hS ?_
      clear hK K
      refine g_take (i := 6) rfl rfl (by kernel_rfl) (by kernel_rfl) (by kernel_rfl) (by kernel_rfl) (by kernel_rfl) (fun _ _ _ h => h) hS (fun L W hL hW => by go_simp; rfl) ?_
      refine wpAnyG_done (by kernel_rfl) ?_ _
      go_simp
      by_cases hm : n - k < 4096
      · have u1 : (n : Int) - (k : Int) < 4096 := by omega
        have u2 : ((n - k : Nat) : Int) < 4096 := by omega
        have hcv : chunkV G n (4096 * j) = .slice (some ⟨G, k, none⟩) (n - k) (n - k) := by rw [← HK.out]; unfold chunkV; rw [Nat.min_eq_right (by omega)]
        have HY := hY j wr.drew (hJd _ _ hJ) (by have := HK.out; omega)
        rw [hcv] at HY
        obtain ⟨fn, tmps, assign, body, hy, hRr⟩ := HY
        have HB := Lib.hid hB.drew
        clear hcv hJ hB b1 b2
        gi_wp2_with fail
        refine hRr.mono ?_
        rintro e W3 ⟨rfl, hJ3, hk3, hk4, hk5⟩
        have hB3 := HB.out.trans hk3
        have hb1 : Blk W3 B1 24 #[.slice (some ⟨G, 0, none⟩) n c] := hk4.trans hB1
        have hb2 : Blk W3 B2 3 #[.int .i64 4096] := hk5.trans hB2
        have c2 : W3.cell? ⟨B2, 0, none⟩ = some (.int .i64 4096) := Blk.at_ hb2 0 rfl
        have HK2 : Hid (k + 4096 = 4096 * (j + 1)) := Lib.hid (by have := HK.out; omega)
        have HP2 : Hid (j + 1 ≤ parts n) := Lib.hid (by have := HK.out; unfold parts; omega)
        gi_wp2
        go_roundw
        case rel => exact ⟨j + 1, k + 4096, by go_num, by omega, HK2, HP2, hJ3, hB3, hb1, hb2⟩
        case measure => simp [intOf]; omega
      · have u1 : ¬ (n : Int) - (k : Int) < 4096 := by omega
        have u2 : ¬ ((n - k : Nat) : Int) < 4096 := by omega
        have hcv : chunkV G n (4096 * j) = .slice (some ⟨G, k, none⟩) (4096) (4096) := by rw [← HK.out]; unfold chunkV; rw [Nat.min_eq_left (by omega)]
        have HY := hY j wr.drew (hJd _ _ hJ) (by have := HK.out; omega)
        rw [hcv] at HY
        obtain ⟨fn, tmps, assign, body, hy, hRr⟩ := HY
        have HB := Lib.hid hB.drew
        clear hcv hJ hB b1 b2
        gi_wp2_with fail
        refine hRr.mono ?_
        rintro e W3 ⟨rfl, hJ3, hk3, hk4, hk5⟩
        have hB3 := HB.out.trans hk3
        have hb1 : Blk W3 B1 24 #[.slice (some ⟨G, 0, none⟩) n c] := hk4.trans hB1
        have hb2 : Blk W3 B2 3 #[.int .i64 4096] := hk5.trans hB2
        have c2 : W3.cell? ⟨B2, 0, none⟩ = some (.int .i64 4096) := Blk.at_ hb2 0 rfl
        have HK2 : Hid (k + 4096 = 4096 * (j + 1)) := Lib.hid (by have := HK.out; omega)
        have HP2 : Hid (j + 1 ≤ parts n) := Lib.hid (by have := HK.out; unfold parts; omega)
        gi_wp2
        go_roundw
        case rel => exact ⟨j + 1, k + 4096, by go_num, by omega, HK2, HP2, hJ3, hB3, hb1, hb2⟩
        case measure => simp [intOf]; omega
    · have HE : Hid (j = parts n) := Lib.hid (by have h1 := HK.out; have h2 := HJP.out; unfold parts at *; omega)
      gi_wp2
      go_end0
      exact ⟨⟨_, rfl⟩, by rw [← HE.out]; exact hJ⟩
end Go.Proofs.Ytnclbonoenjbeaa.BatW
