/-
  The walk of up's iterator.
-/
import Derived.RangeFuncNested
import Derived.RangeFuncBound
import Derived.RangeFuncCalls
import Derived.RangeFuncLeaves
import Derived.Shelf.Abstract
import Derived.Shelf.RegionOpen
import Derived.OwnWalkIn
import Derived.TacticsInMore
import Derived.LoopNIn
import Derived.LoopIn
import Derived.Test.YtcdjhafpnfgnlaaScopeWalks3
import Derived.Test.YtcdjhafpnfgnlaaWordsRange
namespace Go.Proofs.Ytcdjhafpnfgnlaa.ScW
set_option linter.unusedVariables false
open Go.RowKit Go.Shelf Go.Proofs Go.Proofs.Ytcdjhafpnfgnlaa Go.Proofs.Ytcdjhafpnfgnlaa.Wd
open Go.Proofs.Ytcdjhafpnfgnlaa.Sc (N own flow rightAt right chain place chainI deep over below owned)
attribute [local go_sem] Oper.semAt_some

/-- What is still to come from an owner on. -/
def rest (ns : List N) (o : Int) : List Nat := if 0 ≤ o then o.toNat :: chain ns o.toNat else []
theorem chain_rest {ns : List N} (h : right ns = true) {j : Nat} (hj : j < ns.length) : chain ns j = rest ns (own ns j) := by
  obtain ⟨h1, h2, _⟩ := Sc.right_at h hj
  unfold rest
  by_cases h0 : 0 ≤ own ns j
  · rw [if_pos h0, Sc.chain_some h0 h2]
  · rw [if_neg h0, Sc.chain_none (by omega)]
theorem rest_nat (ns : List N) (j : Nat) : rest ns (j : Int) = j :: chain ns j := by unfold rest; rw [if_pos (by omega)]; rfl
theorem rest_neg {ns : List N} {o : Int} (h : o < 0) : rest ns o = [] := by unfold rest; rw [if_neg (by omega)]

set_option maxRecDepth 100000 in
set_option maxHeartbeats 2000000 in
theorem up1_in (l B1 B2 n₀ : Nat) (A : Option Addr) (c : Nat) (ns : List N) (n : Nat) (hn : n = ns.length) (hnc : n ≤ c) (hcm : n ≤ 1000000000000000) (hr : right ns = true) (i : Int) (J : List Nat → World → Prop) (Jx : List Nat → Nat → World → Prop)
    (hY : ∀ pre (j : Nat) (W : World), J pre W → (∃ r, chainI ns i = pre ++ j :: r) → YieldAt Fence.wide 8 Try.prog l #[.int .i64 j] W fun en W' =>
      (en = .returned (.bool true) ∧ J (pre ++ [j]) W' ∧ Below n₀ W W' ∧ W'.heap[B1]? = W.heap[B1]? ∧ W'.heap[B2]? = W.heap[B2]?) ∨ (en = .returned (.bool false) ∧ Jx pre j W'))
    (W : World) (hn₀ : n₀ ≤ W.heap.size) (hB1 : Blk W B1 23 #[.slice A n c]) (hB2 : Blk W B2 3 #[.int .i64 i]) (hI : Nodes W n₀ A ns) (h0 : J [] W) :
    CallsIn Fence.wide 9 Try.prog 28 #[.func (.yield l) #[] #[], .pointer (some ⟨B1, 0, none⟩), .pointer (some ⟨B2, 0, none⟩)] W fun e W' => (∃ v, e = .returned v) ∧
      (J (chainI ns i) W' ∨ ∃ pre j r, chainI ns i = pre ++ j :: r ∧ Jx pre j W') := by
  have HN := Lib.hid hn
  have HR := Lib.hid hr
  clear hn hr
  have b1 : W.cell? ⟨B1, 0, none⟩ = some (.slice A n c) := Blk.at_ hB1 0 rfl
  have b2 : W.cell? ⟨B2, 0, none⟩ = some (.int .i64 i) := Blk.at_ hB2 0 rfl
  refine callsIn_of_wp Try.func28 rfl trivial ?_ rfl
  simp only [Try.ntmps28, List.size_toArray, List.length_cons, List.length_nil, Nat.reduceAdd, Nat.reduceSub, Array.replicate_succ, Array.replicate_zero, List.push_toArray, List.append_toArray, List.nil_append, List.cons_append]
  gi_wp2_with fail
  refine ⟨trivial, ?_⟩
  refine (callsIn_wide.2 (place_any A c ns n HN.out i W)).mono ?_
  rintro e w1 ⟨rfl, rfl⟩
  cases hp : place ns i
  · have hc : Hid (chainI ns i = []) := Lib.hid (by unfold chainI; rw [hp]; rfl)
    clear hp
    gi_wp2
    refine bodyPost_ret (results_none rfl _ _ _) rfl ?_
    exact ⟨⟨_, rfl⟩, .inl (by rw [hc.out]; exact h0)⟩
  · obtain ⟨m, rfl⟩ : ∃ m : Nat, i = m := ⟨i.toNat, by unfold place at hp; simp at hp; omega⟩
    have hml : m < ns.length := by unfold place at hp; simp at hp; exact hp
    have hmn : m < n := by have := HN.out; omega
    obtain ⟨bb, off, rfl, hbb, hco⟩ := hI.own_at hml
    have hcI : Hid (chainI ns (m : Int) = rest ns (own ns m)) := Lib.hid (by unfold chainI; rw [hp]; exact chain_rest HR.out hml)
    have hob := Sc.right_at HR.out hml
    obtain ⟨o0, ho0⟩ : ∃ o0, o0 = own ns m := ⟨_, rfl⟩
    rw [← ho0] at hco hob
    have hcI2 : Hid (chainI ns (m : Int) = [] ++ rest ns o0) := Lib.hid (by rw [hcI.out, ho0]; rfl)
    have hb1 := hob.1
    have hb2 := hob.2.1
    clear hob ho0 hp hcI
    gi_wp2
    gi_loopw [4] (fun o wr => ∃ (x : Int) (pre : List Nat), -1 ≤ x ∧ x < n ∧ o = .int .i64 x ∧ RowKit.Hid (chainI ns (m : Int) = pre ++ rest ns x) ∧ J pre wr ∧ Below n₀ W wr ∧ Blk wr B1 23 #[.slice (some ⟨bb, off, none⟩) n c])
      (fun o _ => (intOf o + 1).toNat)
    case atStart => exact ⟨o0, [], hb1, by omega, rfl, hcI2, h0, Below.refl _ _, hB1⟩
    case round =>
      clear hco hb1 hb2 hcI2 b1 b2 hB1 h0
      obtain ⟨x, pre, hx1, hx2, rfl, hC, hJ, hB, hbx⟩ := hrel
      by_cases hx : x < 0
      · have u1 : ¬ (0 : Int) ≤ x := by omega
        have hC2 : Hid (chainI ns (m : Int) = pre) := Lib.hid (by rw [hC.out, rest_neg hx, List.append_nil])
        gi_wp2
        go_end0
        exact ⟨⟨_, rfl⟩, .inl (by rw [hC2.out]; exact hJ)⟩
      · obtain ⟨j, rfl⟩ : ∃ j : Nat, x = j := ⟨x.toNat, by omega⟩
        have hjn : j < n := by omega
        have hjl : j < ns.length := by have := HN.out; omega
        have u1 : (0 : Int) ≤ (j : Int) := by omega
        obtain ⟨_, _, e2, _, hco⟩ := hI.own_at hjl
        cases e2
        have hob := Sc.right_at HR.out hjl
        have hC2 : Hid (chainI ns (m : Int) = pre ++ j :: chain ns j) := Lib.hid (by rw [hC.out, rest_nat])
        have hC3 : Hid (chainI ns (m : Int) = (pre ++ [j]) ++ rest ns (own ns j)) := Lib.hid (by rw [hC2.out, chain_rest HR.out hjl]; simp)
        obtain ⟨o1, ho1⟩ : ∃ o1, o1 = own ns j := ⟨_, rfl⟩
        rw [← ho1] at hco hob hC3
        have hb1 := hob.1
        have hb2 := hob.2.1
        clear hob ho1 hC
        obtain ⟨fn, tmps, assign, body, hy, hRr⟩ := hY pre j wr hJ ⟨_, hC2.out⟩
        gi_wp2
        refine hRr.mono ?_
        rintro e W3 (⟨rfl, hJ3, hk3, hk4, hk5⟩ | ⟨rfl, hx3⟩)
        · have hB3 := hB.trans hk3
          have hbx3 : Blk W3 B1 23 #[.slice (some ⟨bb, off, none⟩) n c] := hk4.trans hbx
          have c1 : W3.cell? ⟨B1, 0, none⟩ = some (.slice (some ⟨bb, off, none⟩) n c) := Blk.at_ hbx3 0 rfl
          have c2 := (hB3.cell (p := ⟨bb, _, none⟩) hbb).trans hco
          have i1 : (j : Int) < (n : Int) := by omega
          gi_wp2
          go_roundw
          case rel => exact ⟨o1, _, hb1, by omega, rfl, hC3, hJ3, hB3, hbx3⟩
          case measure => simp [intOf]; omega
        · gi_wp2
          refine bodyPost_ret (results_none rfl _ _ _) rfl ?_
          exact ⟨⟨_, rfl⟩, .inr ⟨_, _, _, hC2.out, hx3⟩⟩
end Go.Proofs.Ytcdjhafpnfgnlaa.ScW
