/-
  The walks of slices.Values' iterator, AppendSeq, Collect, Sorted, Sort, Grow, Concat at []int.
-/
import Derived.RangeFuncNested
import Derived.RangeFuncBound
import Derived.RangeFuncCalls
import Derived.RangeFuncLeaves
import Derived.Shelf.Abstract
import Derived.Shelf.RegionOpen
import Derived.OwnWalkIn
import Derived.TacticsInMore
import Derived.LoopNIn
import Derived.LoopIn
import Derived.Lib.AppendZeros
import Derived.Test.YtelplccbcbegkaaOrderWalks1
namespace Go.Proofs.Ytelplccbcbegkaa.OrW
set_option linter.unusedVariables false
open Go Go.RowKit Go.Shelf Go.Proofs Go.Proofs.Ytelplccbcbegkaa Go.Proofs.Ytelplccbcbegkaa.Wd Go.Proofs.Ytelplccbcbegkaa.GrW Go.Proofs.Ytelplccbcbegkaa.Ord
attribute [local go_sem] Oper.semAt_some

set_option maxRecDepth 100000 in
set_option maxHeartbeats 2000000 in
theorem val1_in (l B1 n₀ : Nat) (A : Option Addr) (c : Nat) (xs : List Int) (n : Nat) (hn : n = xs.length) (hcm : n ≤ 1000000000000000) (J : List Int → World → Prop) (Jx : List Int → Int → World → Prop)
    (hY : ∀ pre (j : Int) (W : World), J pre W → (∃ r, xs = pre ++ j :: r) → YieldAt Fence.wide 8 Try.prog l #[.int .i64 j] W fun en W' =>
      (en = .returned (.bool true) ∧ J (pre ++ [j]) W' ∧ Below n₀ W W' ∧ W'.heap[B1]? = W.heap[B1]?) ∨ (en = .returned (.bool false) ∧ Jx pre j W'))
    (W : World) (hn₀ : n₀ ≤ W.heap.size) (hB1 : Blk W B1 27 #[.slice A n c]) (hI : Nums W n₀ A xs) (h0 : J [] W) :
    CallsIn Fence.wide 9 Try.prog 80 #[.func (.yield l) #[] #[], .pointer (some ⟨B1, 0, none⟩)] W fun e W' => (∃ v, e = .returned v) ∧
      (J xs W' ∨ ∃ pre j r, xs = pre ++ j :: r ∧ Jx pre j W') := by
  have HN := Lib.hid hn
  clear hn
  have b1 : W.cell? ⟨B1, 0, none⟩ = some (.slice A n c) := Blk.at_ hB1 0 rfl
  refine callsIn_of_wp Try.func80 rfl trivial ?_ rfl
  simp only [Try.ntmps80, List.size_toArray, List.length_cons, List.length_nil, Nat.reduceAdd, Nat.reduceSub, Array.replicate_succ, Array.replicate_zero, List.push_toArray, List.append_toArray, List.nil_append, List.cons_append]
  gi_wp2_with fail
  gi_loopw [7] (fun o wr => ∃ k : Nat, k ≤ n ∧ o = .int .i64 k ∧ J (xs.take k) wr ∧ Below n₀ W wr) (fun o _ => n - (intOf o).toNat)
  case atStart => exact ⟨0, Nat.zero_le _, rfl, h0, Below.refl _ _⟩
  case round =>
    clear b1 h0
    obtain ⟨k, hk, rfl, hJ, hB⟩ := hrel
    by_cases hlt : k < n
    · have hkl : k < xs.length := by have := HN.out; omega
      obtain ⟨bb, off, rfl, hbb, hco⟩ := hI.at_ (j := k) hkl
      have hc2 := (hB.cell (p := ⟨bb, _, none⟩) hbb).trans hco
      have hC2 : Hid (xs = xs.take k ++ xs[k] :: xs.drop (k + 1)) := Lib.hid (by rw [← List.drop_eq_getElem_cons hkl, List.take_append_drop])
      have hC3 : Hid (xs.take (k + 1) = xs.take k ++ [xs[k]]) := Lib.hid (List.take_succ_eq_append_getElem hkl)
      obtain ⟨fn, tmps, assign, body, hy, hRr⟩ := hY _ xs[k] wr hJ ⟨_, hC2.out⟩
      have i1 : (0 : Int) ≤ (k : Int) := by omega
      have i2 : (k : Int) < (n : Int) := by omega
      generalize xs[k] = y at *
      gi_wp2
      refine hRr.mono ?_
      rintro e W3 (⟨rfl, hJ3, hk3, hk4⟩ | ⟨rfl, hx3⟩)
      · have hB3 := hB.trans hk3
        gi_wp2
        go_roundw
        case rel => exact ⟨k + 1, by omega, by go_num, by rw [hC3.out]; exact hJ3, hB3⟩
        case measure => simp [intOf]; omega
      · gi_wp2
        refine bodyPost_ret (results_none rfl _ _ _) rfl ?_
        exact ⟨⟨_, rfl⟩, .inr ⟨_, _, _, hC2.out, hx3⟩⟩
    · have e : Hid (xs.take k = xs) := Lib.hid (List.take_of_length_le (by have := HN.out; omega))
      gi_wp2
      go_end0
      exact ⟨⟨_, rfl⟩, .inl (by rw [← e.out]; exact hJ)⟩
/-- The sequence's box between two rounds. -/
def SeqHeld (w : World) (pre : List Int) (W : World) : Prop :=
  Below w.heap.size w W ∧ ∃ v, Blk W w.heap.size 27 #[v] ∧ W.ownsRow w.heap.size 3 1 v pre.length (iv pre)
theorem Turns.blk {B : Nat} {W W' : World} (h : Turns B W W') {g : Nat} {t : TypeId} {cs : Array Value} (hg : Blk W g t cs) : Blk W' g t cs := h.cells g _ hg rfl
theorem own_turns {B B' : Nat} {W W' : World} (h : Turns B' W W') {e : TypeId} {size n : Nat} {v : Value} {xs : List Value} (ho : W.ownsRow B e size v n xs) : W'.ownsRow B e size v n xs :=
  own_keep ho fun g hg => by obtain ⟨_, cs, hc⟩ := own_row ho hg; exact (h.cells g _ hc rfl).trans hc.symm
theorem SeqHeld.turns {w W W' : World} {pre : List Int} (h : SeqHeld w pre W) {B : Nat} (hB : w.heap.size ≤ B) (ht : Turns B W W') : SeqHeld w pre W' := by
  obtain ⟨h1, v, h2, h3⟩ := h
  exact ⟨h1.trans (ht.below.mono hB), v, Turns.blk ht h2, own_turns ht h3⟩
abbrev seqV (B1 : Nat) : Value := .func (.func 80) #[] #[.pointer (some ⟨B1, 0, none⟩)]
set_option maxRecDepth 100000 in
set_option maxHeartbeats 4000000 in
theorem appendseq_any (B1 : Nat) (A : Option Addr) (c : Nat) (xs : List Int) (n : Nat) (hn : n = xs.length) (hcm : n ≤ 1000000000) (w : World)
    (hB1 : Blk w B1 27 #[.slice A n c]) (hI : Nums w w.heap.size A xs) :
    Calls Try.prog 86 #[.slice none 0 0, .func (.func 80) #[] #[.pointer (some ⟨B1, 0, none⟩)]] w (NumsOut w xs) := by
  have HLEN := Lib.hid hn
  have b1lt := hB1.lt
  refine (callsIn_wide (n := 10)).1 ?_
  refine callsIn_of_wp_marks Try.func86 rfl trivial ?_ rfl
  simp only [Try.ntmps86, List.size_toArray, List.length_cons, List.length_nil, Nat.reduceAdd, Nat.reduceSub, Array.replicate_succ, Array.replicate_zero, List.push_toArray, List.append_toArray, List.nil_append, List.cons_append]
  gi_wp2_with fail
  have z0 := Blk.new_ w 27 #[.slice none 0 0] rfl
  have hB0 : Below w.heap.size w (w.alloc (.cells #[.slice none 0 0] 27)) := (Below.refl _ w).alloc (Nat.le_refl _) _
  have h0 : SeqHeld w [] (w.alloc (.cells #[.slice none 0 0] 27)) := ⟨hB0, _, z0, own_nil _ _ _⟩
  have hsz : (w.alloc (.cells #[.slice none 0 0] 27)).heap.size = w.heap.size + 1 := by simp
  generalize w.alloc (.cells #[.slice none 0 0] 27) = w6 at *
  refine range_ev (gf := 80) (lb := #[.pointer (some ⟨B1, 0, none⟩)]) rfl (enters_of Try.func80 (by kernel_rfl) rfl)
    (fun x : Int => #[.int .i64 x]) (fun _ => rfl) (fun s x => s ++ [x]) [] (fun s x W => ∃ r, xs = s ++ x :: r) (fun x => true)
    (fun W W' => Below w.heap.size W W') (fun h k => h.trans k) ?kb
    (fun s => s = xs) (fun s x => True) ?seq (SeqHeld w) (fun _ _ _ => False) (fun s W W' h ht => h.turns (by omega) ht) (fun s x W W' h ht => h) (fun s x W W' h ht => h) h0
    (fun s x a' W => a' = { tmps := #[.slice none 0 0, .func (.func 80) #[] #[.pointer (some ⟨B1, 0, none⟩)], .pointer (some ⟨w.heap.size, 0, none⟩), undef, .slice none 0 0, .int .i64 x, .func (.func 80) #[] #[.pointer (some ⟨B1, 0, none⟩)], .int .i64 x, undef, undef, undef, undef, undef], defers := [] })
    (fun s x a' W W' h ht => h) ?assign ?body ?done ?stop
  case kb =>
    intro W l o o' hl ho hc
    exact (Turns.putObj o' (by omega) ho hc).below
  case seq =>
    intro l J Jx W hT hJ hY hj0
    have hBW := hB0.trans (hT.below.mono (by omega))
    refine (val1_in l B1 w.heap.size A c xs n HLEN.out (by omega) J Jx ?_ W hBW.size (hB1.below hBW b1lt) (Nums.below hI hBW) hj0).mono ?_
    · intro pre j W1 hj he
      refine (hY pre j W1 hj he).mono ?_
      rintro en W2 (⟨h1, _, h3, h4⟩ | ⟨h1, h2, h3⟩)
      · exact .inl ⟨h1, h3, h4, h4.block _ b1lt⟩
      · cases h2
    · rintro en W2 ⟨hv, (h1 | ⟨pre, j, r, h1, h2⟩)⟩
      · exact ⟨hv, .inl ⟨_, rfl, h1⟩⟩
      · exact ⟨hv, .inr ⟨pre, j, trivial, h2⟩⟩
  case assign =>
    intro l s x W K hH hE hK
    have HK := Lib.hid hK
    clear hK
    gi_wp2
    exact HK.out _ _ (KeepsOthers.refl _) (Below.refl _ _) hH hE rfl
  case body =>
    rintro l s x a' W hH ⟨r, hE⟩ rfl
    obtain ⟨hB, v, q0, ho⟩ := hH
    obtain ⟨i0, hi0, hz0, hz1, hz2⟩ := info_parts infoInt0
    have hsl : s.length < n := by
      have := HLEN.out
      rw [hE, List.length_append, List.length_cons] at this
      omega
    obtain ⟨A1, cp1, rfl⟩ := own_form ho
    have c0 : W.cell? ⟨w.heap.size, 0, none⟩ = some (.slice A1 s.length cp1) := Blk.at_ q0 0 rfl
    have hBs := hB.size
    clear hE hn
    gi_wp2_with (gi_at_builtin; refine wpListIn_append_lies _ rfl (.tmp 8) (.tmp 10) _ rfl w.heap.size 3 i0 _ 1 8 Try.underlying27 hi0 hz0 hz1 hz2 rfl (by omega) _ s.length _ rfl (ho.alloc _) ⟨W.heap.size, 0, none⟩ 1 1 [.int .i64 x] rfl rfl (World.news_of_block (heap_alloc_new W _)) (by intro u hu; simp at hu; subst hu; rfl) (by omega) (by unfold maxLen; omega) (by omega) (by simp; omega) (W.heap.size + 1) (by simp) ?_)
    intro g cap w2 hown2 hgrow _ _
    have hne := own_blk_ne ho q0 (by decide)
    have q2 := (q0.alloc (.cells #[.int .i64 x] 3)).grown hgrow hne.symm
    have hrow := fun (k : Nat) hk => own_row (ho.alloc (.cells #[.int .i64 x] 3)) (g := k) hk
    have hB2 := ((Below.refl w.heap.size W).alloc hBs (.cells #[.int .i64 x] 3)).grown hgrow (by simp; omega) (fun k hk => (hrow k hk).1)
    have hKO : KeepsOthers W w2 := (KeepsOthers.alloc W _).trans (KeepsOthers.of_grownBy hgrow fun j o hj ho' => by
      obtain ⟨_, cs, hb⟩ := hrow j hj
      have := hb.out.symm.trans ho'
      cases this; rfl)
    have c2 : w2.cell? ⟨w.heap.size, 0, none⟩ = some (.slice A1 s.length cp1) := Blk.at_ q2 0 rfl
    have f2 := q2.frozen 0
    have n2 := own_blk_ne hown2 q2 (by decide)
    have R1 : Hid (World.ownsRow (w2.setCell ⟨w.heap.size, 0, none⟩ (.slice (some ⟨g, 0, none⟩) (s.length + 1) cap)) w.heap.size 3 1 (.slice (some ⟨g, 0, none⟩) (s.length + 1) cap) (s ++ [x]).length (iv (s ++ [x]))) := Lib.hid (by
      rw [iv_append, List.length_append, List.length_singleton]
      exact own_far hown2 n2 _)
    clear hgrow hrow hown2 ho q0 c0 hne
    gi_wp2
    exact ⟨hKO.trans (KeepsOthers.setCell _ _ _), hB2.setCell (Nat.le_refl _) _, rfl, hB.trans (hB2.setCell (Nat.le_refl _) _), _, q2.set_ 0 _, R1.out⟩
  case done =>
    rintro D s W hD rfl ⟨hB, v, q0, ho⟩ hdef
    obtain ⟨A1, cp1, rfl⟩ := own_form ho
    have c0 : W.cell? ⟨w.heap.size, 0, none⟩ = some (.slice A1 s.length cp1) := Blk.at_ q0 0 rfl
    gi_wp2_with fail
    have hT := Turns.putObj (B := w6.heap.size) (.deferred none) hD hdef rfl
    refine ⟨by simp, .inl ⟨_, _, rfl, run_takeDeferred hdef, ?_⟩⟩
    refine ⟨.slice A1 s.length cp1, by simp [results, Try.results86, go_sem], ?_⟩
    exact ⟨_, rfl, own_turns hT ho, hB.trans (hT.below.mono (by omega))⟩
  case stop =>
    rintro D s x W hD _ h _
    exact h.elim
theorem collect_any (B1 : Nat) (A : Option Addr) (c : Nat) (xs : List Int) (n : Nat) (hn : n = xs.length) (hcm : n ≤ 1000000000) (w : World)
    (hB1 : Blk w B1 27 #[.slice A n c]) (hI : Nums w w.heap.size A xs) :
    Calls Try.prog 79 #[.func (.func 80) #[] #[.pointer (some ⟨B1, 0, none⟩)]] w (NumsOut w xs) := by
  have HA := Lib.hid (appendseq_any B1 A c xs n hn hcm w hB1 hI)
  clear hn hcm hB1 hI
  go_enter Try.func79, Try.ntmps79
  go_wp2_with fail
  refine Calls.mono HA.out ?_
  rintro e w1 ⟨v, rfl, ho, hb⟩
  obtain ⟨A1, c1, rfl⟩ := own_form ho
  have HF : Hid (NumsOut w xs (.returned (.slice A1 xs.length c1)) w1) := Lib.hid ⟨_, rfl, ho, hb⟩
  clear HA ho hb
  generalize xs.length = m at *
  go_wp2_with fail
  go_ret
  exact HF.out
theorem values_any (v : Value) (w : World) (h1 : v.cells.size = 1 := by rfl) (hv : ∃ A n c, v = .slice A n c) :
    Calls Try.prog 71 #[v] w fun e w' => e = .returned (.func (.func 80) #[] #[.pointer (some ⟨w.heap.size, 0, none⟩)]) ∧ w.alloc (.cells #[v] 27) = w' := by
  obtain ⟨A, n, c, rfl⟩ := hv
  go_enter Try.func71, Try.ntmps71
  go_wp2
  go_ret
  exact ⟨rfl, rfl⟩
end Go.Proofs.Ytelplccbcbegkaa.OrW
