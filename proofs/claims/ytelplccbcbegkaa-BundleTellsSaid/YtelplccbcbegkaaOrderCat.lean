/-
  The walks of slices.Sort, Sorted, Grow and Concat at []int.
-/
import Derived.Test.YtelplccbcbegkaaOrderSeq
namespace Go.Proofs.Ytelplccbcbegkaa.OrW
set_option linter.unusedVariables false
open Go Go.RowKit Go.Shelf Go.Proofs Go.Proofs.Ytelplccbcbegkaa Go.Proofs.Ytelplccbcbegkaa.Wd Go.Proofs.Ytelplccbcbegkaa.GrW Go.Proofs.Ytelplccbcbegkaa.Ord

/-- Numbers, sorted. -/
def srt (l : List Int) : List Int := l.mergeSort fun x y => decide (x ≤ y)
theorem srt_length (l : List Int) : (srt l).length = l.length := List.length_mergeSort _
theorem sort_any (w : World) (base : Nat) (v : Value) (l : List Int) (hne : l ≠ []) (hl : l.length ≤ 1000000) (h : w.ownsRow base 3 1 v l.length (iv l)) :
    Calls Try.prog 77 #[v] w fun e w' => e = .returned (.tuple #[]) ∧ w'.ownsRow base 3 1 v l.length (iv (srt l)) ∧ w.grownBy w' v.ownBlock := by
  rcases h.2 with ⟨h1, h2⟩ | ⟨g, cap, cur, hv, hg, hh, h1, h2, h3, h4⟩
  · exact absurd (List.eq_nil_of_length_eq_zero h2) hne
  · subst hv
    rw [Nat.mul_one] at h4
    refine (Any.slices_Sort_int OrL.lays189 g 0 cap l w (holds_of_blockI hh h4) (Array.getElem?_eq_some_iff.1 hh).1 (by omega)).mono ?_
    rintro e w' ⟨rfl, n, os, rfl⟩
    exact ⟨rfl, ownsRow_sortedI (srt_length l) hg hh h1 h2 h3, grownBy_sortedI _⟩
theorem sorted_any (B1 : Nat) (A : Option Addr) (c : Nat) (xs : List Int) (n : Nat) (hn : n = xs.length) (hne : xs ≠ []) (hcm : n ≤ 1000000) (w : World)
    (hB1 : Blk w B1 27 #[.slice A n c]) (hI : Nums w w.heap.size A xs) :
    Calls Try.prog 70 #[.func (.func 80) #[] #[.pointer (some ⟨B1, 0, none⟩)]] w (NumsOut w (srt xs)) := by
  have HA := Lib.hid (collect_any B1 A c xs n hn (by omega) w hB1 hI)
  have HL : Hid (xs.length ≤ 1000000) := Lib.hid (by omega)
  have HNE := Lib.hid hne
  clear hn hcm hB1 hI hne
  go_enter Try.func70, Try.ntmps70
  go_wp2_with fail
  refine Calls.mono HA.out ?_
  rintro e w1 ⟨v, rfl, ho, hb⟩
  obtain ⟨A1, c1, rfl⟩ := own_form ho
  have HS := Lib.hid (sort_any w1 w.heap.size _ xs HNE.out HL.out ho)
  have HB := Lib.hid hb
  have HO := Lib.hid ho
  clear HA ho hb
  generalize hm : xs.length = m at *
  have HM := Lib.hid hm
  clear hm
  go_wp2_with fail
  refine Calls.mono HS.out ?_
  rintro e w2 ⟨rfl, o2, g2⟩
  have HF : Hid (NumsOut w (srt xs) (.returned (.slice A1 m c1)) w2) := Lib.hid (by
    refine ⟨_, rfl, by rw [srt_length, HM.out]; exact o2, HB.out.grown g2 HB.out.size (fun g hg => (own_row HO.out hg).1)⟩)
  clear HS HB HO o2 g2
  go_wp2_with fail
  go_ret
  exact HF.out
set_option maxRecDepth 100000 in
/-- A row of the call's own with nothing in it. -/
theorem growi_any (n : Nat) (hn : n ≤ 1000000) (w : World) : Calls Try.prog 78 #[.slice none 0 0, .int .i64 n] w (NumsOut w []) := by
  obtain ⟨i0, hi0, hz0, hz1, hz2⟩ := info_parts infoInt0
  by_cases h0 : n = 0
  · subst h0
    go_enter Try.func78, Try.ntmps78
    go_wp2
    go_ret
    exact ⟨_, rfl, own_nil _ _ _, Below.refl _ _⟩
  · have u1 : (0 : Int) < (n : Int) := by omega
    have hrun := fun ty => Lib.run_append_nil_zeros (P := Try.prog) w 27 3 ty 3 i0 _ .i64 .i64 Try.underlying27 Try.underlying3 hi0 hz0 n (by omega) (by rw [hz1]; decide) (by omega) (by rw [hz2]; omega)
    have HRUN := Lib.hid hrun
    have hge := grownCap_ge w n 0 3
    have hle := grownCap_le_maxLen w n 0 3 (by unfold maxLen; omega)
    have hz : (Value.int .i64 0).cells = #[.int .i64 0] := rfl
    generalize grownCap w n 0 3 = cp at *
    have hcur : (Builtin.zeroCells (Value.int .i64 0).cells n ++ Builtin.zeroCells (Value.int .i64 0).cells (cp - n)).size = cp := by
      simp [size_zeroCells, hz]; omega
    have HF : Hid (NumsOut w [] (.returned (.slice (some ⟨w.heap.size, 0, none⟩) 0 cp)) (w.drew.alloc (.cells (Builtin.zeroCells (Value.int .i64 0).cells n ++ Builtin.zeroCells (Value.int .i64 0).cells (cp - n)) 3))) := Lib.hid (by
      refine ⟨_, rfl, ⟨rfl, .inr ⟨w.heap.size, cp, _, rfl, Nat.le_refl _, Blk.new_ w.drew _ _ rfl, Nat.zero_le _, hle, by rw [hcur]; omega, by simp [iv]⟩⟩, ((Below.refl _ w).drew).alloc (Nat.le_refl _) _⟩)
    clear hrun hz hcur
    go_enter Try.func78, Try.ntmps78
    go_wp2_with (at_builtin; refine Lib.wpList_append_run _ rfl (.tmp 20) (.tmp 21) 27 3 rfl (.slice none 0 0) (.int .i64 n) rfl rfl _ _ (HRUN.out _) ?_)
    clear HRUN
    go_wp2_with fail
    go_ret
    exact HF.out
/-- Rows of numbers whose slices lie one behind the other. -/
def NRows (w : World) (b : Nat) (R : List (List Int)) : Prop := b < w.heap.size ∧ ∀ k (h : k < R.length), ∃ A c, w.cell? ⟨b, k, none⟩ = some (.slice A R[k].length c) ∧ Nums w w.heap.size A R[k]
def many (R : List (List Int)) : Nat := (R.map List.length).sum
theorem many_take {R : List (List Int)} {k : Nat} (h : k < R.length) : many (R.take (k + 1)) = many (R.take k) + R[k].length := by
  unfold many
  rw [List.take_succ_eq_append_getElem h, List.map_append, List.sum_append]; simp
theorem many_flat (R : List (List Int)) : R.flatten.length = many R := List.length_flatten
theorem many_le (R : List (List Int)) (k : Nat) : many (R.take k) ≤ many R := by
  have h2 : many R = many (R.take k) + many (R.drop k) := by
    conv => lhs; rw [← List.take_append_drop k R]
    unfold many; rw [List.map_append, List.sum_append]
  omega
theorem flat_take {R : List (List Int)} {k : Nat} (h : k < R.length) : (R.take (k + 1)).flatten = (R.take k).flatten ++ R[k] := by
  rw [List.take_succ_eq_append_getElem h, List.flatten_append]; simp
set_option maxRecDepth 100000 in
set_option maxHeartbeats 4000000 in
theorem concat_any (b n c : Nat) (R : List (List Int)) (hn : n = R.length) (hn1 : n ≤ 1000000) (hm : many R ≤ 1000000) (w : World) (hI : NRows w b R) :
    Calls Try.prog 69 #[.slice (some ⟨b, 0, none⟩) n c] w (NumsOut w R.flatten) := by
  obtain ⟨i0, hi0, hz0, hz1, hz2⟩ := info_parts infoInt0
  have HN := Lib.hid hn
  have HM := Lib.hid hm
  clear hn hm
  go_enter Try.func69, Try.ntmps69
  go_wp2
  go_loop [3, 11] (fun v i => ∃ k s : Nat, k ≤ n ∧ i = .int .i64 k ∧ v = .int .i64 s ∧ s ≤ 1000000 ∧ Hid (s = many (R.take k))) (fun _ i => n - (intOf i).toNat)
  case atStart => exact ⟨0, 0, Nat.zero_le _, rfl, rfl, by omega, Lib.hid rfl⟩
  case round =>
    obtain ⟨k, s, hk, rfl, rfl, hs, HS⟩ := hrel
    by_cases hlt : k < n
    · have hkl : k < R.length := by have := HN.out; omega
      obtain ⟨A', c', hc, h3⟩ := hI.2 k hkl
      have HE := Lib.hid (many_take hkl)
      have HB : Hid (many (R.take (k + 1)) ≤ 1000000) := Lib.hid (Nat.le_trans (many_le R (k + 1)) HM.out)
      generalize R[k] = d at *
      have i1 : (0 : Int) ≤ (k : Int) := by omega
      have i2 : (k : Int) < (n : Int) := by omega
      have hsd : s + d.length ≤ 1000000 := by have h1 := HB.out; rw [HE.out, ← HS.out] at h1; exact h1
      have HT : Hid (s + d.length = many (R.take (k + 1))) := Lib.hid (by rw [HE.out, ← HS.out])
      have u1 : ¬ ((s : Int) + (d.length : Int) < 0) := by omega
      clear h3 HS HE HB
      generalize d.length = q at *
      go_wp2_with fail
      go_round
      case rel => exact ⟨k + 1, s + q, by omega, by go_num, by go_num, hsd, HT⟩
      case measure => simp [intOf]; omega
    · obtain rfl : k = n := by omega
      clear HS
      go_wp2_with fail
      refine Calls.mono (growi_any s hs w) ?_
      rintro e w1 ⟨v1, rfl, ho1, hb1⟩
      have HO1 := Lib.hid ho1
      have HB1 := Lib.hid hb1
      clear ho1 hb1
      go_wp2_with fail
      go_loopw [6, 27] (fun v i wr => ∃ (j : Nat) (l : List Int), j ≤ k ∧ i = .int .i64 j ∧ l.length ≤ 1000000 ∧ Hid (l = (R.take j).flatten) ∧ Hid (wr.ownsRow w.heap.size 3 1 v l.length (iv l)) ∧ Hid (Below w.heap.size w wr)) (fun _ i _ => k - (intOf i).toNat)
      case atStart => exact ⟨0, [], Nat.zero_le _, rfl, Nat.zero_le _, Lib.hid rfl, HO1, HB1⟩
      case round =>
        clear HO1 HB1
        obtain ⟨j, l, hj, rfl, hl, HT, HO, HB⟩ := hrel
        by_cases hlt2 : j < k
        · have hkl : j < R.length := by have := HN.out; omega
          obtain ⟨A', c', hc, h3⟩ := hI.2 j hkl
          have HE := Lib.hid (flat_take hkl)
          have HLE : Hid ((R.take (j + 1)).flatten.length ≤ 1000000) := Lib.hid (by rw [many_flat]; exact Nat.le_trans (many_le R (j + 1)) HM.out)
          generalize R[j] = d at *
          have hc' := (HB.out.cell (p := ⟨b, j, none⟩) hI.1).trans hc
          have HD := Lib.hid ((Nums.below h3 HB.out).more HB.out.size)
          have i1 : (0 : Int) ≤ (j : Int) := by omega
          have i2 : (j : Int) < (k : Int) := by omega
          have HT2 : Hid (l ++ d = (R.take (j + 1)).flatten) := Lib.hid (by rw [HE.out, HT.out])
          have hld : (l ++ d).length ≤ 1000000 := by rw [HT2.out]; exact HLE.out
          have hld2 : l.length + d.length ≤ 1000000 := by rw [List.length_append] at hld; exact hld
          clear hc h3 HT HE HLE
          go_wp2_with (at_builtin; refine wpList_append_row _ rfl (.tmp 31) (.tmp 32) _ rfl w.heap.size 3 i0 _ 8 Try.underlying27 hi0 hz0 hz1 hz2 rfl _ l.length (iv l) rfl (by exact HO.out) wr.heap.size A' d.length c' (iv d) rfl (iv_length d).symm (by exact HD.out) (iv_one d) (by unfold maxLen; omega) (by omega) (by exact HB.out.size) ?_)
          intro v2 w2 hown hgrow _ _
          have HB2 := Lib.hid (HB.out.grown hgrow HB.out.size (fun g hg => (own_row HO.out hg).1))
          have HO2 : Hid (w2.ownsRow w.heap.size 3 1 v2 (l ++ d).length (iv (l ++ d))) := Lib.hid (by rw [List.length_append, iv_append]; exact hown)
          clear hown hgrow HO HB HD
          go_wp2_with fail
          go_roundw
          case rel => exact ⟨j + 1, l ++ d, by omega, by go_num, hld, HT2, HO2, HB2⟩
          case measure => simp [intOf]; omega
        · obtain rfl : j = k := by omega
          obtain ⟨A2, c2, hv2⟩ := own_form HO.out
          subst hv2
          have HF : Hid (NumsOut w R.flatten (.returned (.slice A2 l.length c2)) wr) := Lib.hid (by
            have e : l = R.flatten := by rw [HT.out, List.take_of_length_le (by have := HN.out; omega)]
            rw [← e]
            exact ⟨_, rfl, HO.out, HB.out⟩)
          clear HO HT
          generalize l.length = q at *
          go_wp2_with fail
          go_ret
          exact HF.out
end Go.Proofs.Ytelplccbcbegkaa.OrW
