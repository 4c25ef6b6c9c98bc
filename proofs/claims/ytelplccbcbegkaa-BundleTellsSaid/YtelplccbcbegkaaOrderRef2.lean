/-
  The document's order: New.
-/
import Derived.Test.YtelplccbcbegkaaOrderRef1
namespace Go.Proofs.Ytelplccbcbegkaa.OrW
set_option linter.unusedVariables false
open Go Go.RowKit Go.Proofs Go.Proofs.Ytelplccbcbegkaa Go.Proofs.Ytelplccbcbegkaa.Wd Go.Proofs.Ytelplccbcbegkaa.GrW Go.Proofs.Ytelplccbcbegkaa.Ord
open Go.Proofs.Ytelplccbcbegkaa.Gr (OK putL outs intos Path edgesTo ev)

theorem range_zs (i : Nat) : zs (List.range (i + 1)) = zs (List.range i) ++ [(i : Int)] := by rw [List.range_succ, zs_append]; rfl
theorem range_len (i : Nat) : (zs (List.range i)).length = i := by rw [zs_length, List.length_range]
/-- What the document's New answers. -/
def NewR (w : World) (n : Int) (e : Ending) (w' : World) : Prop :=
  if 0 ≤ n ∧ n ≤ 10000 then ∃ Am cm, e = .returned (.tuple #[ov n.toNat none 0 0 Am n.toNat cm, .int .i64 0]) ∧ w'.ownsRow w.heap.size 3 1 (.slice Am n.toNat cm) n.toNat (iv (zs (List.range n.toNat))) ∧ Below w.heap.size w w'
  else e = .returned (.tuple #[ov 0 none 0 0 none 0 0, .int .i64 2]) ∧ Below w.heap.size w w'
set_option maxRecDepth 100000 in
set_option maxHeartbeats 4000000 in
theorem newR_any (w : World) (n : Int) : Calls Try.prog 25 #[.int .i64 n] w (NewR w n) := by
  have HA : Hid (Below w.heap.size w (w.alloc (.cells #[.int .i64 0, .slice none 0 0, .slice none 0 0] 55))) := Lib.hid ((Below.refl _ w).alloc (Nat.le_refl _) _)
  have HZ := Lib.hid (Blk.new_ w 55 #[.int .i64 0, .slice none 0 0, .slice none 0 0] rfl)
  have HR := Lib.hid (refnew_any (w.alloc (.cells #[.int .i64 0, .slice none 0 0, .slice none 0 0] 55)) n)
  by_cases hn : 0 ≤ n ∧ n ≤ 10000
  · have HN := Lib.hid hn
    obtain ⟨m, rfl⟩ : ∃ m : Nat, n = m := ⟨n.toNat, by omega⟩
    have hm : m ≤ 10000 := by omega
    clear hn
    go_enter Try.func25, Try.ntmps25
    go_wp2_with fail
    refine Calls.mono HR.out ?_
    rintro e w1 ⟨rfl, b1⟩
    rw [if_pos HN.out, Int.toNat_natCast]
    have HB1 := Lib.hid (HA.out.trans (b1.mono HA.out.size))
    have HZ1 := Lib.hid (HZ.out.below b1 HZ.out.lt)
    have HS1 : Hid (w.heap.size + 1 ≤ w1.heap.size) := Lib.hid (by have := b1.size; simp at this; omega)
    clear HR HA HZ b1
    unfold rv
    have HW2 : Hid (Below w1.heap.size w1 ((w1.alloc (.cells #[.int .i64 (m : Int), .slice none 0 0] 53)).alloc (.cells #[.int .i64 (m : Int), .slice none 0 0, .slice none 0 0] 55))) := Lib.hid (((Below.refl _ w1).alloc (Nat.le_refl _) _).alloc (by simp) _)
    have HX2 : Hid (Blk ((w1.alloc (.cells #[.int .i64 (m : Int), .slice none 0 0] 53)).alloc (.cells #[.int .i64 (m : Int), .slice none 0 0, .slice none 0 0] 55)) (w1.heap.size + 1) 55 #[.int .i64 (m : Int), .slice none 0 0, .slice none 0 0]) := Lib.hid (Blk.new_ _ _ _ (by simp))
    go_wp2_with fail
    go_loopw [7] (fun ix wr => ∃ i : Nat, i ≤ m ∧ ix = .int .i64 i ∧ Hid (∃ v, Below w1.heap.size w1 wr ∧ Blk wr (w1.heap.size + 1) 55 #[.int .i64 (m : Int), .slice none 0 0, v] ∧ wr.ownsRow w1.heap.size 3 1 v i (iv (zs (List.range i))))) (fun ix _ => m - (intOf ix).toNat)
    case atStart => exact ⟨0, Nat.zero_le _, rfl, Lib.hid ⟨_, HW2.out, HX2.out, own_nil _ _ _⟩⟩
    case round =>
      obtain ⟨i, hi, rfl, HT⟩ := hrel
      clear HW2 HX2
      obtain ⟨v, hB, hX, hO⟩ := HT.out
      obtain ⟨Av, cv, hv⟩ := own_form hO
      subst hv
      have HBr := Lib.hid hB
      have HXr := Lib.hid hX
      have HOr := Lib.hid hO
      by_cases hlt : i < m
      · have c2 := hX.at_ 2 rfl
        have HLT := Lib.hid hlt
        have i2 : (i : Int) < (m : Int) := by omega
        have hsz := hB.size
        have hBN := Blk.new_ wr 3 #[.int .i64 (i : Nat)] rfl
        have hne : (Value.slice Av i cv).ownBlock ≠ some (w1.heap.size + 1) := own_blk_ne hO hX (by decide)
        have HNE := Lib.hid hne
        have hrl := range_len i
        clear hB hX hO HT hne
        go_wp2_with (at_builtin; refine wpList_push rfl (.tmp 25) (.tmp 27) rfl w1.heap.size (.slice Av i cv) i (zs (List.range i)) hrl.symm rfl (HOr.out.alloc _) wr.heap.size (i : Nat) rfl hBN (by omega) (by simp; omega) ?_)
        intro v6 w6 o6 g6 ob6
        have hX6 := (HXr.out.alloc (.cells #[.int .i64 (i : Nat)] 3)).grown g6 (fun e => HNE.out e.symm)
        have hB6 := (HBr.out.alloc hsz (.cells #[.int .i64 (i : Nat)] 3)).grown g6 (by simp; omega) (fun g hg => (own_row HOr.out hg).1)
        have c6 := hX6.at_ 2 rfl
        have f6 := hX6.frozen 2
        have hne6 := own_blk_ne o6 hX6 (by decide)
        obtain ⟨A6, c6', hv6⟩ := own_form o6
        subst hv6
        have HN2 : Hid (∃ v, Below w1.heap.size w1 (w6.setCell ⟨w1.heap.size + 1, 2, none⟩ (.slice A6 (i + 1) c6')) ∧ Blk (w6.setCell ⟨w1.heap.size + 1, 2, none⟩ (.slice A6 (i + 1) c6')) (w1.heap.size + 1) 55 #[.int .i64 (m : Int), .slice none 0 0, v] ∧ (w6.setCell ⟨w1.heap.size + 1, 2, none⟩ (.slice A6 (i + 1) c6')).ownsRow w1.heap.size 3 1 v (i + 1) (iv (zs (List.range (i + 1))))) := Lib.hid ⟨_, hB6.setCell (p := ⟨w1.heap.size + 1, 2, none⟩) (by simp) _, hX6.set_ 2 _, by rw [range_zs]; exact own_far o6 hne6 _⟩
        clear o6 g6 ob6 hX6 hB6 hne6 hBN c2 HNE hrl
        go_wp2_with fail
        go_roundw
        case rel => exact ⟨i + 1, by have := HLT.out; omega, by go_num, HN2⟩
        case measure => simp [intOf]; have := HLT.out; omega
      · have i2 : ¬ (i : Int) < (m : Int) := by omega
        have him : i = m := by omega
        subst him
        have c0 := hX.at_ 0 rfl
        have c1 := hX.at_ 1 rfl
        have c2 := hX.at_ 2 rfl
        have hZr := HZ1.out.below hB (by have := HS1.out; omega)
        have z0 := hZr.at_ 0 rfl
        have f0 := hZr.frozen 0
        have k1 := hZr.set_ 0 (.int .i64 (i : Int))
        have z1 := k1.at_ 1 rfl
        have f1 := k1.frozen 1
        have k2 := k1.set_ 1 (.slice none 0 0)
        have z2 := k2.at_ 2 rfl
        have f2 := k2.frozen 2
        have K3 := Lib.hid (k2.set_ 2 (.slice Av i cv))
        have HFIN : Hid (NewR w (i : Int) (.returned (.tuple #[ov i none 0 0 Av i cv, .int .i64 0])) (((wr.setCell ⟨w.heap.size, 0, none⟩ (.int .i64 (i : Int))).setCell ⟨w.heap.size, 1, none⟩ (.slice none 0 0)).setCell ⟨w.heap.size, 2, none⟩ (.slice Av i cv))) := Lib.hid (by
          unfold NewR
          rw [if_pos HN.out, Int.toNat_natCast]
          have hne : (Value.slice Av i cv).ownBlock ≠ some w.heap.size := own_blk_ne hO hZr (by decide)
          have hsz := HB1.out.size
          refine ⟨Av, cv, rfl, own_base (own_far (own_far (own_far hO hne _) hne _) hne _) hsz, ?_⟩
          exact ((((HB1.out.trans (hB.mono hsz)).setCell (p := ⟨w.heap.size, 0, none⟩) (Nat.le_refl _) _).setCell (p := ⟨w.heap.size, 1, none⟩) (Nat.le_refl _) _).setCell (p := ⟨w.heap.size, 2, none⟩) (Nat.le_refl _) _))
        clear hB hX hO HT hZr k1 k2
        go_wp2_with fail
        refine bodyPost_ret (results_cell_row2 rfl _ _ w.heap.size 55 #[.int .i64 (i : Int), .slice none 0 0, .slice Av i cv] (0, 0) _ rfl K3.out.out Try.underlying55 rfl (by kernel_rfl)) rfl ?_
        exact HFIN.out
  · have HN := Lib.hid hn
    go_enter Try.func25, Try.ntmps25
    go_wp2_with fail
    refine Calls.mono HR.out ?_
    rintro e w1 ⟨rfl, b1⟩
    rw [if_neg HN.out]
    have HB1 := Lib.hid (HA.out.trans (b1.mono HA.out.size))
    have HZ1 := Lib.hid (HZ.out.below b1 HZ.out.lt)
    clear HR HA HZ b1 hn
    unfold rv
    have HB2 : Hid (Below w.heap.size w (w1.alloc (.cells #[.int .i64 0, .slice none 0 0] 53))) := Lib.hid (HB1.out.alloc HB1.out.size _)
    have HZ2 := Lib.hid (HZ1.out.alloc (.cells #[.int .i64 0, .slice none 0 0] 53))
    have z0 := HZ2.out.at_ 0 rfl
    have f0 := HZ2.out.frozen 0
    have k1 := HZ2.out.set_ 0 (.int .i64 0)
    have z1 := k1.at_ 1 rfl
    have f1 := k1.frozen 1
    have k2 := k1.set_ 1 (.slice none 0 0)
    have z2 := k2.at_ 2 rfl
    have f2 := k2.frozen 2
    have K3 := Lib.hid (k2.set_ 2 (.slice none 0 0))
    have HB3 := Lib.hid (((HB2.out.setCell (p := ⟨w.heap.size, 0, none⟩) (Nat.le_refl _) (.int .i64 0)).setCell (p := ⟨w.heap.size, 1, none⟩) (Nat.le_refl _) (.slice none 0 0)).setCell (p := ⟨w.heap.size, 2, none⟩) (Nat.le_refl _) (.slice none 0 0))
    clear k1 k2
    go_wp2_with fail
    refine bodyPost_ret (results_cell_row2 rfl _ _ w.heap.size 55 #[.int .i64 0, .slice none 0 0, .slice none 0 0] (0, 0) _ rfl K3.out.out Try.underlying55 rfl (by kernel_rfl)) rfl ?_
    unfold NewR
    rw [if_neg HN.out]
    exact ⟨rfl, HB3.out⟩
end Go.Proofs.Ytelplccbcbegkaa.OrW
