/-
  The walk of the document's own Cut.
-/
import Derived.Test.YtclbpohhmaojcaaGraphRef2
namespace Go.Proofs.Ytclbpohhmaojcaa.Gr
/-- All edges but one. -/
def flt (u v : Int) (E : List (Int × Int)) : List (Int × Int) := E.filter fun x => !(x.1 == u && x.2 == v)
theorem flt_take {u v : Int} {E : List (Int × Int)} {j : Nat} (h : j < E.length) : flt u v (E.take (j + 1)) = flt u v (E.take j) ++ (if (E[j].1 == u && E[j].2 == v) = true then [] else [E[j]]) := by
  unfold flt
  rw [List.take_succ_eq_append_getElem h, List.filter_append]
  by_cases e : (E[j].1 == u && E[j].2 == v) = true
  · rw [if_pos e]; simp only [List.filter_cons, e]; simp
  · rw [if_neg e]
    have e' : (E[j].1 == u && E[j].2 == v) = false := by simpa using e
    simp only [List.filter_cons, e']; simp
end Go.Proofs.Ytclbpohhmaojcaa.Gr
namespace Go.Proofs.Ytclbpohhmaojcaa.GrW
set_option linter.unusedVariables false
open Go Go.RowKit Go.Proofs Go.Proofs.Ytclbpohhmaojcaa Go.Proofs.Ytclbpohhmaojcaa.Wd
open Go.Proofs.Ytclbpohhmaojcaa.Gr (ev flt)
def RefCutOut (w : World) (n q : Nat) (E : List (Int × Int)) (u v : Int) (e : Ending) (w' : World) : Prop :=
  Below w.heap.size w w' ∧ ∃ A' m c', m = (flt u v E).length ∧ e = .returned (.tuple #[rv n A' m c', .bool (decide (m < q))]) ∧ w'.ownsRow w.heap.size 32 2 (.slice A' m c') m (ev (flt u v E))
set_option maxRecDepth 100000 in
set_option maxHeartbeats 8000000 in
theorem refcut_any (w : World) (n : Nat) (A : Option Addr) (q c : Nat) (E : List (Int × Int)) (hq : q = E.length) (hqc : q ≤ c) (hcm : c ≤ maxLen) (hbig : q ≤ 1000000) (hE : EdgesAt w w.heap.size A E) (u v : Int) : Calls Try.prog 27 #[rv n A q c, .int .i64 u, .int .i64 v] w (RefCutOut w n q E u v) := by
  have hP : PB w ((w.alloc (.cells #[.int .i64 (n : Int), .slice A q c] 52)).alloc (.cells #[.int .i64 0, .slice none 0 0] 52)) n A q c := ⟨((Below.refl _ w).alloc (Nat.le_refl _) _).alloc (by simp) _, (Blk.new_ w _ _ rfl).alloc _, Blk.new_ _ _ _ (by simp)⟩
  have HP := Lib.hid hP
  have HE := Lib.hid hE
  have HQ := Lib.hid hq
  clear hP hE hq hcm
  unfold rv
  go_enter Try.func27, Try.ntmps27
  go_wp2_with fail
  go_loopw [8, 9] (fun l i wr => ∃ (j m : Nat), j ≤ q ∧ i = .int .i64 j ∧ m ≤ j ∧ Hid (m = (flt u v (E.take j)).length ∧ PB w wr n A q c ∧ wr.ownsRow (w.heap.size + 2) 32 2 l m (ev (flt u v (E.take j))))) (fun _ i _ => q - (intOf i).toNat)
  case atStart => exact ⟨0, 0, Nat.zero_le _, rfl, Nat.le_refl _, Lib.hid ⟨rfl, HP.out, World.ownsRow_nil _ _ _ _⟩⟩
  case round =>
    obtain ⟨j, m, hj, rfl, hm2, HS⟩ := hrel
    clear HP
    have HM := Lib.hid HS.out.1
    have HP4 := Lib.hid HS.out.2.1
    have HOW := Lib.hid HS.out.2.2
    have hsz : w.heap.size + 2 ≤ wr.heap.size := HP4.out.b1.lt
    have c1' : wr.cell? ⟨w.heap.size, 1, none⟩ = some (.slice A q c) := HP4.out.b0.at_ 1 rfl
    clear HS
    by_cases hlt : j < q
    · have hjl : j < E.length := by have := HQ.out; omega
      obtain ⟨b, off, rfl, hb, p1, p2⟩ := HE.out j hjl
      have q1 := (HP4.out.low.cell (p := ⟨b, _, none⟩) hb).trans p1
      have q2 := (HP4.out.low.cell (p := ⟨b, _, none⟩) hb).trans p2
      have hF := Gr.flt_take (u := u) (v := v) hjl
      have HFT := Lib.hid hF
      clear hF p1 p2 hb
      generalize E[j] = x at *
      obtain ⟨xf, xt⟩ := x
      clear hjl
      have i1 : (0 : Int) ≤ (j : Int) := by omega
      have i2 : (j : Int) < (q : Int) := by omega
      by_cases e1 : xf = u
      · by_cases e2 : xt = v
        · have f1 : (xf != u) = false := by simpa using e1
          have f2 : (xt != v) = false := by simpa using e2
          have HN : Hid (m = (flt u v (E.take (j + 1))).length ∧ PB w wr n (some ⟨b, off, none⟩) q c ∧ wr.ownsRow (w.heap.size + 2) 32 2 u8 m (ev (flt u v (E.take (j + 1))))) := Lib.hid (by
            rw [HFT.out, if_pos (by simp [e1, e2]), List.append_nil]
            exact ⟨HM.out, HP4.out, HOW.out⟩)
          clear e1 e2 HOW HP4 HM HFT
          go_wp2_with fail
          go_roundw
          case rel => exact ⟨j + 1, m, by omega, by go_num, by omega, HN⟩
          case measure => simp [intOf]; omega
        · have f1 : (xf != u) = false := by simpa using e1
          have f2 : (xt != v) = true := by simpa using e2
          have HK := Lib.hid (show flt u v (E.take (j + 1)) = flt u v (E.take j) ++ [(xf, xt)] by rw [HFT.out, if_neg (by simp [e2])])
          clear e1 e2 HFT
          go_wp2_with (at_builtin; refine wpList_edge rfl (.tmp 36) (.tmp 42) rfl (w.heap.size + 2) _ m (flt u v (E.take j)) rfl (HOW.out.alloc _) wr.heap.size (xf, xt) rfl (Blk.new_ _ _ _ (by simp)) (by omega) (by simp; omega) ?_)
          intro g5 cap5 w5 ho5 hg5
          have HN : Hid (m + 1 = (flt u v (E.take (j + 1))).length ∧ PB w w5 n (some ⟨b, off, none⟩) q c ∧ w5.ownsRow (w.heap.size + 2) 32 2 (.slice (some ⟨g5, 0, none⟩) (m + 1) cap5) (m + 1) (ev (flt u v (E.take (j + 1))))) := Lib.hid (by
            rw [HK.out]
            refine ⟨by rw [List.length_append, ← HM.out]; rfl, (HP4.out.below ((Below.refl _ wr).alloc (Nat.le_refl _) (.cells #[.int .i64 xf, .int .i64 xt] 32))).grown hg5 (fun b0 hb0 => (own_row HOW.out hb0).1), ho5⟩)
          clear ho5 hg5 HOW HP4 HM HK q1 q2 c1'
          go_wp2_with fail
          go_roundw
          case rel => exact ⟨j + 1, m + 1, by omega, by go_num, by omega, HN⟩
          case measure => simp [intOf]; omega
      · have f1 : (xf != u) = true := by simpa using e1
        have HK := Lib.hid (show flt u v (E.take (j + 1)) = flt u v (E.take j) ++ [(xf, xt)] by rw [HFT.out, if_neg (by simp [e1])])
        clear e1 HFT
        go_wp2_with (at_builtin; refine wpList_edge rfl (.tmp 36) (.tmp 42) rfl (w.heap.size + 2) _ m (flt u v (E.take j)) rfl (HOW.out.alloc _) wr.heap.size (xf, xt) rfl (Blk.new_ _ _ _ (by simp)) (by omega) (by simp; omega) ?_)
        intro g5 cap5 w5 ho5 hg5
        have HN : Hid (m + 1 = (flt u v (E.take (j + 1))).length ∧ PB w w5 n (some ⟨b, off, none⟩) q c ∧ w5.ownsRow (w.heap.size + 2) 32 2 (.slice (some ⟨g5, 0, none⟩) (m + 1) cap5) (m + 1) (ev (flt u v (E.take (j + 1))))) := Lib.hid (by
          rw [HK.out]
          refine ⟨by rw [List.length_append, ← HM.out]; rfl, (HP4.out.below ((Below.refl _ wr).alloc (Nat.le_refl _) (.cells #[.int .i64 xf, .int .i64 xt] 32))).grown hg5 (fun b0 hb0 => (own_row HOW.out hb0).1), ho5⟩)
        clear ho5 hg5 HOW HP4 HM HK q1 q2 c1'
        go_wp2_with fail
        go_roundw
        case rel => exact ⟨j + 1, m + 1, by omega, by go_num, by omega, HN⟩
        case measure => simp [intOf]; omega
    · have hjq : j = q := by omega
      subst hjq
      have HT : Hid (E.take j = E) := Lib.hid (List.take_of_length_le (by have := HQ.out; omega))
      rw [HT.out] at HM HOW
      obtain ⟨A9, c9, h9⟩ := own_form HOW.out
      subst h9
      have HPF := HP4
      have HOF := HOW
      have HD : Hid (decide ((m : Int) < (j : Int)) = decide (m < j)) := Lib.hid (by rw [Bool.eq_iff_iff, decide_eq_true_eq, decide_eq_true_eq]; omega)
      clear HOW HP4 c1'
      obtain ⟨s0, s1, s2⟩ := HPF.out.store (.slice A9 m c9)
      have x0 := HPF.out.b0.at_ 0 rfl
      have x1 := HPF.out.b0.at_ 1 rfl
      have x2 := HPF.out.b0.frozen 1
      have y0 := s0.at_ 0 rfl
      have y1 := s0.at_ 1 rfl
      have y2 := s1.at_ 0 rfl
      have y3 := s1.at_ 1 rfl
      have y4 := s1.frozen 0
      have y5 := s1.frozen 1
      clear s0 s1 s2
      go_wp2_with fail
      refine bodyPost_ret (results_cell_row2 rfl _ _ (w.heap.size + 1) 52 #[.int .i64 (n : Int), .slice A9 m c9] (0, 0) _ rfl (HPF.out.ends HOF.out).1.out Try.underlying52 rfl (by kernel_rfl)) rfl ?_
      exact ⟨(HPF.out.ends HOF.out).2.1, A9, m, c9, HM.out, rfl, (HPF.out.ends HOF.out).2.2⟩
end Go.Proofs.Ytclbpohhmaojcaa.GrW
