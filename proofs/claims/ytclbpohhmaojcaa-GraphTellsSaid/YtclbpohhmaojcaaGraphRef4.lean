/-
  The walks of the document's own Out and In.
-/
import Derived.Test.YtclbpohhmaojcaaGraphRef3
namespace Go.Proofs.Ytclbpohhmaojcaa.Gr
/-- Where edges go to, and come from. -/
def rOut (v : Int) (E : List (Int × Int)) : List Int := (E.filter fun x => x.1 == v).map (·.2)
def rIn (v : Int) (E : List (Int × Int)) : List Int := (E.filter fun x => x.2 == v).map (·.1)
theorem rOut_take {v : Int} {E : List (Int × Int)} {j : Nat} (h : j < E.length) : rOut v (E.take (j + 1)) = rOut v (E.take j) ++ (if E[j].1 == v then [E[j].2] else []) := by
  unfold rOut
  rw [List.take_succ_eq_append_getElem h, List.filter_append, List.map_append]
  by_cases e : (E[j].1 == v) = true
  · simp only [List.filter_cons, e]; simp
  · have e' : (E[j].1 == v) = false := by simpa using e
    simp only [List.filter_cons, e']; simp
theorem rIn_take {v : Int} {E : List (Int × Int)} {j : Nat} (h : j < E.length) : rIn v (E.take (j + 1)) = rIn v (E.take j) ++ (if E[j].2 == v then [E[j].1] else []) := by
  unfold rIn
  rw [List.take_succ_eq_append_getElem h, List.filter_append, List.map_append]
  by_cases e : (E[j].2 == v) = true
  · simp only [List.filter_cons, e]; simp
  · have e' : (E[j].2 == v) = false := by simpa using e
    simp only [List.filter_cons, e']; simp
theorem rOut_le (v : Int) (E : List (Int × Int)) : (rOut v E).length ≤ E.length := by unfold rOut; rw [List.length_map]; exact List.length_filter_le _ _
theorem rIn_le (v : Int) (E : List (Int × Int)) : (rIn v E).length ≤ E.length := by unfold rIn; rw [List.length_map]; exact List.length_filter_le _ _
end Go.Proofs.Ytclbpohhmaojcaa.Gr
namespace Go.Proofs.Ytclbpohhmaojcaa.GrW
set_option linter.unusedVariables false
open Go Go.RowKit Go.Proofs Go.Proofs.Ytclbpohhmaojcaa Go.Proofs.Ytclbpohhmaojcaa.Wd
open Go.Proofs.Ytclbpohhmaojcaa.Gr (ev rOut rIn)
/-- One box: the graph that came in. -/
structure PA (w wr : World) (n : Nat) (A : Option Addr) (q c : Nat) : Prop where
  low : Below w.heap.size w wr
  b0 : Blk wr w.heap.size 52 #[.int .i64 (n : Int), .slice A q c]
theorem PA.start (w : World) (n : Nat) (A : Option Addr) (q c : Nat) : PA w (w.alloc (.cells #[.int .i64 (n : Int), .slice A q c] 52)) n A q c := ⟨(Below.refl _ w).alloc (Nat.le_refl _) _, Blk.new_ w _ _ rfl⟩
theorem PA.below {w wr w' : World} {n : Nat} {A : Option Addr} {q c : Nat} (h : PA w wr n A q c) (hb : Below wr.heap.size wr w') : PA w w' n A q c := ⟨h.low.trans (hb.mono h.low.size), h.b0.below hb h.b0.lt⟩
theorem PA.grown {w wr w' : World} {n : Nat} {A : Option Addr} {q c : Nat} {r : Option Nat} (h : PA w wr n A q c) (hg : wr.grownBy w' r) (hr : ∀ b, r = some b → w.heap.size + 1 ≤ b) : PA w w' n A q c :=
  ⟨h.low.grown hg h.low.size (fun b e => by have := hr b e; omega), h.b0.grown hg (fun e => by have := hr _ e.symm; omega)⟩
set_option maxRecDepth 100000 in
set_option maxHeartbeats 4000000 in
theorem refout_any (w : World) (n : Nat) (A : Option Addr) (q c : Nat) (E : List (Int × Int)) (hq : q = E.length) (hqc : q ≤ c) (hcm : c ≤ maxLen) (hbig : q ≤ 30000) (hE : EdgesAt w w.heap.size A E) (v : Int) : Calls Try.prog 32 #[rv n A q c, .int .i64 v] w (NumsOut w (rOut v E)) := by
  have HP := Lib.hid (PA.start w n A q c)
  have HE := Lib.hid hE
  have HQ := Lib.hid hq
  clear hE hq hcm
  unfold rv
  go_enter Try.func32, Try.ntmps32
  go_wp2_with fail
  go_loopw [5, 6] (fun l i wr => ∃ (j m : Nat), j ≤ q ∧ i = .int .i64 j ∧ m ≤ j ∧ Hid (m = (rOut v (E.take j)).length ∧ PA w wr n A q c ∧ wr.ownsRow (w.heap.size + 1) 3 1 l m (iv (rOut v (E.take j))))) (fun _ i _ => q - (intOf i).toNat)
  case atStart => exact ⟨0, 0, Nat.zero_le _, rfl, Nat.le_refl _, Lib.hid ⟨rfl, HP.out, own_nil _ _ _⟩⟩
  case round =>
    obtain ⟨j, m, hj, rfl, hm2, HS⟩ := hrel
    clear HP
    have HM := Lib.hid HS.out.1
    have HP4 := Lib.hid HS.out.2.1
    have HOW := Lib.hid HS.out.2.2
    have hsz : w.heap.size + 1 ≤ wr.heap.size := HP4.out.b0.lt
    have c1' : wr.cell? ⟨w.heap.size, 1, none⟩ = some (.slice A q c) := HP4.out.b0.at_ 1 rfl
    clear HS
    by_cases hlt : j < q
    · have hjl : j < E.length := by have := HQ.out; omega
      obtain ⟨b, off, rfl, hb, p1, p2⟩ := HE.out j hjl
      have q1 := (HP4.out.low.cell (p := ⟨b, _, none⟩) hb).trans p1
      have q2 := (HP4.out.low.cell (p := ⟨b, _, none⟩) hb).trans p2
      have hF := Gr.rOut_take (v := v) hjl
      have HFT := Lib.hid hF
      clear hF p1 p2 hb
      generalize E[j] = x at *
      obtain ⟨xf, xt⟩ := x
      clear hjl
      have i1 : (0 : Int) ≤ (j : Int) := by omega
      have i2 : (j : Int) < (q : Int) := by omega
      by_cases e1 : xf = v
      · have f1 : (xf == v) = true := by simpa using e1
        have HK := Lib.hid (show rOut v (E.take (j + 1)) = rOut v (E.take j) ++ [xt] by rw [HFT.out, if_pos (by simpa using e1)])
        clear e1 HFT
        go_wp2_with (at_builtin; refine wpList_push rfl (.tmp 22) (.tmp 29) rfl (w.heap.size + 1) _ m (rOut v (E.take j)) HM.out rfl (HOW.out.alloc _) wr.heap.size xt rfl (Blk.new_ _ _ _ (by simp)) (by omega) (by simp; omega) ?_)
        intro v5 w5 ho5 hg5 _
        obtain ⟨A5, c5, h5⟩ := own_form ho5
        subst h5
        have HN : Hid (m + 1 = (rOut v (E.take (j + 1))).length ∧ PA w w5 n (some ⟨b, off, none⟩) q c ∧ w5.ownsRow (w.heap.size + 1) 3 1 (.slice A5 (m + 1) c5) (m + 1) (iv (rOut v (E.take (j + 1))))) := Lib.hid (by
          rw [HK.out]
          refine ⟨by rw [List.length_append, ← HM.out]; rfl, (HP4.out.below ((Below.refl _ wr).alloc (Nat.le_refl _) (.cells #[.int .i64 xt] 3))).grown hg5 (fun b0 hb0 => (own_row HOW.out hb0).1), ho5⟩)
        clear ho5 hg5 HOW HP4 HM HK q1 q2 c1'
        go_wp2_with fail
        go_roundw
        case rel => exact ⟨j + 1, m + 1, by omega, by go_num, by omega, HN⟩
        case measure => simp [intOf]; omega
      · have f1 : (xf == v) = false := by simpa using e1
        have HN : Hid (m = (rOut v (E.take (j + 1))).length ∧ PA w wr n (some ⟨b, off, none⟩) q c ∧ wr.ownsRow (w.heap.size + 1) 3 1 u5 m (iv (rOut v (E.take (j + 1))))) := Lib.hid (by
          rw [HFT.out, if_neg (by simpa using e1), List.append_nil]
          exact ⟨HM.out, HP4.out, HOW.out⟩)
        clear e1 HOW HP4 HM HFT
        go_wp2_with fail
        go_roundw
        case rel => exact ⟨j + 1, m, by omega, by go_num, by omega, HN⟩
        case measure => simp [intOf]; omega
    · have hjq : j = q := by omega
      subst hjq
      have HT : Hid (E.take j = E) := Lib.hid (List.take_of_length_le (by have := HQ.out; omega))
      rw [HT.out] at HM HOW
      obtain ⟨A9, c9, h9⟩ := own_form HOW.out
      subst h9
      have HF : Hid (NumsOut w (rOut v E) (.returned (.slice A9 m c9)) wr) := Lib.hid ⟨_, rfl, by rw [← HM.out]; exact own_base HOW.out (Nat.le_succ _), HP4.out.low⟩
      clear HOW HP4 HM
      go_wp2_with fail
      go_ret
      exact HF.out
set_option maxRecDepth 100000 in
set_option maxHeartbeats 4000000 in
theorem refin_any (w : World) (n : Nat) (A : Option Addr) (q c : Nat) (E : List (Int × Int)) (hq : q = E.length) (hqc : q ≤ c) (hcm : c ≤ maxLen) (hbig : q ≤ 30000) (hE : EdgesAt w w.heap.size A E) (v : Int) : Calls Try.prog 33 #[rv n A q c, .int .i64 v] w (NumsOut w (rIn v E)) := by
  have HP := Lib.hid (PA.start w n A q c)
  have HE := Lib.hid hE
  have HQ := Lib.hid hq
  clear hE hq hcm
  unfold rv
  go_enter Try.func33, Try.ntmps33
  go_wp2_with fail
  go_loopw [5, 6] (fun l i wr => ∃ (j m : Nat), j ≤ q ∧ i = .int .i64 j ∧ m ≤ j ∧ Hid (m = (rIn v (E.take j)).length ∧ PA w wr n A q c ∧ wr.ownsRow (w.heap.size + 1) 3 1 l m (iv (rIn v (E.take j))))) (fun _ i _ => q - (intOf i).toNat)
  case atStart => exact ⟨0, 0, Nat.zero_le _, rfl, Nat.le_refl _, Lib.hid ⟨rfl, HP.out, own_nil _ _ _⟩⟩
  case round =>
    obtain ⟨j, m, hj, rfl, hm2, HS⟩ := hrel
    clear HP
    have HM := Lib.hid HS.out.1
    have HP4 := Lib.hid HS.out.2.1
    have HOW := Lib.hid HS.out.2.2
    have hsz : w.heap.size + 1 ≤ wr.heap.size := HP4.out.b0.lt
    have c1' : wr.cell? ⟨w.heap.size, 1, none⟩ = some (.slice A q c) := HP4.out.b0.at_ 1 rfl
    clear HS
    by_cases hlt : j < q
    · have hjl : j < E.length := by have := HQ.out; omega
      obtain ⟨b, off, rfl, hb, p1, p2⟩ := HE.out j hjl
      have q1 := (HP4.out.low.cell (p := ⟨b, _, none⟩) hb).trans p1
      have q2 := (HP4.out.low.cell (p := ⟨b, _, none⟩) hb).trans p2
      have hF := Gr.rIn_take (v := v) hjl
      have HFT := Lib.hid hF
      clear hF p1 p2 hb
      generalize E[j] = x at *
      obtain ⟨xf, xt⟩ := x
      clear hjl
      have i1 : (0 : Int) ≤ (j : Int) := by omega
      have i2 : (j : Int) < (q : Int) := by omega
      by_cases e1 : xt = v
      · have f1 : (xt == v) = true := by simpa using e1
        have HK := Lib.hid (show rIn v (E.take (j + 1)) = rIn v (E.take j) ++ [xf] by rw [HFT.out, if_pos (by simpa using e1)])
        clear e1 HFT
        go_wp2_with (at_builtin; refine wpList_push rfl (.tmp 22) (.tmp 29) rfl (w.heap.size + 1) _ m (rIn v (E.take j)) HM.out rfl (HOW.out.alloc _) wr.heap.size xf rfl (Blk.new_ _ _ _ (by simp)) (by omega) (by simp; omega) ?_)
        intro v5 w5 ho5 hg5 _
        obtain ⟨A5, c5, h5⟩ := own_form ho5
        subst h5
        have HN : Hid (m + 1 = (rIn v (E.take (j + 1))).length ∧ PA w w5 n (some ⟨b, off, none⟩) q c ∧ w5.ownsRow (w.heap.size + 1) 3 1 (.slice A5 (m + 1) c5) (m + 1) (iv (rIn v (E.take (j + 1))))) := Lib.hid (by
          rw [HK.out]
          refine ⟨by rw [List.length_append, ← HM.out]; rfl, (HP4.out.below ((Below.refl _ wr).alloc (Nat.le_refl _) (.cells #[.int .i64 xf] 3))).grown hg5 (fun b0 hb0 => (own_row HOW.out hb0).1), ho5⟩)
        clear ho5 hg5 HOW HP4 HM HK q1 q2 c1'
        go_wp2_with fail
        go_roundw
        case rel => exact ⟨j + 1, m + 1, by omega, by go_num, by omega, HN⟩
        case measure => simp [intOf]; omega
      · have f1 : (xt == v) = false := by simpa using e1
        have HN : Hid (m = (rIn v (E.take (j + 1))).length ∧ PA w wr n (some ⟨b, off, none⟩) q c ∧ wr.ownsRow (w.heap.size + 1) 3 1 u5 m (iv (rIn v (E.take (j + 1))))) := Lib.hid (by
          rw [HFT.out, if_neg (by simpa using e1), List.append_nil]
          exact ⟨HM.out, HP4.out, HOW.out⟩)
        clear e1 HOW HP4 HM HFT
        go_wp2_with fail
        go_roundw
        case rel => exact ⟨j + 1, m, by omega, by go_num, by omega, HN⟩
        case measure => simp [intOf]; omega
    · have hjq : j = q := by omega
      subst hjq
      have HT : Hid (E.take j = E) := Lib.hid (List.take_of_length_le (by have := HQ.out; omega))
      rw [HT.out] at HM HOW
      obtain ⟨A9, c9, h9⟩ := own_form HOW.out
      subst h9
      have HF : Hid (NumsOut w (rIn v E) (.returned (.slice A9 m c9)) wr) := Lib.hid ⟨_, rfl, by rw [← HM.out]; exact own_base HOW.out (Nat.le_succ _), HP4.out.low⟩
      clear HOW HP4 HM
      go_wp2_with fail
      go_ret
      exact HF.out
end Go.Proofs.Ytclbpohhmaojcaa.GrW
