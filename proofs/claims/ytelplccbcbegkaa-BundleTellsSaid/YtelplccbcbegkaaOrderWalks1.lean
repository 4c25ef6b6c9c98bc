/-
  An order's small functions; those of an order that is none.
-/
import Derived.Test.YtelplccbcbegkaaOrderMem
namespace Go.Proofs.Ytelplccbcbegkaa.OrW
set_option linter.unusedVariables false
open Go Go.RowKit Go.Proofs Go.Proofs.Ytelplccbcbegkaa Go.Proofs.Ytelplccbcbegkaa.Wd Go.Proofs.Ytelplccbcbegkaa.GrW Go.Proofs.Ytelplccbcbegkaa.Ord
open Go.Proofs.Ytelplccbcbegkaa.Gr (OK putL edgesTo)

theorem len_h {w : World} {base g n : Nat} {F : Nat → Prop} {L : List (List Int)} (h : GAt w base F g n L) : Calls Try.prog 37 #[.pointer (some ⟨g, 0, none⟩)] w fun e w' => e = .returned (.int .i64 n) ∧ w = w' := by
  obtain ⟨r, c, hH, -, -⟩ := h.head
  exact len_any w g r n c hH
/-- An order that is none: nil, or one that New did not answer. -/
def NonO (w : World) (v : Value) : Prop := v = .pointer none ∨ ∃ o, v = .pointer (some ⟨o, 0, none⟩) ∧ w.cell? ⟨o, 0, none⟩ = some (.pointer none)
theorem NonO.below {w w' : World} {v : Value} (h : NonO w v) (hb : Below w.heap.size w w') : NonO w' v := by
  rcases h with h | ⟨o, h1, h2⟩
  · exact .inl h
  · exact .inr ⟨o, h1, (hb.cell (p := ⟨o, 0, none⟩) (GrW.lt_of_cell h2)).trans h2⟩
theorem none_o (w : World) (o g : Nat) (h0 : w.cell? ⟨o, 0, none⟩ = some (.pointer (some ⟨g, 0, none⟩))) : Calls Try.prog 35 #[.pointer (some ⟨o, 0, none⟩)] w fun e w' => e = .returned (.bool false) ∧ w = w' := by
  go_enter Try.func35, Try.ntmps35
  go_wp2_with fail
  go_ret
  exact ⟨rfl, rfl⟩
theorem none_onil (w : World) : Calls Try.prog 35 #[.pointer none] w fun e w' => e = .returned (.bool true) ∧ w = w' := by
  go_enter Try.func35, Try.ntmps35
  go_wp2_with fail
  go_ret
  exact ⟨rfl, rfl⟩
theorem none_ozero (w : World) (o : Nat) (h : w.cell? ⟨o, 0, none⟩ = some (.pointer none)) : Calls Try.prog 35 #[.pointer (some ⟨o, 0, none⟩)] w fun e w' => e = .returned (.bool true) ∧ w = w' := by
  go_enter Try.func35, Try.ntmps35
  go_wp2_with fail
  go_ret
  exact ⟨rfl, rfl⟩
theorem none_nono (w : World) (v : Value) (h : NonO w v) : Calls Try.prog 35 #[v] w fun e w' => e = .returned (.bool true) ∧ w = w' := by
  rcases h with rfl | ⟨g, rfl, h⟩
  · exact none_onil w
  · exact none_ozero w g h
theorem grow_nono (w : World) (v : Value) (h : NonO w v) (x : Int) : Calls Try.prog 42 #[v, .int .i64 x] w fun e w' => e = .returned (.int .i64 1) ∧ w = w' := by
  have HL := Lib.hid (none_nono w v h)
  clear h
  go_enter Try.func42, Try.ntmps42
  go_wp2_with fail
  refine Calls.mono HL.out ?_
  rintro e w' ⟨rfl, rfl⟩
  clear HL
  go_wp2_with fail
  go_ret
  exact ⟨rfl, rfl⟩
theorem len_nono (w : World) (v : Value) (h : NonO w v) : Calls Try.prog 14 #[v] w fun e w' => e = .returned (.int .i64 0) ∧ w = w' := by
  have HL := Lib.hid (none_nono w v h)
  clear h
  go_enter Try.func14, Try.ntmps14
  go_wp2_with fail
  refine Calls.mono HL.out ?_
  rintro e w' ⟨rfl, rfl⟩
  clear HL
  go_wp2_with fail
  go_ret
  exact ⟨rfl, rfl⟩
theorem has_nono (w : World) (v : Value) (h : NonO w v) (x y : Int) : Calls Try.prog 13 #[v, .int .i64 x, .int .i64 y] w fun e w' => e = .returned (.bool false) ∧ w = w' := by
  have HL := Lib.hid (none_nono w v h)
  clear h
  go_enter Try.func13, Try.ntmps13
  go_wp2_with fail
  refine Calls.mono HL.out ?_
  rintro e w' ⟨rfl, rfl⟩
  clear HL
  go_wp2_with fail
  go_ret
  exact ⟨rfl, rfl⟩
theorem edges_nono (w : World) (v : Value) (h : NonO w v) : Calls Try.prog 17 #[v] w fun e w' => e = .returned (.slice none 0 0) ∧ w = w' := by
  have HL := Lib.hid (none_nono w v h)
  clear h
  go_enter Try.func17, Try.ntmps17
  go_wp2_with fail
  refine Calls.mono HL.out ?_
  rintro e w' ⟨rfl, rfl⟩
  clear HL
  go_wp2_with fail
  go_ret
  exact ⟨rfl, rfl⟩
theorem is_nono (w : World) (v : Value) (h : NonO w v) (x : Int) : Calls Try.prog 41 #[v, .int .i64 x] w fun e w' => e = .returned (.bool false) ∧ w = w' := by
  have HL := Lib.hid (len_nono w v h)
  clear h
  by_cases h0 : 0 ≤ x
  · have h1 : ¬ x < 0 := by omega
    go_enter Try.func41, Try.ntmps41
    go_wp2_with fail
    refine Calls.mono HL.out ?_
    rintro e w' ⟨rfl, rfl⟩
    clear HL
    go_wp2_with fail
    go_ret
    exact ⟨by rw [show (false : Bool) = decide (x < 0) from (decide_eq_false (by omega)).symm]; rfl, rfl⟩
  · go_enter Try.func41, Try.ntmps41
    go_wp2_with fail
    go_ret
    exact ⟨rfl, rfl⟩
theorem place_nono (w : World) (v : Value) (h : NonO w v) (x : Int) : Calls Try.prog 22 #[v, .int .i64 x] w fun e w' => e = .returned (.tuple #[.int .i64 0, .bool false]) ∧ w = w' := by
  have HL := Lib.hid (is_nono w v h x)
  clear h
  go_enter Try.func22, Try.ntmps22
  go_wp2_with fail
  refine Calls.mono HL.out ?_
  rintro e w' ⟨rfl, rfl⟩
  clear HL
  go_wp2_with fail
  go_ret2
  exact ⟨rfl, rfl⟩
theorem list_nono (w : World) (v : Value) (h : NonO w v) : Calls Try.prog 16 #[v] w fun e w' => e = .returned (.slice none 0 0) ∧ w = w' := by
  have HL := Lib.hid (none_nono w v h)
  clear h
  go_enter Try.func16, Try.ntmps16
  go_wp2_with fail
  refine Calls.mono HL.out ?_
  rintro e w' ⟨rfl, rfl⟩
  clear HL
  go_wp2_with fail
  go_ret
  exact ⟨rfl, rfl⟩
theorem copy_nono (w : World) (v : Value) (h : NonO w v) : Calls Try.prog 29 #[v] w fun e w' => e = .returned (.pointer none) ∧ w = w' := by
  have HL := Lib.hid (none_nono w v h)
  clear h
  go_enter Try.func29, Try.ntmps29
  go_wp2_with fail
  refine Calls.mono HL.out ?_
  rintro e w' ⟨rfl, rfl⟩
  clear HL
  go_wp2_with fail
  go_ret
  exact ⟨rfl, rfl⟩
theorem put_nono (w : World) (v : Value) (h : NonO w v) (x y : Int) : Calls Try.prog 30 #[v, .int .i64 x, .int .i64 y] w fun e w' => e = .returned (.tuple #[.int .i64 0, .int .i64 1]) ∧ w = w' := by
  have HL := Lib.hid (none_nono w v h)
  clear h
  go_enter Try.func30, Try.ntmps30
  go_wp2_with fail
  refine Calls.mono HL.out ?_
  rintro e w' ⟨rfl, rfl⟩
  clear HL
  go_wp2_with fail
  go_ret2
  exact ⟨rfl, rfl⟩
section
variable {w : World} {base o n g : Nat} {F Fg : Nat → Prop} {L : List (List Int)} {P A : List Nat} {vp va : Value}
theorem len_o (h : OAt w base F o n L P A) : Calls Try.prog 14 #[.pointer (some ⟨o, 0, none⟩)] w fun e w' => e = .returned (.int .i64 n) ∧ w = w' := by
  obtain ⟨g, vp, va, Fg, h⟩ := h
  obtain ⟨c0, -, -⟩ := h.cells
  have HN := Lib.hid (none_o w o g c0)
  have HL := Lib.hid (len_h h.gr)
  clear h
  go_enter Try.func14, Try.ntmps14
  go_wp2_with fail
  refine Calls.mono HN.out ?_
  rintro e w' ⟨rfl, rfl⟩
  clear HN
  go_wp2_with fail
  refine Calls.mono HL.out ?_
  rintro e w' ⟨rfl, rfl⟩
  clear HL
  go_wp2_with fail
  go_ret
  exact ⟨rfl, rfl⟩
theorem has_o (h : OAt w base F o n L P A) (ok : OK n L) (hn : n ≤ 30000) (u v : Int) : Calls Try.prog 13 #[.pointer (some ⟨o, 0, none⟩), .int .i64 u, .int .i64 v] w fun e w' => e = .returned (.bool (hasE n L u v)) ∧ Below w.heap.size w w' := by
  obtain ⟨g, vp, va, Fg, h⟩ := h
  obtain ⟨c0, -, -⟩ := h.cells
  have HN := Lib.hid (none_o w o g c0)
  have HL := Lib.hid (has_c h.gr ok hn u v _ rfl)
  generalize hasE n L u v = b at *
  clear h ok
  go_enter Try.func13, Try.ntmps13
  go_wp2_with fail
  refine Calls.mono HN.out ?_
  rintro e w' ⟨rfl, rfl⟩
  clear HN
  go_wp2_with fail
  refine Calls.mono HL.out ?_
  rintro e w' ⟨rfl, hb⟩
  have HB := Lib.hid hb
  clear HL hb
  go_wp2_with fail
  go_ret
  exact ⟨rfl, HB.out⟩
theorem edges_o (h : OAt w base F o n L P A) (ok : OK n L) (hn : n ≤ 30000) : Calls Try.prog 17 #[.pointer (some ⟨o, 0, none⟩)] w (EdgesOut w (edgesTo L n)) := by
  obtain ⟨g, vp, va, Fg, h⟩ := h
  obtain ⟨c0, -, -⟩ := h.cells
  have HN := Lib.hid (none_o w o g c0)
  have HL := Lib.hid (edges_any w base g n Fg L h.gr (ok.rises hn) hn)
  generalize edgesTo L n = l at *
  clear h ok
  go_enter Try.func17, Try.ntmps17
  go_wp2_with fail
  refine Calls.mono HN.out ?_
  rintro e w' ⟨rfl, rfl⟩
  clear HN
  go_wp2_with fail
  refine Calls.mono HL.out ?_
  rintro e w' ⟨Ae, ce, rfl, q1, q2⟩
  have HF : Hid (EdgesOut w l (.returned (.slice Ae l.length ce)) w') := Lib.hid ⟨Ae, ce, rfl, q1, q2⟩
  clear HL q1 q2
  generalize l.length = m at *
  go_wp2_with fail
  go_ret
  exact HF.out
theorem is_o (h : OAt w base F o n L P A) (v : Int) : Calls Try.prog 41 #[.pointer (some ⟨o, 0, none⟩), .int .i64 v] w fun e w' => e = .returned (.bool (isV n v)) ∧ w = w' := by
  have HL := Lib.hid (len_o h)
  clear h
  by_cases h0 : 0 ≤ v
  · have HF : Hid (decide (v < (n : Int)) = isV n v) := Lib.hid (by unfold isV; simp [h0])
    go_enter Try.func41, Try.ntmps41
    go_wp2_with fail
    refine Calls.mono HL.out ?_
    rintro e w' ⟨rfl, rfl⟩
    clear HL
    go_wp2_with fail
    go_ret
    exact ⟨by rw [← HF.out]; rfl, rfl⟩
  · have HF : Hid (isV n v = false) := Lib.hid (by unfold isV; simp [h0])
    go_enter Try.func41, Try.ntmps41
    go_wp2_with fail
    go_ret
    exact ⟨by rw [HF.out]; rfl, rfl⟩
theorem list_o (h : OAt w base F o n L P A) (hP : Perm n P A) (hn : n ≤ 30000) : Calls Try.prog 16 #[.pointer (some ⟨o, 0, none⟩)] w (NumsOut w (zs A)) := by
  obtain ⟨g, vp, va, Fg, h⟩ := h
  obtain ⟨c0, -, c2⟩ := h.cells
  have HN := Lib.hid (none_o w o g c0)
  have HL := Lib.hid (clone_row w base va _ (IRow.of_own h.ra) (by rw [zs_length, hP.la]; omega))
  obtain ⟨Aa, ca, rfl⟩ := h.rowa
  clear h hP
  generalize zs A = l at *
  generalize A.length = q at *
  go_enter Try.func16, Try.ntmps16
  go_wp2_with fail
  refine Calls.mono HN.out ?_
  rintro e w' ⟨rfl, rfl⟩
  clear HN
  go_wp2_with fail
  refine Calls.mono HL.out ?_
  rintro e w2 ⟨v', rfl, ho, hb⟩
  obtain ⟨A2, c2', hv2⟩ := own_form ho
  subst hv2
  have HE : Hid (NumsOut w l (.returned (.slice A2 l.length c2')) w2) := Lib.hid ⟨_, rfl, ho, hb⟩
  clear HL ho hb
  generalize l.length = m at *
  go_wp2_with fail
  go_ret
  exact HE.out
/-- Place at whatever number. -/
theorem place_o (h : OAt w base F o n L P A) (hP : Perm n P A) (v : Int) : Calls Try.prog 22 #[.pointer (some ⟨o, 0, none⟩), .int .i64 v] w fun e w' => e = .returned (.tuple #[.int .i64 (if isV n v then ((P.getD v.toNat 0 : Nat) : Int) else 0), .bool (isV n v)]) ∧ w = w' := by
  have HI := Lib.hid (is_o h v)
  obtain ⟨g, vp, va, Fg, h⟩ := h
  obtain ⟨c0, c1, c2⟩ := h.cells
  by_cases hv : isV n v = true
  · obtain ⟨k, rfl, hk⟩ := isV_nat hv
    obtain ⟨b, off, c, rfl, h1, -⟩ := h.place (i := k) (by rw [hP.lp]; exact hk) 0
    rw [hP.lp] at c1
    rw [hv] at HI
    rw [if_pos hv, hv, Int.toNat_natCast]
    generalize P.getD k 0 = y at *
    have i1 : (0 : Int) ≤ (k : Int) := by omega
    have i2 : (k : Int) < (n : Int) := by omega
    clear h hP hv
    go_enter Try.func22, Try.ntmps22
    go_wp2_with fail
    refine Calls.mono HI.out ?_
    rintro e w' ⟨rfl, rfl⟩
    clear HI
    go_wp2_with fail
    go_ret2
    exact ⟨rfl, rfl⟩
  · rw [Bool.eq_false_iff.2 hv] at HI ⊢
    rw [if_neg (by simp)]
    clear h hP hv
    go_enter Try.func22, Try.ntmps22
    go_wp2_with fail
    refine Calls.mono HI.out ?_
    rintro e w' ⟨rfl, rfl⟩
    clear HI
    go_wp2_with fail
    go_ret2
    exact ⟨rfl, rfl⟩
end
end Go.Proofs.Ytelplccbcbegkaa.OrW
