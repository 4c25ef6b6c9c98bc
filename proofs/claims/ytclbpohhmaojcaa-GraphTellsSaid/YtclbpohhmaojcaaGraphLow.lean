/-
  The walks of the statements' own small functions: Ints, SameEdges, Among.
-/
import Derived.Test.YtclbpohhmaojcaaGraphCopy
import Derived.Test.YtclbpohhmaojcaaGraphOk
import Derived.Laws.StructEq
namespace Go.Proofs.Ytclbpohhmaojcaa.GrW
set_option linter.unusedVariables false
open Go Go.RowKit Go.Proofs Go.Proofs.Ytclbpohhmaojcaa Go.Proofs.Ytclbpohhmaojcaa.Wd
open Go.Proofs.Ytclbpohhmaojcaa.Gr (ev)

theorem itake_succ {l m : List Int} {k : Nat} (hk : k < l.length) (hm : k < m.length) (h : l.take k = m.take k) : l.take (k + 1) = m.take (k + 1) ↔ l[k] = m[k] := by
  rw [List.take_succ_eq_append_getElem hk, List.take_succ_eq_append_getElem hm, h, List.append_cancel_left_eq]
  simp
theorem ine_of_get {l m : List Int} {k : Nat} (hk : k < l.length) (hm : k < m.length) (h : l[k] ≠ m[k]) : l ≠ m := by
  rintro rfl; exact h rfl
set_option maxHeartbeats 1000000 in
theorem ints_any (A B : Option Addr) (c d : Nat) (l m : List Int) (x y : Nat) (hx : x = l.length) (hy : y = m.length) (hxc : x ≤ c) (hcm : c ≤ maxLen) (w : World) (hI : Nums w w.heap.size A l) (hJ : Nums w w.heap.size B m) :
    Calls Try.prog 15 #[.slice A x c, .slice B y d] w fun e w' => e = .returned (.bool (decide (l = m))) ∧ Below w.heap.size w w' := by
  unfold maxLen at hcm
  have HX := Lib.hid hx
  have HY := Lib.hid hy
  by_cases hne : x = y
  · subst hne
    clear hx hy
    go_enter Try.func15, Try.ntmps15
    go_wp2
    go_loopw [13] (fun i wr => ∃ k : Nat, k ≤ x ∧ i = .int .i64 k ∧ RowKit.Hid (l.take k = m.take k) ∧ Below w.heap.size w wr) (fun i _ => x - (intOf i).toNat)
    case atStart => exact ⟨0, Nat.zero_le _, rfl, Lib.hid (by simp), Below.refl _ _⟩
    case round =>
      obtain ⟨k, hk, rfl, hT, hBr⟩ := hrel
      by_cases hlt : k < x
      · have hkl : k < l.length := by have := HX.out; omega
        have hkm : k < m.length := by have := HY.out; omega
        obtain ⟨b1, o1, rfl, hb1, p1⟩ := hI.at_ hkl
        obtain ⟨b2, o2, rfl, hb2, q1⟩ := hJ.at_ hkm
        have hE1 : l[k] = m[k] → l.take (k + 1) = m.take (k + 1) := (itake_succ hkl hkm hT.out).2
        have hE2 : l[k] ≠ m[k] → l ≠ m := ine_of_get hkl hkm
        generalize l[k] = r at *
        generalize m[k] = s at *
        have HE1 := Lib.hid hE1
        have HE2 := Lib.hid hE2
        have g1 := (hBr.cell (p := ⟨b1, _, none⟩) hb1).trans p1
        have g2 := (hBr.cell (p := ⟨b2, _, none⟩) hb2).trans q1
        have i1 : (0 : Int) ≤ (k : Int) := by omega
        have i2 : (k : Int) < (x : Int) := by omega
        clear hE1 hE2 p1 q1 hT
        by_cases he : r = s
        · have u5 : (r != s) = false := by rw [he]; simp
          have HN := Lib.hid (HE1.out he)
          clear he
          go_wp2
          go_quiet (fail)
          go_wp2
          go_roundw
          case rel => exact ⟨k + 1, by omega, by go_num, HN, bdrewN hBr _⟩
          case measure => simp [intOf]; omega
        · have u5 : (r != s) = true := by rw [bne_iff_ne]; exact he
          have HN := Lib.hid (HE2.out he)
          clear he
          go_wp2
          go_quiet (fail)
          go_wp2
          go_ret
          exact ⟨by rw [decide_eq_false HN.out]; rfl, bdrewN hBr _⟩
      · obtain rfl : k = x := by omega
        have hN : Hid (l = m) := Lib.hid (by have := hT.out; rwa [List.take_of_length_le (by have := HX.out; omega), List.take_of_length_le (by have := HY.out; omega)] at this)
        clear hT
        go_wp2
        go_ret
        exact ⟨by rw [decide_eq_true hN.out]; rfl, hBr⟩
  · have hn : ((x : Int) != (y : Int)) = true := by rw [bne_iff_ne]; omega
    have hN : Hid (l ≠ m) := Lib.hid (fun h => hne (by rw [hx, hy, h]))
    clear hx hy
    go_enter Try.func15, Try.ntmps15
    go_wp2
    go_ret
    exact ⟨by rw [decide_eq_false hN.out]; rfl, Below.refl _ _⟩
theorem among_any (x : Int) (n : Nat) (hn : 0 < n) (hn2 : n ≤ 30000) (w : World) :
    Calls Try.prog 20 #[.int .i64 x, .int .i64 n] w fun e w' => e = .returned (.int .i64 (x % (n : Int))) ∧ w = w' := by
  have HE : Hid ((x.tmod n) % (n : Int) = x % (n : Int)) := Lib.hid (by
    have h1 : x.tmod n = x - n * (x.tdiv n) := by have := Int.mul_tdiv_add_tmod x n; omega
    rw [h1, Int.sub_mul_emod_self_left])
  have h2 : -(n : Int) < x.tmod n ∧ x.tmod n < n := by
    constructor
    · rcases Int.le_total 0 x with h | h
      · have := Int.tmod_nonneg (n : Int) h; omega
      · have e : x.tmod n = -((-x).tmod n) := by rw [Int.neg_tmod]; omega
        have := Int.tmod_lt_of_pos (-x) (b := (n : Int)) (by omega)
        omega
    · exact Int.tmod_lt_of_pos x (by omega)
  obtain ⟨h3, h4⟩ := h2
  have i1 : ¬ (n : Int) < 1 := by omega
  have i2 : ((n : Int) == 0) = false := by rw [beq_eq_false_iff_ne]; omega
  have i3 : ¬ (n : Int) = 0 := by omega
  go_enter Try.func20, Try.ntmps20
  go_wp2_with fail
  go_ret
  exact ⟨by show Ending.returned (.int .i64 (x.tmod ↑n % ↑n)) = _; rw [HE.out], rfl⟩
/-- Edges that are read. -/
def EdgesAt (w : World) (B : Nat) (A : Option Addr) (l : List (Int × Int)) : Prop := ∀ j (h : j < l.length), ∃ b off, A = some ⟨b, off, none⟩ ∧ b < B ∧ w.cell? ⟨b, off + j * 2, none⟩ = some (.int .i64 l[j].1) ∧ w.cell? ⟨b, off + j * 2 + 1, none⟩ = some (.int .i64 l[j].2)
theorem ev_at : ∀ (l : List (Int × Int)) (j : Nat) (h : j < l.length), (ev l)[j * 2]? = some (.int .i64 l[j].1) ∧ (ev l)[j * 2 + 1]? = some (.int .i64 l[j].2)
  | [], j, h => by simp at h
  | x :: l, 0, h => by simp [ev]
  | x :: l, j + 1, h => by
    have e1 : (j + 1) * 2 = j * 2 + 1 + 1 := by omega
    have h' : j < l.length := by simpa using h
    have := ev_at l j h'
    rw [e1]
    simpa [ev] using this
theorem EdgesAt.of_own {w : World} {base n c : Nat} {A : Option Addr} {l : List (Int × Int)} (h : w.ownsRow base 32 2 (.slice A n c) n (ev l)) : EdgesAt w w.heap.size A l ∧ n = l.length ∧ n ≤ c ∧ c ≤ maxLen := by
  have hl := h.1
  rw [Gr.ev_length] at hl
  have hn : n = l.length := by omega
  rcases h.2 with ⟨hv, h0⟩ | ⟨g, cap, cur, hv, _, hh, hmc, hcm, hcs, htk⟩
  · cases hv
    exact ⟨fun j hj => by omega, hn, Nat.le_refl _, by decide⟩
  · cases hv
    have hblk : Blk w g 32 cur := hh
    refine ⟨fun j hj => ⟨g, 0, rfl, hblk.lt, ?_, ?_⟩, hn, hmc, hcm⟩
    · obtain ⟨e1, -⟩ := ev_at l j hj
      rw [← htk, List.getElem?_take_of_lt (by omega)] at e1
      rw [hblk.cell, Nat.zero_add]; simpa using e1
    · obtain ⟨-, e1⟩ := ev_at l j hj
      rw [← htk, List.getElem?_take_of_lt (by omega)] at e1
      rw [hblk.cell, Nat.zero_add]; simpa using e1
theorem EdgesAt.below {w w' : World} {B : Nat} {A : Option Addr} {l : List (Int × Int)} (h : EdgesAt w B A l) (hb : Below B w w') : EdgesAt w' B A l := fun j hj => by
  obtain ⟨b, off, h1, h2, h3, h4⟩ := h j hj
  exact ⟨b, off, h1, h2, (hb.cell (p := ⟨b, _, none⟩) h2).trans h3, (hb.cell (p := ⟨b, _, none⟩) h2).trans h4⟩
theorem edge_stood : Try.prog.stoodInHeld 32 = false := by kernel_rfl
theorem edge_struct : Try.prog.underlying 32 = some (.struct (Try.prog.fieldsOf 32)) := by kernel_rfl
theorem neq_edges (r1 r2 s1 s2 : Int) (W : World) : (binOp .neq 32 (.agg #[.int .i64 r1, .int .i64 r2]) (.agg #[.int .i64 s1, .int .i64 s2])).run Try.prog W = .ok (.bool (!(r1 == s1 && r2 == s2))) W := by
  rw [run_neq_struct, run_equalIn_agg W 9999 _ _ _ edge_struct edge_stood]
  go_simp
  by_cases h1 : r1 = s1
  · by_cases h2 : r2 = s2 <;> simp [h1, h2]
  · simp [h1]
theorem ptake_succ {l m : List (Int × Int)} {k : Nat} (hk : k < l.length) (hm : k < m.length) (h : l.take k = m.take k) : l.take (k + 1) = m.take (k + 1) ↔ l[k] = m[k] := by
  rw [List.take_succ_eq_append_getElem hk, List.take_succ_eq_append_getElem hm, h, List.append_cancel_left_eq]
  simp
theorem pne_of_get {l m : List (Int × Int)} {k : Nat} (hk : k < l.length) (hm : k < m.length) (h : l[k] ≠ m[k]) : l ≠ m := by
  rintro rfl; exact h rfl
set_option maxHeartbeats 1000000 in
theorem sameEdges_any (A B : Option Addr) (c d : Nat) (l m : List (Int × Int)) (x y : Nat) (hx : x = l.length) (hy : y = m.length) (hxc : x ≤ c) (hcm : c ≤ maxLen) (w : World) (hI : EdgesAt w w.heap.size A l) (hJ : EdgesAt w w.heap.size B m) :
    Calls Try.prog 22 #[.slice A x c, .slice B y d] w fun e w' => e = .returned (.bool (decide (l = m))) ∧ Below w.heap.size w w' := by
  unfold maxLen at hcm
  have HX := Lib.hid hx
  have HY := Lib.hid hy
  by_cases hne : x = y
  · subst hne
    clear hx hy
    go_enter Try.func22, Try.ntmps22
    go_wp2
    go_loopw [13] (fun i wr => ∃ k : Nat, k ≤ x ∧ i = .int .i64 k ∧ RowKit.Hid (l.take k = m.take k) ∧ Below w.heap.size w wr) (fun i _ => x - (intOf i).toNat)
    case atStart => exact ⟨0, Nat.zero_le _, rfl, Lib.hid (by simp), Below.refl _ _⟩
    case round =>
      obtain ⟨k, hk, rfl, hT, hBr⟩ := hrel
      by_cases hlt : k < x
      · have hkl : k < l.length := by have := HX.out; omega
        have hkm : k < m.length := by have := HY.out; omega
        obtain ⟨b1, o1, rfl, hb1, p1, p2⟩ := hI k hkl
        obtain ⟨b2, o2, rfl, hb2, q1, q2⟩ := hJ k hkm
        have hE1 : l[k] = m[k] → l.take (k + 1) = m.take (k + 1) := (ptake_succ hkl hkm hT.out).2
        have hE2 : l[k] ≠ m[k] → l ≠ m := pne_of_get hkl hkm
        generalize l[k] = r at *
        generalize m[k] = s at *
        obtain ⟨r1, r2⟩ := r
        obtain ⟨s1, s2⟩ := s
        have HE1 := Lib.hid hE1
        have HE2 := Lib.hid hE2
        have g1 := (hBr.cell (p := ⟨b1, _, none⟩) hb1).trans p1
        have g2 := (hBr.cell (p := ⟨b2, _, none⟩) hb2).trans q1
        have g3 := (hBr.cell (p := ⟨b1, _, none⟩) hb1).trans p2
        have g4 := (hBr.cell (p := ⟨b2, _, none⟩) hb2).trans q2
        have i1 : (0 : Int) ≤ (k : Int) := by omega
        have i2 : (k : Int) < (x : Int) := by omega
        clear hE1 hE2 p1 q1 p2 q2 hT
        by_cases he1 : r1 = s1
        · by_cases he2 : r2 = s2
          · obtain rfl := he1
            obtain rfl := he2
            have HN := Lib.hid (HE1.out rfl)
            clear HE1 HE2
            go_wp2
            go_quiet (fail)
            go_wp2
            go_roundw
            case rel => exact ⟨k + 1, by omega, by go_num, HN, bdrewN hBr _⟩
            case measure => simp [intOf]; omega
          · obtain rfl := he1
            have HN := Lib.hid (HE2.out (fun e => he2 (congrArg Prod.snd e)))
            have hq : ∀ W, (binOp .neq 32 (.agg #[.int .i64 r1, .int .i64 r2]) (.agg #[.int .i64 r1, .int .i64 s2])).run Try.prog W = .ok (.bool true) W := fun W => by
              rw [neq_edges]; simp [he2]
            clear HE1 HE2
            go_wp2
            go_quiet (fail)
            go_wp2
            go_ret
            exact ⟨by rw [decide_eq_false HN.out]; rfl, bdrewN hBr _⟩
        · have HN := Lib.hid (HE2.out (fun e => he1 (congrArg Prod.fst e)))
          have hq : ∀ W, (binOp .neq 32 (.agg #[.int .i64 r1, .int .i64 r2]) (.agg #[.int .i64 s1, .int .i64 s2])).run Try.prog W = .ok (.bool true) W := fun W => by
            rw [neq_edges]; simp [he1]
          clear HE1 HE2
          go_wp2
          go_quiet (fail)
          go_wp2
          go_ret
          exact ⟨by rw [decide_eq_false HN.out]; rfl, bdrewN hBr _⟩
      · obtain rfl : k = x := by omega
        have hN : Hid (l = m) := Lib.hid (by have := hT.out; rwa [List.take_of_length_le (by have := HX.out; omega), List.take_of_length_le (by have := HY.out; omega)] at this)
        clear hT
        go_wp2
        go_ret
        exact ⟨by rw [decide_eq_true hN.out]; rfl, hBr⟩
  · have hn : ((x : Int) != (y : Int)) = true := by rw [bne_iff_ne]; omega
    have hN : Hid (l ≠ m) := Lib.hid (fun h => hne (by rw [hx, hy, h]))
    clear hx hy
    go_enter Try.func22, Try.ntmps22
    go_wp2
    go_ret
    exact ⟨by rw [decide_eq_false hN.out]; rfl, Below.refl _ _⟩
end Go.Proofs.Ytclbpohhmaojcaa.GrW
