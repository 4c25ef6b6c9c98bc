/-
  The walk of Reach.
-/
import Derived.Test.YtclbpohhmaojcaaGraphReach1
namespace Go.Proofs.Ytclbpohhmaojcaa.GrW
set_option linter.unusedVariables false
open Go Go.RowKit Go.Proofs Go.Proofs.Ytclbpohhmaojcaa Go.Proofs.Ytclbpohhmaojcaa.Wd
open Go.Proofs.Ytclbpohhmaojcaa.Gr (E Path Inside is Closed Mono Dfs un Scan)

theorem lt_of_cell {w : World} {p : Addr} {v : Value} (h : w.cell? p = some v) : p.block < w.heap.size := by
  unfold World.cell? at h
  by_cases hg : p.block < w.heap.size
  · exact hg
  · rw [Array.getElem?_eq_none (Nat.le_of_not_lt hg)] at h; simp at h
set_option maxRecDepth 100000 in
theorem goes_next (w0 : World) (base g n bg bv bm bf rm : Nat) (v : Nat) (F : Nat → Prop) (L : List (List Int)) (h : GAt w0 base F g n L) (hr : Rises L) (hin : Inside n L) (hn : n ≤ 30000) (k : Nat) (hG : Goes w0 n g bg bv bm bf rm v L k) : Goes w0 n g bg bv bm bf rm v L (k + 1) := by
  intro met W x hS hx hm hu
  unfold fromArgs
  have i1 : (0 : Int) ≤ (x : Int) := by omega
  have i2 : (x : Int) < (n : Int) := by omega
  by_cases hxv : x = v
  · obtain rfl : v = x := hxv.symm
    have HF : Hid (FromOut w0 n g bg bv bm bf rm v L met v (.returned (.bool true)) W) := Lib.hid ⟨_, _, rfl, hS, Mono.refl _, fun _ => .refl _, fun e => by simp at e⟩
    have c1 := hS.hv.at_ 0 rfl
    clear hS h hr hin hG hm hu
    go_enter Try.func36, Try.ntmps36
    go_wp2_with fail
    go_ret
    exact HF.out
  · have hlen := hS.len
    obtain ⟨r, c, hH, hrow⟩ := h.row_at
    obtain ⟨A, d, hc, hi⟩ := hrow (2 * x) (by omega)
    have hS2 := hS.set_ x
    have HC := Lib.hid (contains_any w0 base n g bg bv bm bf rm v L hin k hn hG met x hx hlen hxv (by have := Gr.un_set (met := met) (x := x) (by omega) hm; omega) A _ d rfl (hr.at_ _).2 hi _ hS2)
    generalize hml : (L.getD (2 * x) []).length = m at *
    have d1 : (W.setCell ⟨rm, x, none⟩ (.bool true)).cell? ⟨bg, 0, none⟩ = some (.pointer (some ⟨g, 0, none⟩)) := hS2.hg.at_ 0 rfl
    have d2 : (W.setCell ⟨rm, x, none⟩ (.bool true)).cell? ⟨g, 1, none⟩ = some (.slice (some ⟨r, 0, none⟩) n c) := (hS2.low.cell (p := ⟨g, 1, none⟩) (lt_of_cell hH.2)).trans hH.2
    have d3 : (W.setCell ⟨rm, x, none⟩ (.bool true)).cell? ⟨r, x * 2, none⟩ = some (.slice A m d) := by
      rw [Nat.mul_comm x 2]
      exact (hS2.low.cell (p := ⟨r, 2 * x, none⟩) (lt_of_cell hc)).trans hc
    have c1 := hS.hv.at_ 0 rfl
    have c2 := hS.hm.at_ 0 rfl
    have c3 : W.cell? ⟨rm, x, none⟩ = some (.bool (is met x)) := hS.hr.at_ x (bl_at (by omega))
    have c4 : W.frozen? ⟨rm, x, none⟩ = false := hS.hr.frozen x
    have i5 : ((x : Int) == (v : Int)) = false := by rw [beq_eq_false_iff_ne]; omega
    clear hS hS2 h hr hin hG hm hu hrow hH hc hi hml hlen
    unfold eachV at HC
    go_enter Try.func36, Try.ntmps36
    go_wp2_with fail
    refine Calls.mono HC.out ?_
    rintro e w' ⟨b, met', rfl, q1, q2⟩
    have HF : Hid (FromOut w0 n g bg bv bm bf rm v L met x (.returned (.bool b)) w') := Lib.hid ⟨_, _, rfl, q1, q2⟩
    clear HC q1 q2
    go_wp2_with fail
    go_ret
    exact HF.out
theorem goes (w0 : World) (base g n bg bv bm bf rm : Nat) (v : Nat) (F : Nat → Prop) (L : List (List Int)) (h : GAt w0 base F g n L) (hr : Rises L) (hin : Inside n L) (hn : n ≤ 30000) : ∀ k, Goes w0 n g bg bv bm bf rm v L k
  | 0 => fun met W x hS hx hm hu => by
    have := Gr.un_pos (met := met) (x := x) (by have := hS.len; omega) hm
    omega
  | k + 1 => goes_next w0 base g n bg bv bm bf rm v F L h hr hin hn k (goes w0 base g n bg bv bm bf rm v F L h hr hin hn k)
theorem infoBool : (Try.prog.info? 4).map (fun i => (i.zero, i.size, i.bytes)) = some (some (.bool false), 1, 1) := by kernel_rfl
theorem made_bools (k : Nat) : madeCells #[Value.bool false] k = (bl (List.replicate k false)).toArray := by
  apply Array.ext
  · simp [madeCells, bl]
  · intro i h1 h2
    simp [madeCells, bl, Nat.mod_one]
theorem make_bools (n : Nat) (hn : n ≤ 30000) (W : World) : (Instr.makeSlice 68 (.int .i64 (n : Int)) (.int .i64 (n : Int))).run Try.prog W = .ok (.slice (some ⟨W.heap.size, 0, none⟩) n n) (W.alloc (.cells (bl (List.replicate n false)).toArray 4)) := by
  obtain ⟨j0, hj0, hy0, hy1, hy2⟩ := info_parts infoBool
  have h := run_make (P := Try.prog) W 68 4 j0 _ Try.underlying68 hj0 hy0 .i64 .i64 (n : Int) (n : Int) (by omega) (Int.le_refl _) (by rw [hy2]; omega) (by omega)
  rw [Int.toNat_natCast, hy1, Nat.mul_one] at h
  rw [h, ← made_bools]
  rfl
/-- Is a vertex reached from another one? -/
def reached (n : Nat) (L : List (List Int)) (x y : Int) : Prop := isV n x = true ∧ isV n y = true ∧ Path L x.toNat y.toNat
def ReachOut (w : World) (n : Nat) (L : List (List Int)) (x y : Int) (e : Ending) (w' : World) : Prop := ∃ b, e = .returned (.bool b) ∧ (b = true ↔ reached n L x y) ∧ Below w.heap.size w w'
/-- The world behind the boxes. -/
def boxes (w : World) (g n : Nat) (y : Int) : World := ((((w.alloc (.cells #[.pointer (some ⟨g, 0, none⟩)] 23)).alloc (.cells #[.int .i64 y] 3)).alloc (.cells (bl (List.replicate n false)).toArray 4)).alloc (.cells #[.slice (some ⟨w.heap.size + 1 + 1, 0, none⟩) n n] 68)).alloc (.cells #[fromV w.heap.size (w.heap.size + 1) (w.heap.size + 1 + 1 + 1) (w.heap.size + 1 + 1 + 1 + 1)] 67)
theorem boxes_rs (w : World) (g n : Nat) (y : Nat) : RS w (boxes w g n y) n g w.heap.size (w.heap.size + 1) (w.heap.size + 1 + 1 + 1) (w.heap.size + 1 + 1 + 1 + 1) (w.heap.size + 1 + 1) y (List.replicate n false) where
  low := ((((((Below.refl w.heap.size w).alloc (Nat.le_refl _) _).alloc (by simp) _).alloc (by simp; omega) _).alloc (by simp; omega) _).alloc (by simp; omega) _)
  hv := (((Blk.new_ _ 3 _ (by simp)).alloc _).alloc _).alloc _
  hm := (Blk.new_ _ 68 _ (by simp)).alloc _
  hg := ((((Blk.new_ w 23 _ rfl).alloc _).alloc _).alloc _).alloc _
  hf := Blk.new_ _ 67 _ (by simp)
  hr := ((Blk.new_ _ 4 _ (by simp)).alloc _).alloc _
  len := List.length_replicate
  far := by omega
set_option maxRecDepth 100000 in
theorem reach_any (w : World) (base g n : Nat) (F : Nat → Prop) (L : List (List Int)) (h : GAt w base F g n L) (hr : Rises L) (hin : Inside n L) (hn : n ≤ 30000) (x y : Int) :
    Calls Try.prog 10 #[.pointer (some ⟨g, 0, none⟩), .int .i64 x, .int .i64 y] w (ReachOut w n L x y) := by
  have hB1 := ((Below.refl w.heap.size w).alloc (Nat.le_refl _) (.cells #[.pointer (some ⟨g, 0, none⟩)] 23)).alloc (by simp) (.cells #[.int .i64 y] 3)
  obtain ⟨r, c, hH, -⟩ := h.row_at
  have hH1 : Head ((w.alloc (.cells #[.pointer (some ⟨g, 0, none⟩)] 23)).alloc (.cells #[.int .i64 y] 3)) g (.slice (some ⟨r, 0, none⟩) n c) := ⟨(hB1.cell (p := ⟨g, 0, none⟩) (lt_of_cell hH.1)).trans hH.1, (hB1.cell (p := ⟨g, 1, none⟩) (lt_of_cell hH.2)).trans hH.2⟩
  have HX := Lib.hid (is_any _ g r n c hH1 x)
  have HY := Lib.hid (is_any _ g r n c hH1 y)
  have c0 : ((w.alloc (.cells #[.pointer (some ⟨g, 0, none⟩)] 23)).alloc (.cells #[.int .i64 y] 3)).cell? ⟨w.heap.size, 0, none⟩ = some (.pointer (some ⟨g, 0, none⟩)) := ((Blk.new_ w 23 _ rfl).alloc _).at_ 0 rfl
  have c1 : ((w.alloc (.cells #[.pointer (some ⟨g, 0, none⟩)] 23)).alloc (.cells #[.int .i64 y] 3)).cell? ⟨w.heap.size + 1, 0, none⟩ = some (.int .i64 y) := (Blk.new_ _ 3 _ (by simp)).at_ 0 rfl
  have HB1 := Lib.hid hB1
  by_cases hx : isV n x = true
  · rw [hx] at HX
    by_cases hy : isV n y = true
    · rw [hy] at HY
      obtain ⟨x', rfl, hxn⟩ : ∃ k : Nat, x = k ∧ k < n := by
        unfold isV at hx
        simp only [Bool.and_eq_true, decide_eq_true_eq] at hx
        exact ⟨x.toNat, by omega, by omega⟩
      obtain ⟨y', rfl⟩ : ∃ k : Nat, y = k := by
        unfold isV at hy
        simp only [Bool.and_eq_true, decide_eq_true_eq] at hy
        exact ⟨y.toNat, by omega⟩
      have hRS := boxes_rs w g n y'
      have HE := Lib.hid (goes w base g n _ _ _ _ _ _ F L h hr hin hn n _ _ x' hRS hxn (Gr.is_none n x') (Nat.le_trans List.countP_le_length (by simp)))
      have HU := Lib.hid (show ∀ (b : Bool) (met' : List Bool), Dfs L y' (List.replicate n false) met' x' b → (b = true ↔ reached n L x' y') from fun b met' hd => by
        rw [hd.tells]
        unfold reached
        rw [hx, hy]
        simp)
      have c6 : (boxes w g n y').cell? ⟨w.heap.size + 1 + 1 + 1 + 1, 0, none⟩ = some (fromV w.heap.size (w.heap.size + 1) (w.heap.size + 1 + 1 + 1) (w.heap.size + 1 + 1 + 1 + 1)) := hRS.hf.at_ 0 rfl
      have c7 : ((w.alloc (.cells #[.pointer (some ⟨g, 0, none⟩)] 23)).alloc (.cells #[.int .i64 (y' : Int)] 3)).cell? ⟨g, 1, none⟩ = some (.slice (some ⟨r, 0, none⟩) n c) := hH1.2
      have hsf : ∀ (a : Addr) (fn : Fn) (fs cap : Array Value) (m) (W : World), (store a (.func fn fs cap) m).run Try.prog W = stored Try.prog W a (.func fn fs cap) m := fun a _ _ _ m W => run_store Try.prog W a _ m rfl
      unfold boxes fromV at c6
      unfold fromArgs at HE
      unfold boxes fromV at HE
      have hmk := make_bools n hn
      clear h hr hin hH hH1 hB1 hRS hx hy
      go_enter Try.func10, Try.ntmps10
      go_wp2_with fail
      refine Calls.mono HX.out ?_
      rintro e w' ⟨rfl, rfl⟩
      clear HX
      go_wp2_with fail
      refine Calls.mono HY.out ?_
      rintro e w' ⟨rfl, rfl⟩
      clear HY
      go_wp2_with fail
      refine Calls.mono HE.out ?_
      rintro e w' ⟨b, met', rfl, q1, q2⟩
      have HF : Hid (ReachOut w n L x' y' (.returned (.bool b)) w') := Lib.hid ⟨_, rfl, HU.out b met' q2, q1.low⟩
      clear HE HU q1 q2
      go_wp2_with fail
      go_ret
      exact HF.out
    · have hy' : isV n y = false := by simpa using hy
      rw [hy'] at HY
      have HF : ∀ w', w' = (w.alloc (.cells #[.pointer (some ⟨g, 0, none⟩)] 23)).alloc (.cells #[.int .i64 y] 3) → Hid (ReachOut w n L x y (.returned (.bool false)) w') := fun w' e => Lib.hid ⟨_, rfl, by unfold reached; simp [hy'], by rw [e]; exact HB1.out⟩
      clear h hr hin hH hH1 hB1 hx hy hy'
      go_enter Try.func10, Try.ntmps10
      go_wp2_with fail
      refine Calls.mono HX.out ?_
      rintro e w' ⟨rfl, rfl⟩
      clear HX
      go_wp2_with fail
      refine Calls.mono HY.out ?_
      rintro e w' ⟨rfl, rfl⟩
      clear HY
      go_wp2_with fail
      go_ret
      exact (HF _ rfl).out
  · have hx' : isV n x = false := by simpa using hx
    rw [hx'] at HX
    have HF : ∀ w', w' = (w.alloc (.cells #[.pointer (some ⟨g, 0, none⟩)] 23)).alloc (.cells #[.int .i64 y] 3) → Hid (ReachOut w n L x y (.returned (.bool false)) w') := fun w' e => Lib.hid ⟨_, rfl, by unfold reached; simp [hx'], by rw [e]; exact HB1.out⟩
    clear h hr hin hH hH1 hB1 hx hx' HY
    go_enter Try.func10, Try.ntmps10
    go_wp2_with fail
    refine Calls.mono HX.out ?_
    rintro e w' ⟨rfl, rfl⟩
    clear HX
    go_wp2_with fail
    go_ret
    exact (HF _ rfl).out
end Go.Proofs.Ytclbpohhmaojcaa.GrW
