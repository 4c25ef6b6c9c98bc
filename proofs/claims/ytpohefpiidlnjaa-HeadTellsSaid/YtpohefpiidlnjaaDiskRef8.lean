/-
  The walk of the document's New.
-/
import Derived.Test.YtpohefpiidlnjaaDiskRef6
namespace Go.Proofs.Ytpohefpiidlnjaa.Dr
set_option linter.unusedVariables false
open Go Go.RowKit Go.Proofs Go.Proofs.Ytpohefpiidlnjaa Go.Proofs.Ytpohefpiidlnjaa.Wd
open Go.Proofs.Ytpohefpiidlnjaa.Dk (DS upd upd_eq upd_ne Ok newD)
def nv (b : Nat) (j : Nat) : Nat → Sl := fun i => if i = 5 ∧ 0 < j then (some ⟨b + 2, 0, none⟩, 32, 32) else if i = 7 ∧ 1 < j then (some ⟨b + 3, 0, none⟩, 32, 32) else (none, 0, 0)
theorem made_bytes2 (n : Nat) : madeCells #[Value.int .u8 0] n = (bs (List.replicate n 0)).toArray := by
  apply Array.ext
  · simp [madeCells, bs]
  · intro i h1 h2
    simp [madeCells, bs, Nat.mod_one]
theorem make_run (n : Nat) (hn : n ≤ 100000) (W : World) : (Instr.makeSlice 25 (.int .i64 (n : Int)) (.int .i64 (n : Int))).run Try.prog W = .ok (.slice (some ⟨W.heap.size, 0, none⟩) n n) (W.alloc (.cells (bs (List.replicate n 0)).toArray 5)) := by
  obtain ⟨j0, hj0, hy0, hy1, hy2⟩ := info_parts infoU8
  have h := run_make (P := Try.prog) W 25 5 j0 (.int .u8 0) Try.underlying25 hj0 hy0 .i64 .i64 (n : Int) (n : Int) (by omega) (Int.le_refl _) (by rw [hy2]; omega) (by omega)
  rw [Int.toNat_natCast, hy1, Nat.mul_one] at h
  rw [h, ← made_bytes2]; rfl
/-- New, under way. -/
structure NS (c : Nat) (w wr : World) (j : Nat) (X : Array Value) : Prop where
  res : Blk wr w.heap.size 69 #[.int .i64 0, .slice none 0 0, .slice none 0 0, .slice none 0 0, .slice none 0 0, .slice none 0 0, .slice none 0 0, .slice none 0 0, .slice none 0 0, .bool false, .int .i64 0, .int .i64 0, .bool false]
  box : Blk wr (w.heap.size + 1) 69 X
  cells : X = rcells (newD c) (nv w.heap.size j) 0 0
  low : Below w.heap.size w wr
  size : wr.heap.size = w.heap.size + 2 + j
  bytes : ∀ i, i < j → Bytes wr wr.heap.size (some ⟨w.heap.size + 2 + i, 0, none⟩) (List.replicate 32 0)
theorem NS.next0 {c : Nat} {w wr : World} {X : Array Value} (h : NS c w wr 0 X) : NS c w ((wr.setCell ⟨w.heap.size + 1, 5, none⟩ (.slice (some ⟨wr.heap.size, 0, none⟩) 32 32)).alloc (.cells (bs (List.replicate 32 0)).toArray 5)) 1 (X.setIfInBounds 5 (.slice (some ⟨wr.heap.size, 0, none⟩) 32 32)) where
  res := (h.res.far (p := ⟨w.heap.size + 1, 5, none⟩) (by show _ ≠ w.heap.size + 1; omega) _).alloc _
  box := (h.box.set_ 5 _).alloc _
  cells := by rw [h.cells, h.size]; rfl
  low := (h.low.setCell (p := ⟨w.heap.size + 1, 5, none⟩) (Nat.le_succ _) _).alloc (by simpa using h.low.size) _
  size := by simp [h.size]
  bytes i hi := by
    have hf : Fr (fun j => j = w.heap.size + 1) wr (wr.setCell ⟨w.heap.size + 1, 5, none⟩ (.slice (some ⟨wr.heap.size, 0, none⟩) 32 32)) := Fr.setCell (F := fun j => j = w.heap.size + 1) (p := ⟨w.heap.size + 1, 5, none⟩) (Fr.refl _ _) (.inl rfl) _
    by_cases e : i < 0
    · exact (Bytes.fr (h.bytes i e) hf (fun _ b o e => by cases e; omega)).grow ((Below.refl _ _).alloc (Nat.le_refl _) _)
    · have hi2 : w.heap.size + 2 + i = (wr.setCell ⟨w.heap.size + 1, 5, none⟩ (.slice (some ⟨wr.heap.size, 0, none⟩) 32 32)).heap.size := by have := h.size; simp; omega
      rw [hi2]
      exact Bytes.new_ _ 5 _ (0, 0) _ (by simp) rfl (by simp)
theorem NS.next1 {c : Nat} {w wr : World} {X : Array Value} (h : NS c w wr 1 X) : NS c w ((wr.setCell ⟨w.heap.size + 1, 7, none⟩ (.slice (some ⟨wr.heap.size, 0, none⟩) 32 32)).alloc (.cells (bs (List.replicate 32 0)).toArray 5)) 2 (X.setIfInBounds 7 (.slice (some ⟨wr.heap.size, 0, none⟩) 32 32)) where
  res := (h.res.far (p := ⟨w.heap.size + 1, 7, none⟩) (by show _ ≠ w.heap.size + 1; omega) _).alloc _
  box := (h.box.set_ 7 _).alloc _
  cells := by rw [h.cells, h.size]; rfl
  low := (h.low.setCell (p := ⟨w.heap.size + 1, 7, none⟩) (Nat.le_succ _) _).alloc (by simpa using h.low.size) _
  size := by simp [h.size]
  bytes i hi := by
    have hf : Fr (fun j => j = w.heap.size + 1) wr (wr.setCell ⟨w.heap.size + 1, 7, none⟩ (.slice (some ⟨wr.heap.size, 0, none⟩) 32 32)) := Fr.setCell (F := fun j => j = w.heap.size + 1) (p := ⟨w.heap.size + 1, 7, none⟩) (Fr.refl _ _) (.inl rfl) _
    by_cases e : i < 1
    · exact (Bytes.fr (h.bytes i e) hf (fun _ b o e => by cases e; omega)).grow ((Below.refl _ _).alloc (Nat.le_refl _) _)
    · have hi2 : w.heap.size + 2 + i = (wr.setCell ⟨w.heap.size + 1, 7, none⟩ (.slice (some ⟨wr.heap.size, 0, none⟩) 32 32)).heap.size := by have := h.size; simp; omega
      rw [hi2]
      exact Bytes.new_ _ 5 _ (0, 0) _ (by simp) rfl (by simp)
theorem NS.turned {c : Nat} {w wr : World} {X : Array Value} {F : Nat → Prop} (h : NS c w wr 2 X) (hF : ∀ j, F j → j < w.heap.size) : Turned1 F (newD c) w (.returned (.agg X)) (wr.setRow w.heap.size X) := by
  have hf : Fr (fun j => j = w.heap.size) wr (wr.setRow w.heap.size X) := ⟨rfl, rfl, rfl, by simp, fun j hj hne => setRow_other wr _ j _ hne⟩
  refine ⟨⟨nv w.heap.size 2, 0, 0, by rw [h.cells]; rfl, ?_⟩, below_row h.low (Nat.le_refl _) _⟩
  have hb : ∀ i, i < 2 → Ref (wr.setRow w.heap.size X) F (some ⟨w.heap.size + 2 + i, 0, none⟩, 32, 32) (List.replicate 32 0) := fun i hi =>
    ⟨by simp, Nat.le_refl _, by simp [maxLen], Bytes.fr (h.bytes i hi) hf (fun _ b o e => by cases e; omega), fun _ b o e hg => by cases e; have := hF _ hg; omega⟩
  exact ⟨Ref.nil _ _, Ref.nil _ _, Ref.nil _ _, Ref.nil _ _, hb 0 (by omega), Ref.nil _ _, hb 1 (by omega), Ref.nil _ _, fun a b e => by cases e⟩
set_option maxRecDepth 100000 in
set_option maxHeartbeats 4000000 in
theorem rnew {w : World} {F : Nat → Prop} (hF : ∀ j, F j → j < w.heap.size) (c : Nat) :
    Calls Try.prog 27 #[.int .i64 c] w (Turned1 F (newD c) w) := by
  go_enter Try.func27, Try.ntmps27
  have hS : NS c w ((w.alloc (.cells #[.int .i64 0, .slice none 0 0, .slice none 0 0, .slice none 0 0, .slice none 0 0, .slice none 0 0, .slice none 0 0, .slice none 0 0, .slice none 0 0, .bool false, .int .i64 0, .int .i64 0, .bool false] 69)).alloc (.cells #[.int .i64 c, .slice none 0 0, .slice none 0 0, .slice none 0 0, .slice none 0 0, .slice none 0 0, .slice none 0 0, .slice none 0 0, .slice none 0 0, .bool false, .int .i64 0, .int .i64 0, .bool false] 69)) 0 _ := ⟨(Blk.new_ w _ _ rfl).alloc _, Blk.new_ (w.alloc _) _ _ (by simp), rfl, ((Below.refl _ w).alloc (Nat.le_refl _) _).alloc (by simp) _, by simp, fun i hi => absurd hi (Nat.not_lt_zero _)⟩
  go_upto_region 2 with fail
  generalize ((w.alloc (.cells #[.int .i64 0, .slice none 0 0, .slice none 0 0, .slice none 0 0, .slice none 0 0, .slice none 0 0, .slice none 0 0, .slice none 0 0, .slice none 0 0, .bool false, .int .i64 0, .int .i64 0, .bool false] 69)).alloc (.cells #[.int .i64 c, .slice none 0 0, .slice none 0 0, .slice none 0 0, .slice none 0 0, .slice none 0 0, .slice none 0 0, .slice none 0 0, .slice none 0 0, .bool false, .int .i64 0, .int .i64 0, .bool false] 69)) = w0 at *
  have HS0 := Lib.hid hS
  clear hS
  go_wp2_with fail
  go_loopw [4] (fun i wr => ∃ (j : Nat), j ≤ 2 ∧ i = .int .i64 j ∧ ∃ X, Hid (NS c w wr j X)) (fun i _ => 2 - (intOf i).toNat)
  case atStart => exact ⟨0, Nat.zero_le _, rfl, _, HS0⟩
  case round =>
    obtain ⟨j, hj, rfl, X, HS⟩ := hrel
    clear HS0
    rcases (by omega : j = 0 ∨ j = 1 ∨ j = 2) with rfl | rfl | rfl
    all_goals simp only [Int.cast_ofNat_Int]
    · have q := HS.out.box
      have qa := q.at_ 5 (v := .slice none 0 0) (by rw [HS.out.cells]; rfl)
      have qf := q.frozen 5
      have hmk := make_run 32 (by omega) wr
      simp only [Int.cast_ofNat_Int] at hmk
      have qlt := q.lt
      have HS1 := Lib.hid (HS.out.next0)
      clear q HS
      generalize hzz : (bs (List.replicate 32 0)).toArray = zz at *
      clear hzz
      go_wp2_with fail
      go_roundw
      case rel => exact ⟨1, by omega, rfl, _, HS1⟩
      case measure => simp [intOf]
    · have q := HS.out.box
      have qa := q.at_ 7 (v := .slice none 0 0) (by rw [HS.out.cells]; rfl)
      have qf := q.frozen 7
      have hmk := make_run 32 (by omega) wr
      simp only [Int.cast_ofNat_Int] at hmk
      have qlt := q.lt
      have HS1 := Lib.hid (HS.out.next1)
      clear q HS
      generalize hzz : (bs (List.replicate 32 0)).toArray = zz at *
      clear hzz
      go_wp2_with fail
      go_roundw
      case rel => exact ⟨2, by omega, rfl, _, HS1⟩
      case measure => simp [intOf]
    · have HX := Lib.hid HS.out.cells
      have HO : Hid (Turned1 F (newD c) w (.returned (.agg X)) (wr.setRow w.heap.size X)) := Lib.hid (HS.out.turned hF)
      go_wp2_with (first | (refine wpList_load_row rfl 69 (.tmp 3) rfl (w.heap.size + 1) rfl 69 X _ _ HS.out.box.out Try.underlying69 rfl (by rw [rx_size HX.out]; kernel_rfl) ?_) | (refine wpList_put_row rfl rfl 69 (.tmp 2) _ rfl w.heap.size rfl 69 _ X rfl HS.out.res (by rw [rx_size HX.out]; kernel_rfl) (by rw [rx_size HX.out]; rfl) (rx_one HX.out) ?_))
      refine bodyPost_ret (results_cell_row1 rfl _ _ w.heap.size 69 X (0, 0) _ rfl (HS.out.res.row X).out Try.underlying69 rfl (by rw [rx_size HX.out]; kernel_rfl)) rfl ?_
      exact HO.out
end Go.Proofs.Ytpohefpiidlnjaa.Dr
