/-
  The walks of none, Len, is, New.
-/
import Derived.Test.YtclbpohhmaojcaaGraphMem
namespace Go.Proofs.Ytclbpohhmaojcaa.GrW
set_option linter.unusedVariables false
open Go Go.RowKit Go.Proofs Go.Proofs.Ytclbpohhmaojcaa Go.Proofs.Ytclbpohhmaojcaa.Wd

/-- A receiver of n vertices: a graph, or none of these. -/
def Head (w : World) (g : Nat) (v : Value) : Prop := w.cell? ⟨g, 0, none⟩ = some (.bool true) ∧ w.cell? ⟨g, 1, none⟩ = some v
theorem GAt.head {w : World} {base g n : Nat} {F : Nat → Prop} {L : List (List Int)} (h : GAt w base F g n L) : ∃ r c, Head w g (.slice (some ⟨r, 0, none⟩) n c) ∧ n ≤ c ∧ c ≤ maxLen := by
  obtain ⟨r, c, cur, h1, h2, h3, h4, h5, h6, -⟩ := h
  exact ⟨r, c, ⟨h1.cell 0, h1.cell 1⟩, h5, h6⟩
theorem none_any (w : World) (g : Nat) (v : Value) (h : Head w g v) : Calls Try.prog 40 #[.pointer (some ⟨g, 0, none⟩)] w fun e w' => e = .returned (.bool false) ∧ w = w' := by
  obtain ⟨h0, -⟩ := h
  go_enter Try.func40, Try.ntmps40
  go_wp2_with fail
  go_ret
  exact ⟨rfl, rfl⟩
theorem none_nil (w : World) : Calls Try.prog 40 #[.pointer none] w fun e w' => e = .returned (.bool true) ∧ w = w' := by
  go_enter Try.func40, Try.ntmps40
  go_wp2_with fail
  go_ret
  exact ⟨rfl, rfl⟩
theorem none_zero (w : World) (g : Nat) (h : w.cell? ⟨g, 0, none⟩ = some (.bool false)) : Calls Try.prog 40 #[.pointer (some ⟨g, 0, none⟩)] w fun e w' => e = .returned (.bool true) ∧ w = w' := by
  go_enter Try.func40, Try.ntmps40
  go_wp2_with fail
  go_ret
  exact ⟨rfl, rfl⟩
theorem len_any (w : World) (g r n c : Nat) (h : Head w g (.slice (some ⟨r, 0, none⟩) n c)) : Calls Try.prog 17 #[.pointer (some ⟨g, 0, none⟩)] w fun e w' => e = .returned (.int .i64 n) ∧ w = w' := by
  have HN := Lib.hid (none_any w g _ h)
  obtain ⟨h0, h1⟩ := h
  go_enter Try.func17, Try.ntmps17
  go_wp2_with fail
  refine Calls.mono HN.out ?_
  rintro e w' ⟨rfl, rfl⟩
  clear HN
  go_wp2_with fail
  go_ret
  exact ⟨rfl, rfl⟩
/-- Is it a vertex? -/
def isV (n : Nat) (v : Int) : Bool := decide (0 ≤ v) && decide (v < n)
theorem is_any (w : World) (g r n c : Nat) (h : Head w g (.slice (some ⟨r, 0, none⟩) n c)) (v : Int) : Calls Try.prog 35 #[.pointer (some ⟨g, 0, none⟩), .int .i64 v] w fun e w' => e = .returned (.bool (isV n v)) ∧ w = w' := by
  have HL := Lib.hid (len_any w g r n c h)
  clear h
  by_cases h0 : 0 ≤ v
  · have HF : Hid (decide (v < (n : Int)) = isV n v) := Lib.hid (by unfold isV; simp [h0])
    go_enter Try.func35, Try.ntmps35
    go_wp2_with fail
    refine Calls.mono HL.out ?_
    rintro e w' ⟨rfl, rfl⟩
    clear HL
    go_wp2_with fail
    go_ret
    exact ⟨by rw [← HF.out]; rfl, rfl⟩
  · have HF : Hid (isV n v = false) := Lib.hid (by unfold isV; simp [h0])
    go_enter Try.func35, Try.ntmps35
    go_wp2_with fail
    go_ret
    exact ⟨by rw [HF.out]; rfl, rfl⟩
/-- A graph that is none: nil, or one that New did not answer. -/
def Non (w : World) (v : Value) : Prop := v = .pointer none ∨ ∃ g, v = .pointer (some ⟨g, 0, none⟩) ∧ w.cell? ⟨g, 0, none⟩ = some (.bool false)
theorem none_non (w : World) (v : Value) (h : Non w v) : Calls Try.prog 40 #[v] w fun e w' => e = .returned (.bool true) ∧ w = w' := by
  rcases h with rfl | ⟨g, rfl, h⟩
  · exact none_nil w
  · exact none_zero w g h
theorem len_non (w : World) (v : Value) (h : Non w v) : Calls Try.prog 17 #[v] w fun e w' => e = .returned (.int .i64 0) ∧ w = w' := by
  have HN := Lib.hid (none_non w v h)
  clear h
  go_enter Try.func17, Try.ntmps17
  go_wp2_with fail
  refine Calls.mono HN.out ?_
  rintro e w' ⟨rfl, rfl⟩
  clear HN
  go_wp2_with fail
  go_ret
  exact ⟨rfl, rfl⟩
theorem is_non (w : World) (v : Value) (h : Non w v) (x : Int) : Calls Try.prog 35 #[v, .int .i64 x] w fun e w' => e = .returned (.bool false) ∧ w = w' := by
  have HL := Lib.hid (len_non w v h)
  clear h
  by_cases h0 : 0 ≤ x
  · have h1 : ¬ x < 0 := by omega
    go_enter Try.func35, Try.ntmps35
    go_wp2_with fail
    refine Calls.mono HL.out ?_
    rintro e w' ⟨rfl, rfl⟩
    clear HL
    go_wp2_with fail
    go_ret
    exact ⟨by rw [show (false : Bool) = decide (x < 0) from (decide_eq_false (by omega)).symm]; rfl, rfl⟩
  · go_enter Try.func35, Try.ntmps35
    go_wp2_with fail
    go_ret
    exact ⟨rfl, rfl⟩
theorem has_non (w : World) (v : Value) (h : Non w v) (x y : Int) : Calls Try.prog 18 #[v, .int .i64 x, .int .i64 y] w fun e w' => e = .returned (.bool false) ∧ w = w' := by
  have HL := Lib.hid (is_non w v h x)
  clear h
  go_enter Try.func18, Try.ntmps18
  go_wp2_with fail
  refine Calls.mono HL.out ?_
  rintro e w' ⟨rfl, rfl⟩
  clear HL
  go_wp2_with fail
  go_ret
  exact ⟨rfl, rfl⟩
theorem cutE_non (w : World) (v : Value) (h : Non w v) (x y : Int) : Calls Try.prog 23 #[v, .int .i64 x, .int .i64 y] w fun e w' => e = .returned (.bool false) ∧ w = w' := by
  have HL := Lib.hid (is_non w v h x)
  clear h
  go_enter Try.func23, Try.ntmps23
  go_wp2_with fail
  refine Calls.mono HL.out ?_
  rintro e w' ⟨rfl, rfl⟩
  clear HL
  go_wp2_with fail
  go_ret
  exact ⟨rfl, rfl⟩
theorem putE_non (w : World) (v : Value) (h : Non w v) (x y : Int) : Calls Try.prog 21 #[v, .int .i64 x, .int .i64 y] w fun e w' => e = .returned (.tuple #[.bool false, .int .i64 1]) ∧ w = w' := by
  have HL := Lib.hid (none_non w v h)
  clear h
  go_enter Try.func21, Try.ntmps21
  go_wp2_with fail
  refine Calls.mono HL.out ?_
  rintro e w' ⟨rfl, rfl⟩
  clear HL
  go_wp2_with fail
  go_ret2
  exact ⟨rfl, rfl⟩
theorem grow_non (w : World) (v : Value) (h : Non w v) (x : Int) : Calls Try.prog 28 #[v, .int .i64 x] w fun e w' => e = .returned (.int .i64 1) ∧ w = w' := by
  have HL := Lib.hid (none_non w v h)
  clear h
  go_enter Try.func28, Try.ntmps28
  go_wp2_with fail
  refine Calls.mono HL.out ?_
  rintro e w' ⟨rfl, rfl⟩
  clear HL
  go_wp2_with fail
  go_ret
  exact ⟨rfl, rfl⟩
theorem out_non (w : World) (v : Value) (h : Non w v) (x : Int) : Calls Try.prog 11 #[v, .int .i64 x] w fun e w' => e = .returned (.slice none 0 0) ∧ w = w' := by
  have HL := Lib.hid (is_non w v h x)
  clear h
  go_enter Try.func11, Try.ntmps11
  go_wp2_with fail
  refine Calls.mono HL.out ?_
  rintro e w' ⟨rfl, rfl⟩
  clear HL
  go_wp2_with fail
  go_ret
  exact ⟨rfl, rfl⟩
theorem in_non (w : World) (v : Value) (h : Non w v) (x : Int) : Calls Try.prog 12 #[v, .int .i64 x] w fun e w' => e = .returned (.slice none 0 0) ∧ w = w' := by
  have HL := Lib.hid (is_non w v h x)
  clear h
  go_enter Try.func12, Try.ntmps12
  go_wp2_with fail
  refine Calls.mono HL.out ?_
  rintro e w' ⟨rfl, rfl⟩
  clear HL
  go_wp2_with fail
  go_ret
  exact ⟨rfl, rfl⟩
theorem sort_non (w : World) (v : Value) (h : Non w v) : Calls Try.prog 14 #[v] w fun e w' => e = .returned (.tuple #[.slice none 0 0, .bool false]) ∧ w = w' := by
  have HL := Lib.hid (none_non w v h)
  clear h
  go_enter Try.func14, Try.ntmps14
  go_wp2_with fail
  refine Calls.mono HL.out ?_
  rintro e w' ⟨rfl, rfl⟩
  clear HL
  go_wp2_with fail
  go_ret2
  exact ⟨rfl, rfl⟩
theorem copy_non (w : World) (v : Value) (h : Non w v) : Calls Try.prog 19 #[v] w fun e w' => e = .returned (.pointer none) ∧ w = w' := by
  have HL := Lib.hid (none_non w v h)
  clear h
  go_enter Try.func19, Try.ntmps19
  go_wp2_with fail
  refine Calls.mono HL.out ?_
  rintro e w' ⟨rfl, rfl⟩
  clear HL
  go_wp2_with fail
  go_ret
  exact ⟨rfl, rfl⟩
theorem edges_non (w : World) (v : Value) (h : Non w v) : Calls Try.prog 16 #[v] w fun e w' => e = .returned (.slice none 0 0) ∧ w = w' := by
  have HL := Lib.hid (len_non w v h)
  clear h
  go_enter Try.func16, Try.ntmps16
  go_wp2_with fail
  refine Calls.mono HL.out ?_
  rintro e w' ⟨rfl, rfl⟩
  clear HL
  go_wp2_with fail
  go_loop [3, 9] (fun v i => v = .slice none 0 0 ∧ i = .int .i64 0) (fun _ _ => 0)
  case atStart => exact ⟨rfl, rfl⟩
  case round =>
    obtain ⟨rfl, rfl⟩ := hrel
    go_wp2_with fail
    go_ret
    exact ⟨rfl, rfl⟩
end Go.Proofs.Ytclbpohhmaojcaa.GrW
