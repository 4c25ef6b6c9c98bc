/-
  The walk of Reach at a graph that is none.
-/
import Derived.Test.YtclbpohhmaojcaaGraphReach
namespace Go.Proofs.Ytclbpohhmaojcaa.GrW
set_option linter.unusedVariables false
open Go Go.RowKit Go.Proofs Go.Proofs.Ytclbpohhmaojcaa Go.Proofs.Ytclbpohhmaojcaa.Wd
set_option maxRecDepth 100000 in
theorem reach_non (w : World) (v : Value) (h : Non w v) (x y : Int) : Calls Try.prog 10 #[v, .int .i64 x, .int .i64 y] w fun e w' => e = .returned (.bool false) ∧ Below w.heap.size w w' := by
  have hB := ((Below.refl w.heap.size w).alloc (Nat.le_refl _) (.cells #[v] 23)).alloc (by simp) (.cells #[.int .i64 y] 3)
  have hN : Non ((w.alloc (.cells #[v] 23)).alloc (.cells #[.int .i64 y] 3)) v := by
    rcases h with h | ⟨g, e, h⟩
    · exact .inl h
    · exact .inr ⟨g, e, (hB.cell (p := ⟨g, 0, none⟩) (lt_of_cell h)).trans h⟩
  have HX := Lib.hid (is_non _ v hN x)
  have HF : ∀ w', w' = (w.alloc (.cells #[v] 23)).alloc (.cells #[.int .i64 y] 3) → Hid (Below w.heap.size w w') := fun w' e => Lib.hid (by rw [e]; exact hB)
  clear hB hN
  rcases h with rfl | ⟨g, rfl, h⟩
  · have c0 : ((w.alloc (.cells #[.pointer none] 23)).alloc (.cells #[.int .i64 y] 3)).cell? ⟨w.heap.size, 0, none⟩ = some (.pointer none) := ((Blk.new_ w 23 _ rfl).alloc _).at_ 0 rfl
    go_enter Try.func10, Try.ntmps10
    go_wp2_with fail
    refine Calls.mono HX.out ?_
    rintro e w' ⟨rfl, rfl⟩
    clear HX
    go_wp2_with fail
    go_ret
    exact ⟨rfl, (HF _ rfl).out⟩
  · have c0 : ((w.alloc (.cells #[.pointer (some ⟨g, 0, none⟩)] 23)).alloc (.cells #[.int .i64 y] 3)).cell? ⟨w.heap.size, 0, none⟩ = some (.pointer (some ⟨g, 0, none⟩)) := ((Blk.new_ w 23 _ rfl).alloc _).at_ 0 rfl
    clear h
    go_enter Try.func10, Try.ntmps10
    go_wp2_with fail
    refine Calls.mono HX.out ?_
    rintro e w' ⟨rfl, rfl⟩
    clear HX
    go_wp2_with fail
    go_ret
    exact ⟨rfl, (HF _ rfl).out⟩
end Go.Proofs.Ytclbpohhmaojcaa.GrW
