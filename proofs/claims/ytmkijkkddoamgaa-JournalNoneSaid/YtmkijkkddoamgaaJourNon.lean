/-
  A journal that is none: nil, or one that Open did not answer.
-/
import Derived.Test.YtmkijkkddoamgaaJW
import Derived.Shelf.Abstract
namespace Go.Proofs.Ytmkijkkddoamgaa.Jo
set_option linter.unusedVariables false
open Go Go.RowKit Go.Shelf Go.Proofs Go.Proofs.Ytmkijkkddoamgaa Go.Proofs.Ytmkijkkddoamgaa.Wd
def Non (w : World) (o : Option Addr) : Prop := o = none ∨ ∃ z, o = some ⟨z, 0, none⟩ ∧ w.cell? ⟨z, 0, none⟩ = some (.pointer none)
theorem Non.below {w w' : World} {o : Option Addr} (h : Non w o) (hb : Below w.heap.size w w') : Non w' o := by
  rcases h with rfl | ⟨z, rfl, hz⟩
  · exact .inl rfl
  · exact .inr ⟨z, rfl, (hb.cell (p := ⟨z, 0, none⟩) (block_lt_of_cell hz)).trans hz⟩
theorem none_non {w : World} {o : Option Addr} (h : Non w o) : Calls Try.prog 33 #[.pointer o] w fun e w' => e = .returned (.bool true) ∧ w = w' := by
  rcases h with rfl | ⟨z, rfl, hz⟩
  · go_enter Try.func33, Try.ntmps33
    go_wp2_with fail
    go_ret
    exact ⟨rfl, rfl⟩
  · go_enter Try.func33, Try.ntmps33
    go_wp2_with fail
    go_ret
    exact ⟨rfl, rfl⟩
theorem append_non {w : World} {o : Option Addr} (h : Non w o) (A : Option Addr) (n c : Nat) : Calls Try.prog 11 #[.pointer o, .slice A n c] w fun e w' => e = .returned (.int .i64 1) ∧ w = w' := by
  have HN := Lib.hid (none_non h)
  rcases h with rfl | ⟨z, rfl, hz⟩
  · go_enter Try.func11, Try.ntmps11
    go_wp2_with fail
    refine Calls.mono HN.out ?_
    rintro e w1 ⟨rfl, rfl⟩
    go_wp2_with fail
    go_ret
    exact ⟨rfl, rfl⟩
  · go_enter Try.func11, Try.ntmps11
    go_wp2_with fail
    refine Calls.mono HN.out ?_
    rintro e w1 ⟨rfl, rfl⟩
    go_wp2_with fail
    go_ret
    exact ⟨rfl, rfl⟩
theorem switch_non {w : World} {o : Option Addr} (h : Non w o) (A : Option Addr) (n c : Nat) : Calls Try.prog 20 #[.pointer o, .slice A n c] w fun e w' => e = .returned (.int .i64 1) ∧ Below w.heap.size w w' := by
  have HN := Lib.hid (fun (W : World) (hb : Below w.heap.size w W) => none_non (h.below hb))
  rcases h with rfl | ⟨z, rfl, hz⟩
  · go_enter Try.func20, Try.ntmps20
    go_wp2_with fail
    refine Calls.mono (HN.out _ (by first | exact Below.refl _ _ | exact (Below.refl _ _).alloc (Nat.le_refl _) _)) ?_
    rintro e w1 ⟨rfl, rfl⟩
    go_wp2_with fail
    go_ret
    exact ⟨rfl, by first | exact Below.refl _ _ | exact (Below.refl _ _).alloc (Nat.le_refl _) _⟩
  · go_enter Try.func20, Try.ntmps20
    go_wp2_with fail
    refine Calls.mono (HN.out _ (by first | exact Below.refl _ _ | exact (Below.refl _ _).alloc (Nat.le_refl _) _)) ?_
    rintro e w1 ⟨rfl, rfl⟩
    go_wp2_with fail
    go_ret
    exact ⟨rfl, by first | exact Below.refl _ _ | exact (Below.refl _ _).alloc (Nat.le_refl _) _⟩
theorem free_non {w : World} {o : Option Addr} (h : Non w o) : Calls Try.prog 21 #[.pointer o] w fun e w' => e = .returned (.int .i64 0) ∧ w = w' := by
  have HN := Lib.hid (none_non h)
  rcases h with rfl | ⟨z, rfl, hz⟩
  · go_enter Try.func21, Try.ntmps21
    go_wp2_with fail
    refine Calls.mono HN.out ?_
    rintro e w1 ⟨rfl, rfl⟩
    go_wp2_with fail
    go_ret
    exact ⟨rfl, rfl⟩
  · go_enter Try.func21, Try.ntmps21
    go_wp2_with fail
    refine Calls.mono HN.out ?_
    rintro e w1 ⟨rfl, rfl⟩
    go_wp2_with fail
    go_ret
    exact ⟨rfl, rfl⟩
theorem size_non {w : World} {o : Option Addr} (h : Non w o) : Calls Try.prog 13 #[.pointer o] w fun e w' => e = .returned (.int .i64 0) ∧ w = w' := by
  have HN := Lib.hid (none_non h)
  rcases h with rfl | ⟨z, rfl, hz⟩
  · go_enter Try.func13, Try.ntmps13
    go_wp2_with fail
    refine Calls.mono HN.out ?_
    rintro e w1 ⟨rfl, rfl⟩
    go_wp2_with fail
    go_ret
    exact ⟨rfl, rfl⟩
  · go_enter Try.func13, Try.ntmps13
    go_wp2_with fail
    refine Calls.mono HN.out ?_
    rintro e w1 ⟨rfl, rfl⟩
    go_wp2_with fail
    go_ret
    exact ⟨rfl, rfl⟩
end Go.Proofs.Ytmkijkkddoamgaa.Jo
