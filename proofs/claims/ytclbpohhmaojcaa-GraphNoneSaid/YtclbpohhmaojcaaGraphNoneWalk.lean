/-
  The walk of GraphNone.
-/
import Derived.Test.YtclbpohhmaojcaaGraphAwake
import Derived.Test.YtclbpohhmaojcaaGraphReachNon
namespace Go.Proofs.Ytclbpohhmaojcaa.GrW
set_option linter.unusedVariables false
open Go Go.RowKit Go.Proofs Go.Proofs.Ytclbpohhmaojcaa Go.Proofs.Ytclbpohhmaojcaa.Wd

theorem Non.below {w w' : World} {v : Value} (h : Non w v) (hb : Below w.heap.size w w') : Non w' v := by
  rcases h with h | ⟨g, e, h⟩
  · exact .inl h
  · exact .inr ⟨g, e, (hb.cell (p := ⟨g, 0, none⟩) (lt_of_cell h)).trans h⟩
set_option maxRecDepth 100000 in
set_option maxHeartbeats 4000000 in
theorem none_walk (w : World) (u v : Int) : Calls Try.prog 8 #[.int .i64 u, .int .i64 v] w fun e w' => e = .returned (.bool true) ∧ Below w.heap.size w w' := by
  have HZ : Hid (∀ i : Nat, i < 2 → ∀ wr, Below (w.heap.size + 1 + 1) ((w.alloc (.cells #[.bool false, .slice none 0 0] 65)).alloc (.cells #[.pointer none, .pointer (some ⟨w.heap.size, 0, none⟩)] 23)) wr → ∃ x, Non wr x ∧ wr.cell? ⟨w.heap.size + 1, i, none⟩ = some x) := Lib.hid (fun i hi wr hb => by
    have b1 := (Blk.new_ w 65 #[.bool false, .slice none 0 0] rfl).alloc (.cells #[.pointer none, .pointer (some ⟨w.heap.size, 0, none⟩)] 23)
    have b2 := Blk.new_ (w.alloc (.cells #[.bool false, .slice none 0 0] 65)) 23 #[.pointer none, .pointer (some ⟨w.heap.size, 0, none⟩)] (n := w.heap.size + 1) (by simp)
    have c1 := b1.below hb (by omega)
    have c2 := b2.below hb (by omega)
    have : i = 0 ∨ i = 1 := by omega
    rcases this with rfl | rfl
    · exact ⟨.pointer none, .inl rfl, c2.at_ 0 rfl⟩
    · exact ⟨_, .inr ⟨w.heap.size, rfl, c1.at_ 0 rfl⟩, c2.at_ 1 rfl⟩)
  have HB0 : Hid (Below w.heap.size w ((w.alloc (.cells #[.bool false, .slice none 0 0] 65)).alloc (.cells #[.pointer none, .pointer (some ⟨w.heap.size, 0, none⟩)] 23))) := Lib.hid (((Below.refl _ w).alloc (Nat.le_refl _) _).alloc (by simp) _)
  go_enter Try.func8, Try.ntmps8
  go_wp2_with fail
  go_loopw [15] (fun ix wr => ∃ i : Nat, i ≤ 2 ∧ ix = .int .i64 i ∧ Hid (Below (w.heap.size + 1 + 1) ((w.alloc (.cells #[.bool false, .slice none 0 0] 65)).alloc (.cells #[.pointer none, .pointer (some ⟨w.heap.size, 0, none⟩)] 23)) wr)) (fun ix _ => 2 - (intOf ix).toNat)
  case atStart => exact ⟨0, by omega, rfl, Lib.hid (Below.refl _ _)⟩
  case round =>
    obtain ⟨i, hi, rfl, HB⟩ := hrel
    by_cases hlt : i < 2
    · obtain ⟨x, hx, hc⟩ := HZ.out i hlt wr HB.out
      have HX := Lib.hid hx
      have i1 : (0 : Int) ≤ (i : Int) := by omega
      have i2 : (i : Int) < 2 := by omega
      clear hx
      go_wp2_with fail
      refine Calls.mono (putE_non _ _ HX.out u v) ?_
      rintro e w' ⟨rfl, rfl⟩
      go_wp2_with fail
      refine Calls.mono (sort_non _ _ HX.out) ?_
      rintro e w' ⟨rfl, rfl⟩
      go_wp2_with fail
      refine Calls.mono (grow_non _ _ HX.out u) ?_
      rintro e w' ⟨rfl, rfl⟩
      go_wp2_with fail
      refine Calls.mono (cutE_non _ _ HX.out u v) ?_
      rintro e w' ⟨rfl, rfl⟩
      go_wp2_with fail
      refine Calls.mono (has_non _ _ HX.out u v) ?_
      rintro e w' ⟨rfl, rfl⟩
      go_wp2_with fail
      refine Calls.mono (reach_non _ _ HX.out u v) ?_
      rintro e w2 ⟨rfl, B2⟩
      have HX2 := Lib.hid (HX.out.below B2)
      have HB2 := Lib.hid (HB.out.trans (B2.mono (by have := HB.out.size; simp at this; omega)))
      clear HX HB B2 hc
      go_wp2_with fail
      refine Calls.mono (copy_non _ _ HX2.out) ?_
      rintro e w' ⟨rfl, rfl⟩
      go_wp2_with fail
      refine Calls.mono (len_non _ _ HX2.out) ?_
      rintro e w' ⟨rfl, rfl⟩
      go_wp2_with fail
      refine Calls.mono (out_non _ _ HX2.out u) ?_
      rintro e w' ⟨rfl, rfl⟩
      go_wp2_with fail
      refine Calls.mono (in_non _ _ HX2.out v) ?_
      rintro e w' ⟨rfl, rfl⟩
      go_wp2_with fail
      refine Calls.mono (edges_non _ _ HX2.out) ?_
      rintro e w' ⟨rfl, rfl⟩
      go_wp2_with fail
      go_roundw
      case rel => exact ⟨i + 1, by omega, by go_num, HB2⟩
      case measure => simp [intOf]; omega
    · obtain rfl : i = 2 := by omega
      have HB3 := Lib.hid (HB0.out.trans (HB.out.mono (by omega)))
      clear HB HZ HB0
      go_wp2_with fail
      refine Calls.mono (awake_any wr) ?_
      rintro e w2 ⟨rfl, B2⟩
      have HB4 := Lib.hid (HB3.out.trans (B2.mono HB3.out.size))
      clear HB3 B2
      go_wp2_with fail
      go_ret
      exact ⟨rfl, HB4.out⟩
end Go.Proofs.Ytclbpohhmaojcaa.GrW
