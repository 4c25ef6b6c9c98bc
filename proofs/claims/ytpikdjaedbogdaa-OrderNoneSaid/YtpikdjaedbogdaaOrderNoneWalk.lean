/-
  The walk of OrderNone.
-/
import Derived.Test.YtpikdjaedbogdaaOrderAwake
namespace Go.Proofs.Ytpikdjaedbogdaa.OrW
set_option linter.unusedVariables false
open Go Go.RowKit Go.Proofs Go.Proofs.Ytpikdjaedbogdaa Go.Proofs.Ytpikdjaedbogdaa.Wd Go.Proofs.Ytpikdjaedbogdaa.GrW

set_option maxRecDepth 100000 in
set_option maxHeartbeats 4000000 in
theorem none_walk (w : World) (u v : Int) : Calls Try.prog 7 #[.int .i64 u, .int .i64 v] w fun e w' => e = .returned (.bool true) ∧ Below w.heap.size w w' := by
  have HZ : Hid (∀ i : Nat, i < 2 → ∀ wr, Below (w.heap.size + 1 + 1) ((w.alloc (.cells #[.pointer none, .slice none 0 0, .slice none 0 0] 71)).alloc (.cells #[.pointer none, .pointer (some ⟨w.heap.size, 0, none⟩)] 23)) wr → ∃ x, NonO wr x ∧ wr.cell? ⟨w.heap.size + 1, i, none⟩ = some x) := Lib.hid (fun i hi wr hb => by
    have b1 := (Blk.new_ w 71 #[.pointer none, .slice none 0 0, .slice none 0 0] rfl).alloc (.cells #[.pointer none, .pointer (some ⟨w.heap.size, 0, none⟩)] 23)
    have b2 := Blk.new_ (w.alloc (.cells #[.pointer none, .slice none 0 0, .slice none 0 0] 71)) 23 #[.pointer none, .pointer (some ⟨w.heap.size, 0, none⟩)] (n := w.heap.size + 1) (by simp)
    have c1 := b1.below hb (by omega)
    have c2 := b2.below hb (by omega)
    have : i = 0 ∨ i = 1 := by omega
    rcases this with rfl | rfl
    · exact ⟨.pointer none, .inl rfl, c2.at_ 0 rfl⟩
    · exact ⟨_, .inr ⟨w.heap.size, rfl, c1.at_ 0 rfl⟩, c2.at_ 1 rfl⟩)
  have HB0 : Hid (Below w.heap.size w ((w.alloc (.cells #[.pointer none, .slice none 0 0, .slice none 0 0] 71)).alloc (.cells #[.pointer none, .pointer (some ⟨w.heap.size, 0, none⟩)] 23))) := Lib.hid (((Below.refl _ w).alloc (Nat.le_refl _) _).alloc (by simp) _)
  go_enter Try.func7, Try.ntmps7
  go_wp2_with fail
  go_loopw [17] (fun ix wr => ∃ i : Nat, i ≤ 2 ∧ ix = .int .i64 i ∧ Hid (Below (w.heap.size + 1 + 1) ((w.alloc (.cells #[.pointer none, .slice none 0 0, .slice none 0 0] 71)).alloc (.cells #[.pointer none, .pointer (some ⟨w.heap.size, 0, none⟩)] 23)) wr)) (fun ix _ => 2 - (intOf ix).toNat)
  case atStart => exact ⟨0, by omega, rfl, Lib.hid (Below.refl _ _)⟩
  case round =>
    obtain ⟨i, hi, rfl, HB⟩ := hrel
    by_cases hlt : i < 2
    · obtain ⟨x, hx, hc⟩ := HZ.out i hlt wr HB.out
      have HX := Lib.hid hx
      have i1 : (0 : Int) ≤ (i : Int) := by omega
      have i2 : (i : Int) < 2 := by omega
      clear hx
      go_wp2_with fail
      refine Calls.mono (put_nono _ _ HX.out u v) ?_
      rintro e w' ⟨rfl, rfl⟩
      go_wp2_with fail
      refine Calls.mono (place_nono _ _ HX.out u) ?_
      rintro e w' ⟨rfl, rfl⟩
      go_wp2_with fail
      refine Calls.mono (at_nono _ _ HX.out v) ?_
      rintro e w' ⟨rfl, rfl⟩
      go_wp2_with fail
      refine Calls.mono (len_nono _ _ HX.out) ?_
      rintro e w' ⟨rfl, rfl⟩
      go_wp2_with fail
      refine Calls.mono (list_nono _ _ HX.out) ?_
      rintro e w' ⟨rfl, rfl⟩
      go_wp2_with fail
      refine Calls.mono (edges_nono _ _ HX.out) ?_
      rintro e w' ⟨rfl, rfl⟩
      go_wp2_with fail
      refine Calls.mono (grow_nono _ _ HX.out u) ?_
      rintro e w' ⟨rfl, rfl⟩
      go_wp2_with fail
      refine Calls.mono (has_nono _ _ HX.out u v) ?_
      rintro e w' ⟨rfl, rfl⟩
      go_wp2_with fail
      refine Calls.mono (copy_nono _ _ HX.out) ?_
      rintro e w' ⟨rfl, rfl⟩
      go_wp2_with fail
      go_roundw
      case rel => exact ⟨i + 1, by omega, by go_num, HB⟩
      case measure => simp [intOf]; omega
    · obtain rfl : i = 2 := by omega
      have HB3 := Lib.hid (HB0.out.trans (HB.out.mono (by omega)))
      clear HB HZ HB0
      go_wp2_with fail
      refine Calls.mono (awakeO_any wr) ?_
      rintro e w2 ⟨rfl, B2⟩
      have HB4 := Lib.hid (HB3.out.trans (B2.mono HB3.out.size))
      clear HB3 B2
      go_wp2_with fail
      go_ret
      exact ⟨rfl, HB4.out⟩
end Go.Proofs.Ytpikdjaedbogdaa.OrW
