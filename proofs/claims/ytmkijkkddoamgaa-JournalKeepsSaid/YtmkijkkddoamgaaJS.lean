/-
  Words and walks, one behind the other: BatSame.
-/
import Derived.Test.YtmkijkkddoamgaaJB0
namespace Go.Proofs.Ytmkijkkddoamgaa.BatW
set_option linter.unusedVariables false
open Go.RowKit Go.Proofs Go.Proofs.Ytmkijkkddoamgaa Go.Proofs.Ytmkijkkddoamgaa.Wd Go.Proofs.Ytmkijkkddoamgaa.RecW
open Go.Proofs.Ytmkijkkddoamgaa.Bat (B cnt St)

theorem take_eq_succ' {α : Type} {l m : List α} {k : Nat} (hk : k < l.length) (hm : k < m.length) (h : l.take k = m.take k) : l.take (k + 1) = m.take (k + 1) ↔ l[k] = m[k] := by
  rw [List.take_succ_eq_append_getElem hk, List.take_succ_eq_append_getElem hm, h, List.append_cancel_left_eq]
  simp

set_option maxRecDepth 100000 in
set_option maxHeartbeats 2000000 in
theorem samerows_any (A A' : Option Addr) (c d : Nat) (l m : B) (x y : Nat) (hx : x = l.length) (hy : y = m.length) (hm : x ≤ c) (hmy : y ≤ d) (hxm : c ≤ maxLen) (hym : d ≤ maxLen) (w : World) (hI : BRows w w.heap.size A l) (hJ : BRows w w.heap.size A' m) :
    Calls Try.prog 32 #[.slice A x c, .slice A' y d] w fun e w' => e = .returned (.bool (decide (l = m))) ∧ Below w.heap.size w w' := by
  unfold maxLen at hxm hym
  by_cases hne : x = y
  · subst hne
    have HX := Lib.hid hx
    have HY := Lib.hid hy
    clear hx hy
    go_enter Try.func32, Try.ntmps32
    go_wp2
    go_loopw [13] (fun i wr => ∃ k : Nat, k ≤ x ∧ i = .int .i64 k ∧ RowKit.Hid (l.take k = m.take k) ∧ Below w.heap.size w wr) (fun i _ => x - (intOf i).toNat)
    case atStart => exact ⟨0, Nat.zero_le _, rfl, Lib.hid (by simp), Below.refl _ _⟩
    case round =>
      obtain ⟨k, hk, rfl, hT, hBr⟩ := hrel
      by_cases hlt : k < x
      · have hkl : k < l.length := by have := HX.out; omega
        have hkm : k < m.length := by have := HY.out; omega
        have hBc : ∀ W, Below wr.heap.size wr W → Below w.heap.size w W := fun W h => hBr.trans (h.mono hBr.size)
        obtain ⟨b1, o1, v1, A1, c1, rfl, hb1, p1, rfl, a1, a2, a3⟩ := hI.lt hkl
        obtain ⟨b2, o2, v2, A2, c2, rfl, hb2, p2, rfl, e1, e2, e3⟩ := hJ.lt hkm
        have HB1 : Hid (∀ W, Below wr.heap.size wr W → Bytes W W.heap.size A1 l[k]) := Lib.hid (fun W hW => (Bytes.grow a3 (hBc W hW)))
        have HB2 : Hid (∀ W, Below wr.heap.size wr W → Bytes W W.heap.size A2 m[k]) := Lib.hid (fun W hW => (Bytes.grow e3 (hBc W hW)))
        have HE1 := Lib.hid (show l[k] = m[k] → l.take (k + 1) = m.take (k + 1) from (take_eq_succ' hkl hkm hT.out).2)
        have HE2 := Lib.hid (show l[k] ≠ m[k] → l ≠ m from fun h e => h (by subst e; rfl))
        have HP := Lib.hid (fun W (hW : Below wr.heap.size wr W) => ((hBc W hW).cell (p := ⟨b1, o1 + k, none⟩) hb1).trans p1)
        have HQ := Lib.hid (fun W (hW : Below wr.heap.size wr W) => ((hBc W hW).cell (p := ⟨b2, o2 + k, none⟩) hb2).trans p2)
        have HBC := Lib.hid hBc
        clear p1 p2 a3 e3 hBc
        generalize l[k] = d1 at *
        generalize m[k] = d2 at *
        have hS : Below wr.heap.size wr wr.drew := (Below.refl _ _).drew
        have i1 : (0 : Int) ≤ (k : Int) := by omega
        have i2 : (k : Int) < (x : Int) := by omega
        go_wp2_with fail
        refine wp_region_heldG [] (fun _ W => Below wr.heap.size wr W) (by kernel_rfl) ?_
        change wpAnyG _ _ _ _ _ _ 10 _ _ wr.drew
        -- take0 take1 take2 take3 take4 take5 take6 take7 one8 take9 done
        refine g_take (i := 0) rfl rfl (by kernel_rfl) (by kernel_rfl) (by kernel_rfl) (by kernel_rfl) (by kernel_rfl) (fun _ _ _ h => h) hS (fun L W hL hW => by go_simp; rfl) ?_
        refine g_take (i := 1) rfl rfl (by kernel_rfl) (by kernel_rfl) (by kernel_rfl) (by kernel_rfl) (by kernel_rfl) (fun _ _ _ h => h) hS (fun L W hL hW => by go_simp; rfl) ?_
        refine g_take (i := 2) rfl rfl (by kernel_rfl) (by kernel_rfl) (by kernel_rfl) (by kernel_rfl) (by kernel_rfl) (fun _ _ _ h => h) hS (fun L W hL hW => by go_simp; rfl) ?_
        refine g_take (i := 3) rfl rfl (by kernel_rfl) (by kernel_rfl) (by kernel_rfl) (by kernel_rfl) (by kernel_rfl) (fun _ _ _ h => h) hS (fun L W hL hW => by have q1 := HP.out W hW; have q2 := HQ.out W hW; go_simp; rfl) ?_
        refine g_take (i := 4) rfl rfl (by kernel_rfl) (by kernel_rfl) (by kernel_rfl) (by kernel_rfl) (by kernel_rfl) (fun _ _ _ h => h) hS (fun L W hL hW => by go_simp; rfl) ?_
        refine g_take (i := 5) rfl rfl (by kernel_rfl) (by kernel_rfl) (by kernel_rfl) (by kernel_rfl) (by kernel_rfl) (fun _ _ _ h => h) hS (fun L W hL hW => by go_simp; rfl) ?_
        refine g_take (i := 6) rfl rfl (by kernel_rfl) (by kernel_rfl) (by kernel_rfl) (by kernel_rfl) (by kernel_rfl) (fun _ _ _ h => h) hS (fun L W hL hW => by go_simp; rfl) ?_
        refine g_take (i := 7) rfl rfl (by kernel_rfl) (by kernel_rfl) (by kernel_rfl) (by kernel_rfl) (by kernel_rfl) (fun _ _ _ h => h) hS (fun L W hL hW => by have q1 := HP.out W hW; have q2 := HQ.out W hW; go_simp; rfl) ?_
        refine g_one (i := 8) rfl rfl (by kernel_rfl) fun K hK => ?_
        go_simp
        refine Calls.mono (same_any A1 A2 c1 c2 d1 d2 _ _ rfl rfl _ (HB1.out _ hS) (HB2.out _ hS)) ?_
        rintro e w3 ⟨rfl, rfl⟩
        have hS3 : Below wr.heap.size wr wr.drew := hS
        refine hK _ _ hS3 ?_
        clear hK K
        refine g_take (i := 9) rfl rfl (by kernel_rfl) (by kernel_rfl) (by kernel_rfl) (by kernel_rfl) (by kernel_rfl) (fun _ _ _ h => h) hS3 (fun L W hL hW => by go_simp; rfl) ?_
        refine wpAnyG_done (by kernel_rfl) ?_ _
        have HB := Lib.hid (HBC.out _ hS3)
        go_simp
        cases hdd : (d1 == d2)
        · have hN := Lib.hid (HE2.out (by simpa using hdd))
          clear HP HQ HB1 HB2 HE1 HE2 hS hS3 hb1 hb2
          go_wp2
          go_ret
          exact ⟨by rw [decide_eq_false hN.out]; rfl, HB.out⟩
        · have hN := Lib.hid (HE1.out (by simpa using hdd))
          clear HP HQ HB1 HB2 HE1 HE2 hS hS3 hb1 hb2
          go_wp2
          go_roundw
          case rel => exact ⟨k + 1, by omega, by go_num, hN, HB.out⟩
          case measure => simp [intOf]; omega
      · obtain rfl : k = x := by omega
        have hN : Hid (l = m) := Lib.hid (by have := hT.out; rwa [List.take_of_length_le (by have := HX.out; omega), List.take_of_length_le (by have := HY.out; omega)] at this)
        clear hT
        go_wp2
        go_ret
        exact ⟨by rw [decide_eq_true hN.out]; rfl, hBr⟩
  · have hn : ((x : Int) != (y : Int)) = true := by rw [bne_iff_ne]; omega
    have hN : Hid (l ≠ m) := Lib.hid (fun h => hne (by rw [hx, hy, h]))
    go_enter Try.func32, Try.ntmps32
    go_wp2
    go_ret
    exact ⟨by rw [decide_eq_false hN.out]; rfl, Below.refl _ _⟩

set_option maxRecDepth 100000 in
set_option maxHeartbeats 2000000 in
theorem samebatches_any (A A' : Option Addr) (c d : Nat) (l m : List B) (x y : Nat) (hx : x = l.length) (hy : y = m.length) (hm : x ≤ c) (hmy : y ≤ d) (hxm : c ≤ maxLen) (hym : d ≤ maxLen) (w : World) (hI : BRows3 w w.heap.size A l) (hJ : BRows3 w w.heap.size A' m) :
    Calls Try.prog 17 #[.slice A x c, .slice A' y d] w fun e w' => e = .returned (.bool (decide (l = m))) ∧ Below w.heap.size w w' := by
  unfold maxLen at hxm hym
  by_cases hne : x = y
  · subst hne
    have HX := Lib.hid hx
    have HY := Lib.hid hy
    clear hx hy
    go_enter Try.func17, Try.ntmps17
    go_wp2
    go_loopw [13] (fun i wr => ∃ k : Nat, k ≤ x ∧ i = .int .i64 k ∧ RowKit.Hid (l.take k = m.take k) ∧ Below w.heap.size w wr) (fun i _ => x - (intOf i).toNat)
    case atStart => exact ⟨0, Nat.zero_le _, rfl, Lib.hid (by simp), Below.refl _ _⟩
    case round =>
      obtain ⟨k, hk, rfl, hT, hBr⟩ := hrel
      by_cases hlt : k < x
      · have hkl : k < l.length := by have := HX.out; omega
        have hkm : k < m.length := by have := HY.out; omega
        have hBc : ∀ W, Below wr.heap.size wr W → Below w.heap.size w W := fun W h => hBr.trans (h.mono hBr.size)
        obtain ⟨b1, o1, v1, rfl, hb1, p1, A1, c1, rfl, a1, a2, a3⟩ := hI k hkl
        obtain ⟨b2, o2, v2, rfl, hb2, p2, A2, c2, rfl, e1, e2, e3⟩ := hJ k hkm
        have HB1 : Hid (∀ W, Below wr.heap.size wr W → BRows W W.heap.size A1 l[k]) := Lib.hid (fun W hW => (BRows.grow a3 (hBc W hW)))
        have HB2 : Hid (∀ W, Below wr.heap.size wr W → BRows W W.heap.size A2 m[k]) := Lib.hid (fun W hW => (BRows.grow e3 (hBc W hW)))
        have HE1 := Lib.hid (show l[k] = m[k] → l.take (k + 1) = m.take (k + 1) from (take_eq_succ' hkl hkm hT.out).2)
        have HE2 := Lib.hid (show l[k] ≠ m[k] → l ≠ m from fun h e => h (by subst e; rfl))
        have HP := Lib.hid (fun W (hW : Below wr.heap.size wr W) => ((hBc W hW).cell (p := ⟨b1, o1 + k, none⟩) hb1).trans p1)
        have HQ := Lib.hid (fun W (hW : Below wr.heap.size wr W) => ((hBc W hW).cell (p := ⟨b2, o2 + k, none⟩) hb2).trans p2)
        have HBC := Lib.hid hBc
        clear p1 p2 a3 e3 hBc
        generalize l[k] = d1 at *
        generalize m[k] = d2 at *
        have hS : Below wr.heap.size wr wr.drew := (Below.refl _ _).drew
        have i1 : (0 : Int) ≤ (k : Int) := by omega
        have i2 : (k : Int) < (x : Int) := by omega
        go_wp2_with fail
        refine wp_region_heldG [] (fun _ W => Below wr.heap.size wr W) (by kernel_rfl) ?_
        change wpAnyG _ _ _ _ _ _ 10 _ _ wr.drew
        -- take0 take1 take2 take3 take4 take5 take6 take7 one8 take9 done
        refine g_take (i := 0) rfl rfl (by kernel_rfl) (by kernel_rfl) (by kernel_rfl) (by kernel_rfl) (by kernel_rfl) (fun _ _ _ h => h) hS (fun L W hL hW => by go_simp; rfl) ?_
        refine g_take (i := 1) rfl rfl (by kernel_rfl) (by kernel_rfl) (by kernel_rfl) (by kernel_rfl) (by kernel_rfl) (fun _ _ _ h => h) hS (fun L W hL hW => by go_simp; rfl) ?_
        refine g_take (i := 2) rfl rfl (by kernel_rfl) (by kernel_rfl) (by kernel_rfl) (by kernel_rfl) (by kernel_rfl) (fun _ _ _ h => h) hS (fun L W hL hW => by go_simp; rfl) ?_
        refine g_take (i := 3) rfl rfl (by kernel_rfl) (by kernel_rfl) (by kernel_rfl) (by kernel_rfl) (by kernel_rfl) (fun _ _ _ h => h) hS (fun L W hL hW => by have q1 := HP.out W hW; have q2 := HQ.out W hW; go_simp; rfl) ?_
        refine g_take (i := 4) rfl rfl (by kernel_rfl) (by kernel_rfl) (by kernel_rfl) (by kernel_rfl) (by kernel_rfl) (fun _ _ _ h => h) hS (fun L W hL hW => by go_simp; rfl) ?_
        refine g_take (i := 5) rfl rfl (by kernel_rfl) (by kernel_rfl) (by kernel_rfl) (by kernel_rfl) (by kernel_rfl) (fun _ _ _ h => h) hS (fun L W hL hW => by go_simp; rfl) ?_
        refine g_take (i := 6) rfl rfl (by kernel_rfl) (by kernel_rfl) (by kernel_rfl) (by kernel_rfl) (by kernel_rfl) (fun _ _ _ h => h) hS (fun L W hL hW => by go_simp; rfl) ?_
        refine g_take (i := 7) rfl rfl (by kernel_rfl) (by kernel_rfl) (by kernel_rfl) (by kernel_rfl) (by kernel_rfl) (fun _ _ _ h => h) hS (fun L W hL hW => by have q1 := HP.out W hW; have q2 := HQ.out W hW; go_simp; rfl) ?_
        refine g_one (i := 8) rfl rfl (by kernel_rfl) fun K hK => ?_
        go_simp
        refine Calls.mono (samerows_any A1 A2 c1 c2 d1 d2 _ _ rfl rfl a1 e1 a2 e2 _ (HB1.out _ hS) (HB2.out _ hS)) ?_
        rintro e w3 ⟨rfl, hb3⟩
        have hS3 : Below wr.heap.size wr w3 := hS.trans (hb3.mono hS.size)
        refine hK _ _ hS3 ?_
        clear hK K
        refine g_take (i := 9) rfl rfl (by kernel_rfl) (by kernel_rfl) (by kernel_rfl) (by kernel_rfl) (by kernel_rfl) (fun _ _ _ h => h) hS3 (fun L W hL hW => by go_simp; rfl) ?_
        refine wpAnyG_done (by kernel_rfl) ?_ _
        have HB := Lib.hid (HBC.out _ hS3)
        go_simp
        cases hdd : decide (d1 = d2)
        · have hN := Lib.hid (HE2.out (by simpa using hdd))
          clear HP HQ HB1 HB2 HE1 HE2 hS hS3 hb1 hb2 hb3
          go_wp2
          go_ret
          exact ⟨by rw [decide_eq_false hN.out]; rfl, HB.out⟩
        · have hN := Lib.hid (HE1.out (by simpa using hdd))
          clear HP HQ HB1 HB2 HE1 HE2 hS hS3 hb1 hb2 hb3
          go_wp2
          go_roundw
          case rel => exact ⟨k + 1, by omega, by go_num, hN, HB.out⟩
          case measure => simp [intOf]; omega
      · obtain rfl : k = x := by omega
        have hN : Hid (l = m) := Lib.hid (by have := hT.out; rwa [List.take_of_length_le (by have := HX.out; omega), List.take_of_length_le (by have := HY.out; omega)] at this)
        clear hT
        go_wp2
        go_ret
        exact ⟨by rw [decide_eq_true hN.out]; rfl, hBr⟩
  · have hn : ((x : Int) != (y : Int)) = true := by rw [bne_iff_ne]; omega
    have hN : Hid (l ≠ m) := Lib.hid (fun h => hne (by rw [hx, hy, h]))
    go_enter Try.func17, Try.ntmps17
    go_wp2
    go_ret
    exact ⟨by rw [decide_eq_false hN.out]; rfl, Below.refl _ _⟩
end Go.Proofs.Ytmkijkkddoamgaa.BatW
