/-
  The walk of BundleNone.
-/
import Derived.Test.YtelplccbcbegkaaBundleAwake
namespace Go.Proofs.Ytelplccbcbegkaa.Ord
set_option linter.unusedVariables false
open Go.Proofs.Ytelplccbcbegkaa.Gr (E Path Inside OK outs intos Cyc putL edgesTo)
open Go.Proofs.Ytelplccbcbegkaa.GrW (isV growL canGrow)
def K5 : List (List Int) := [[1], [], [3], [0], [], [], [4], [1], [], [3]]
theorem K5_ok : OK 5 K5 := (((OK.empty 5).put (k := 0) (m := 1) (by decide) (by decide) (by decide)).put (k := 1) (m := 3) (by decide) (by decide) (by decide)).put (k := 3) (m := 4) (by decide) (by decide) (by decide)
theorem K5_st : OSt 5 K5 [0, 1, 2, 3, 4] [0, 1, 2, 3, 4] := ⟨K5_ok, ⟨rfl, rfl, by decide, by decide⟩, fun x y he => by
  obtain ⟨hx, hy⟩ := K5_ok.edge_lt he
  have key : ∀ x, x < 5 → ∀ y, y < 5 → ((y : Nat) : Int) ∈ K5.getD (2 * x) [] → [0, 1, 2, 3, 4].getD x 0 < [0, 1, 2, 3, 4].getD y 0 := by decide
  exact key x hx y hy he⟩
theorem bund3_fits {k : Nat} (h : FitsC 3 (List.replicate 6 []) [0, 1, 2] [0, 1, 2] 1 [(0, 1), (1, 3), (3, 4)] k) : k = 2 := by
  unfold FitsC at h
  rw [if_pos (by decide)] at h
  obtain ⟨i, L', P', A', h⟩ := h
  have hs : OSt 4 (List.replicate (2 * 4) []) (List.range 4) (List.range 4) := OSt.start 4
  have h : Went 4 (List.replicate (2 * 4) []) (List.range 4) (List.range 4) [(0, 1), (1, 3), (3, 4)] i k L' P' A' := h
  have h1 := h.fits hs K5_st (fun x y he => absurd he (empty_edge 4 x y)) (fun x y he => by
    simp at he
    rcases he with ⟨e1, e2⟩ | ⟨e1, e2⟩ | ⟨e1, e2⟩
    · obtain rfl : x = 0 := by omega
      obtain rfl : y = 1 := by omega
      show (1 : Int) ∈ _; decide
    · obtain rfl : x = 1 := by omega
      obtain rfl : y = 3 := by omega
      show (3 : Int) ∈ _; decide
    · obtain rfl : x = 3 := by omega
      obtain rfl : y = 4 := by omega
      show (4 : Int) ∈ _; decide)
  have h2 : k ≠ 0 := fun e => by
    subst e
    obtain ⟨-, hr⟩ := h.all
    obtain ⟨a, b, ha, hb, -, e⟩ := hr.each (3, 4) (by simp)
    simp at e
    omega
  have := h.code
  omega
theorem fits_arg {n : Nat} {L : List (List Int)} {P A : List Nat} {more : Int} {es : List (Int × Int)} {k : Nat} (h : FitsC n L P A more es k) (hc : canGrow n more = false) : k = 2 := by
  unfold FitsC at h
  rw [if_neg (by rw [hc]; simp)] at h
  exact h
end Go.Proofs.Ytelplccbcbegkaa.Ord
namespace Go.Proofs.Ytelplccbcbegkaa.OrW
set_option linter.unusedVariables false
open Go Go.RowKit Go.Proofs Go.Proofs.Ytelplccbcbegkaa Go.Proofs.Ytelplccbcbegkaa.Wd Go.Proofs.Ytelplccbcbegkaa.GrW Go.Proofs.Ytelplccbcbegkaa.Ord
open Go.Proofs.Ytelplccbcbegkaa.Gr (OK putL outs intos Path edgesTo ev)

theorem fits_nono (w : World) (v : Value) (h : NonO w v) (more : Int) (s : Value) : Calls Try.prog 12 #[v, .int .i64 more, s] w fun e w' => e = .returned (.int .i64 1) ∧ w = w' := by
  have HC := Lib.hid (copy_nono w v h)
  clear h
  go_enter Try.func12, Try.ntmps12
  go_wp2_with fail
  refine Calls.mono HC.out ?_
  rintro e w' ⟨rfl, rfl⟩
  go_wp2_with fail
  go_ret
  exact ⟨rfl, rfl⟩
theorem bput_nono (w : World) (v : Value) (h : NonO w v) (more : Int) (s : Value) : Calls Try.prog 19 #[v, .int .i64 more, s] w fun e w' => e = .returned (.tuple #[.int .i64 0, .int .i64 1]) ∧ w = w' := by
  have HC := Lib.hid (fits_nono w v h more s)
  clear h
  go_enter Try.func19, Try.ntmps19
  go_wp2_with fail
  refine Calls.mono HC.out ?_
  rintro e w' ⟨rfl, rfl⟩
  go_wp2_with fail
  go_ret2
  exact ⟨rfl, rfl⟩
theorem cycle_nono (w : World) (v : Value) (h : NonO w v) (more : Int) (s : Value) : Calls Try.prog 11 #[v, .int .i64 more, s] w fun e w' => e = .returned (.slice none 0 0) ∧ w = w' := by
  have HC := Lib.hid (fits_nono w v h more s)
  clear h
  go_enter Try.func11, Try.ntmps11
  go_wp2_with fail
  refine Calls.mono HC.out ?_
  rintro e w' ⟨rfl, rfl⟩
  go_wp2_with fail
  go_ret
  exact ⟨rfl, rfl⟩
theorem bput_arg {w : World} {B o : Nat} {n : Nat} {L : List (List Int)} {P A : List Nat} (h : OS w B o n L P A) (hn : n ≤ 10000) (more : Int) (hc : canGrow n more = false) :
    Calls Try.prog 19 #[.pointer (some ⟨o, 0, none⟩), .int .i64 more, .slice none 0 0] w fun e w' => e = .returned (.tuple #[.int .i64 0, .int .i64 2]) ∧ Below w.heap.size w w' := by
  refine (bput_any w B o n _ _ _ _ h.at_ h.st hn more h.st.hok none 0 0 [] rfl (by decide) (fun j hj => by simp at hj) (fun b off e => by cases e) (fun b off e => by cases e)).mono ?_
  rintro e w' ⟨k, hf, h⟩
  have hk := fits_arg hf hc
  subst hk
  rcases h with ⟨-, h1, h2⟩ | ⟨h, -⟩
  · exact ⟨h1, h2⟩
  · cases h
theorem edges_three {w : World} {b B : Nat} {x1 x2 x3 x4 x5 x6 : Int} (h : Blk w b 34 #[.int .i64 x1, .int .i64 x2, .int .i64 x3, .int .i64 x4, .int .i64 x5, .int .i64 x6]) (hB : b < B) : EdgesAt w B (some ⟨b, 0, none⟩) [(x1, x2), (x3, x4), (x5, x6)] := fun j hj => by
  refine ⟨b, 0, rfl, hB, ?_, ?_⟩
  · have : j = 0 ∨ j = 1 ∨ j = 2 := by simp at hj; omega
    rcases this with rfl | rfl | rfl
    · exact h.at_ 0 rfl
    · exact h.at_ 2 rfl
    · exact h.at_ 4 rfl
  · have : j = 0 ∨ j = 1 ∨ j = 2 := by simp at hj; omega
    rcases this with rfl | rfl | rfl
    · exact h.at_ 1 rfl
    · exact h.at_ 3 rfl
    · exact h.at_ 5 rfl
theorem bput3 {w : World} {B o : Nat} (h : OS w B o 3 (List.replicate (2 * 3) []) (List.range 3) (List.range 3)) {w2 : World} (hw : w2 = w.alloc (.cells #[.int .i64 0, .int .i64 1, .int .i64 1, .int .i64 3, .int .i64 3, .int .i64 4] 34)) :
    Calls Try.prog 19 #[.pointer (some ⟨o, 0, none⟩), .int .i64 1, .slice (some ⟨w.heap.size, 0, none⟩) 3 3] w2 fun e w' => e = .returned (.tuple #[.int .i64 0, .int .i64 2]) ∧ Below w2.heap.size w2 w' := by
  have hb := (Below.refl w.heap.size w).alloc (Nat.le_refl _) (.cells #[.int .i64 0, .int .i64 1, .int .i64 1, .int .i64 3, .int .i64 3, .int .i64 4] 34)
  rw [← hw] at hb
  have h2' : OAt w2 B (fun j => B ≤ j ∧ j < w.heap.size) o 3 (List.replicate (2 * 3) []) (List.range 3) (List.range 3) := h.at_.exist.below hb
  have hblk : Blk w2 w.heap.size 34 #[.int .i64 0, .int .i64 1, .int .i64 1, .int .i64 3, .int .i64 3, .int .i64 4] := by rw [hw]; exact Blk.new_ w _ _ rfl
  refine (bput_any w2 B o 3 _ _ _ _ h2' h.st (by decide) 1 h.st.hok (some ⟨w.heap.size, 0, none⟩) 3 3 [(0, 1), (1, 3), (3, 4)] rfl (by decide) (edges_three hblk hblk.lt) (fun b off e => by cases e; exact hblk.lt) (fun b off e e2 => by cases e; omega)).mono ?_
  rintro e w' ⟨k, hf, hc⟩
  have hk := bund3_fits hf
  subst hk
  rcases hc with ⟨-, h1, h2⟩ | ⟨hk, -⟩
  · exact ⟨h1, h2⟩
  · cases hk
set_option maxRecDepth 100000 in
set_option maxHeartbeats 4000000 in
theorem none_walk (more : Int) (A : Option Addr) (n c : Nat) (hnc : n ≤ c) (hcm : c ≤ maxLen) (w : World) : Calls Try.prog 8 #[.int .i64 more, .slice A n c] w fun e w' => e = .returned (.bool true) ∧ Below w.heap.size w w' := by
  unfold maxLen at hcm
  have HZ : Hid (∀ i : Nat, i < 2 → ∀ wr, Below (w.heap.size + 1 + 1) ((w.alloc (.cells #[.pointer none, .slice none 0 0, .slice none 0 0] 70)).alloc (.cells #[.pointer none, .pointer (some ⟨w.heap.size, 0, none⟩)] 23)) wr → ∃ x, NonO wr x ∧ wr.cell? ⟨w.heap.size + 1, i, none⟩ = some x) := Lib.hid (fun i hi wr hb => by
    have b1 := (Blk.new_ w 70 #[.pointer none, .slice none 0 0, .slice none 0 0] rfl).alloc (.cells #[.pointer none, .pointer (some ⟨w.heap.size, 0, none⟩)] 23)
    have b2 := Blk.new_ (w.alloc (.cells #[.pointer none, .slice none 0 0, .slice none 0 0] 70)) 23 #[.pointer none, .pointer (some ⟨w.heap.size, 0, none⟩)] (n := w.heap.size + 1) (by simp)
    have c1 := b1.below hb (by omega)
    have c2 := b2.below hb (by omega)
    have : i = 0 ∨ i = 1 := by omega
    rcases this with rfl | rfl
    · exact ⟨.pointer none, .inl rfl, c2.at_ 0 rfl⟩
    · exact ⟨_, .inr ⟨w.heap.size, rfl, c1.at_ 0 rfl⟩, c2.at_ 1 rfl⟩)
  have HB0 : Hid (Below w.heap.size w ((w.alloc (.cells #[.pointer none, .slice none 0 0, .slice none 0 0] 70)).alloc (.cells #[.pointer none, .pointer (some ⟨w.heap.size, 0, none⟩)] 23))) := Lib.hid (((Below.refl _ w).alloc (Nat.le_refl _) _).alloc (by simp) _)
  go_enter Try.func8, Try.ntmps8
  go_upto_region 1 with fail
  go_cut [1] (fun v1 wx => ∃ (A1 : Option Addr) (n1 c1 : Nat), v1 = .slice A1 n1 c1 ∧ wx = w)
  case first =>
    go_wp2_with fail
    all_goals
      go_meet
      exact ⟨_, _, _, rfl, rfl⟩
  case rest =>
  obtain ⟨A1, n1, c1, rfl, hwc⟩ := hcut
  have hwc := hwc.symm
  subst hwc
  go_wp2_with fail
  go_loopw [26] (fun ix wr => ∃ i : Nat, i ≤ 2 ∧ ix = .int .i64 i ∧ Hid (Below (w.heap.size + 1 + 1) ((w.alloc (.cells #[.pointer none, .slice none 0 0, .slice none 0 0] 70)).alloc (.cells #[.pointer none, .pointer (some ⟨w.heap.size, 0, none⟩)] 23)) wr)) (fun ix _ => 2 - (intOf ix).toNat)
  case atStart => exact ⟨0, by omega, rfl, Lib.hid (Below.refl _ _)⟩
  case round =>
    obtain ⟨i, hi, rfl, HB⟩ := hrel
    by_cases hlt : i < 2
    · obtain ⟨x, hx, hc⟩ := HZ.out i hlt wr HB.out
      have HX := Lib.hid hx
      have i1 : (0 : Int) ≤ (i : Int) := by omega
      have i2 : (i : Int) < 2 := by omega
      clear hx
      go_wp2_with fail
      refine Calls.mono (bput_nono _ _ HX.out more _) ?_
      rintro e w' ⟨rfl, rfl⟩
      go_wp2_with fail
      refine Calls.mono (fits_nono _ _ HX.out more _) ?_
      rintro e w' ⟨rfl, rfl⟩
      go_wp2_with fail
      refine Calls.mono (cycle_nono _ _ HX.out more _) ?_
      rintro e w' ⟨rfl, rfl⟩
      go_wp2_with fail
      go_roundw
      case rel => exact ⟨i + 1, by omega, by go_num, HB⟩
      case measure => simp [intOf]; omega
    · obtain rfl : i = 2 := by omega
      have HB3 := Lib.hid (HB0.out.trans (HB.out.mono (by omega)))
      clear HB HZ HB0
      go_wp2_with fail
      refine Calls.mono (newO_any 3 wr) ?_
      intro e w1 h1
      obtain ⟨o, rfl, G1, B1⟩ := OS.new_ (n := 3) h1 (by decide)
      have HG1 := Lib.hid G1
      have HB1 := Lib.hid (HB3.out.trans (B1.mono HB3.out.size))
      clear HB3 G1 B1 h1
      go_wp2_with fail
      refine Calls.mono (bput_arg HG1.out (by decide) (-1) (by decide)) ?_
      rintro e w2 ⟨rfl, B2⟩
      have HG2 := Lib.hid (HG1.out.below B2)
      have HB2 := Lib.hid (HB1.out.trans (B2.mono HB1.out.size))
      clear HG1 HB1 B2
      go_wp2_with fail
      refine Calls.mono (bput_arg HG2.out (by decide) 9998 (by decide)) ?_
      rintro e w3 ⟨rfl, B3⟩
      have HG3 := Lib.hid (HG2.out.below B3)
      have HB3 := Lib.hid (HB2.out.trans (B3.mono HB2.out.size))
      clear HG2 HB2 B3
      go_wp2_with fail
      have HA3 := Lib.hid ((Below.refl w3.heap.size w3).alloc (Nat.le_refl _) (.cells #[.int .i64 0, .int .i64 1, .int .i64 1, .int .i64 3, .int .i64 3, .int .i64 4] 34))
      refine Calls.mono (bput3 HG3.out rfl) ?_
      rintro e w4 ⟨rfl, B4⟩
      have HG4 := Lib.hid ((HG3.out.below HA3.out).below B4)
      have HB4 := Lib.hid ((HB3.out.trans (HA3.out.mono HB3.out.size)).trans (B4.mono (by have := HB3.out.size; have := HA3.out.size; omega)))
      clear HG3 HB3 HA3 B4
      go_wp2_with fail
      refine Calls.mono (len_o HG4.out.at_) ?_
      rintro e w' ⟨rfl, rfl⟩
      go_wp2_with fail
      refine Calls.mono (edges_o HG4.out.at_ HG4.out.ok (by decide)) ?_
      rintro e w6 ⟨A6, c6, rfl, B6, -⟩
      have HB6 := Lib.hid (HB4.out.trans (B6.mono HB4.out.size))
      clear HG4 HB4 B6
      rw [show (edgesTo (List.replicate (2 * 3) []) 3).length = 0 by decide]
      go_wp2_with fail
      refine Calls.mono (awakeB_any w6) ?_
      rintro e w2 ⟨rfl, B2⟩
      have HB9 := Lib.hid (HB6.out.trans (B2.mono HB6.out.size))
      clear HB6 B2
      go_wp2_with fail
      go_ret
      exact ⟨rfl, HB9.out⟩
end Go.Proofs.Ytelplccbcbegkaa.OrW
