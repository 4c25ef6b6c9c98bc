/-
  The walk of awake: the chapter's own examples.
-/
import Derived.Test.YtelplccbcbegkaaBundleJoin
namespace Go.Proofs.Ytelplccbcbegkaa.Ord
set_option linter.unusedVariables false
open Go.Proofs.Ytelplccbcbegkaa.Gr (E Path Inside OK outs intos Cyc putL edgesTo)
open Go.Proofs.Ytelplccbcbegkaa.GrW (isV growL canGrow)

theorem Ran.inv {n : Nat} {L L2 : List (List Int)} {P A P2 A2 : List Nat} {es es' : List (Int × Int)} {x : Int × Int} (h : Ran n L P A es' L2 P2 A2) (he : es' = es ++ [x]) : ∃ L1 P1 A1 c, Ran n L P A es L1 P1 A1 ∧ PutI n L1 P1 A1 x c 0 L2 P2 A2 := by
  cases h with
  | nil => simp at he
  | snoc h1 h2 =>
    obtain ⟨e1, e2⟩ := List.append_inj' he rfl
    simp only [List.cons.injEq, and_true] at e2
    subst e1 e2
    exact ⟨_, _, _, _, h1, h2⟩
theorem Ran.nil_inv {n : Nat} {L L2 : List (List Int)} {P A P2 A2 : List Nat} {es : List (Int × Int)} (h : Ran n L P A es L2 P2 A2) (he : es = []) : L = L2 ∧ P = P2 ∧ A = A2 := by
  cases h with
  | nil => exact ⟨rfl, rfl, rfl⟩
  | snoc h1 h2 => simp at he
theorem PutI.nat {n : Nat} {L L' : List (List Int)} {P A P' A' : List Nat} {a b c k : Nat} (h : PutI n L P A ((a : Int), (b : Int)) c k L' P' A') (ha : a < n) (hb : b < n) : Put1 n L P A a b c k L' P' A' := by
  rcases h with ⟨h, -⟩ | ⟨a', b', -, -, e, h⟩
  · have e1 : isV n ((a : Nat) : Int) = true := by unfold isV; simp; omega
    have e2 : isV n ((b : Nat) : Int) = true := by unfold isV; simp; omega
    simp [e1, e2] at h
  · have e1 : (a : Int) = (a' : Int) := congrArg Prod.fst e
    have e2 : (b : Int) = (b' : Int) := congrArg Prod.snd e
    obtain rfl : a = a' := by omega
    obtain rfl : b = b' := by omega
    exact h
theorem Put1.done {n : Nat} {L L' : List (List Int)} {P A P' A' : List Nat} {a b c : Nat} (h : Put1 n L P A a b c 0 L' P' A') : L' = putL L a b ∧ Step n L P A a b P' A' := by
  rcases h with ⟨h, -⟩ | ⟨-, -, -, -, h1, h2⟩
  · cases h
  · exact ⟨h1, h2⟩
def K0 : List (List Int) := [[], [], [], [], [], []]
def K1 : List (List Int) := [[], [2], [], [], [0], []]
def K2 : List (List Int) := [[1], [2], [], [0], [0], []]
theorem stepA : ∀ P2 A2, Step 3 K0 [0, 1, 2] [0, 1, 2] 2 0 P2 A2 → P2 = [2, 1, 0] ∧ A2 = [2, 1, 0] := fun P2 A2 h =>
  h.known (by decide) (back := [2]) (fore := [0]) (pl := [0, 2]) (IsPart.of [2] [2] (by decide) (fun y hy => by
    have : y = 2 := by simpa using hy
    subst this; exact .refl _) (by decide) (by decide) (by decide)) (IsPart.of [0] [0] (by decide) (fun y hy => by
    have : y = 0 := by simpa using hy
    subst this; exact .refl _) (by decide) (by decide) (by decide)) (by decide) (by decide)
theorem stepB : ∀ P2 A2, Step 3 K1 [2, 1, 0] [2, 1, 0] 0 1 P2 A2 → P2 = [1, 2, 0] ∧ A2 = [2, 0, 1] := fun P2 A2 h =>
  h.known (by decide) (back := [2]) (fore := [1]) (pl := [1, 2]) (IsPart.of [0] [2] (by decide) (fun y hy => by
    have : y = 0 := by simpa using hy
    subst this; exact .refl _) (by decide) (by decide) (by decide)) (IsPart.of [1] [1] (by decide) (fun y hy => by
    have : y = 1 := by simpa using hy
    subst this; exact .refl _) (by decide) (by decide) (by decide)) (by decide) (by decide)
theorem K2_ok : OK 3 K2 := ((OK.empty 3).put (k := 2) (m := 0) (by decide) (by decide) (by decide)).put (k := 0) (m := 1) (by decide) (by decide) (by decide)
theorem K2_st : OSt 3 K2 [1, 2, 0] [2, 0, 1] := ⟨K2_ok, ⟨rfl, rfl, by decide, by decide⟩, fun x y he => by
  obtain ⟨hx, hy⟩ := K2_ok.edge_lt he
  have key : ∀ x, x < 3 → ∀ y, y < 3 → ((y : Nat) : Int) ∈ K2.getD (2 * x) [] → [1, 2, 0].getD x 0 < [1, 2, 0].getD y 0 := by decide
  exact key x hx y hy he⟩
theorem bund1_ran {L' : List (List Int)} {P' A' : List Nat} (h : Ran 3 K0 [0, 1, 2] [0, 1, 2] [(2, 0), (0, 1)] L' P' A') : L' = K2 ∧ P' = [1, 2, 0] ∧ A' = [2, 0, 1] := by
  obtain ⟨L1, P1, A1, c, h1, p2⟩ := h.inv (es := [(2, 0)]) (x := (0, 1)) rfl
  obtain ⟨L0, P0, A0, c0, h0, p1⟩ := h1.inv (es := []) (x := (2, 0)) rfl
  obtain ⟨rfl, rfl, rfl⟩ := h0.nil_inv rfl
  obtain ⟨rfl, s1⟩ := (PutI.nat (a := 2) (b := 0) p1 (by decide) (by decide)).done
  obtain ⟨rfl, rfl⟩ := stepA _ _ s1
  obtain ⟨rfl, s2⟩ := (PutI.nat (a := 0) (b := 1) p2 (by decide) (by decide)).done
  obtain ⟨rfl, rfl⟩ := stepB _ _ s2
  exact ⟨by decide, rfl, rfl⟩
theorem bund1_fits {k : Nat} (h : FitsC 2 (List.replicate 4 []) [0, 1] [0, 1] 1 [(2, 0), (0, 1)] k) : k = 0 := by
  unfold FitsC at h
  rw [if_pos (by decide)] at h
  obtain ⟨i, L', P', A', h⟩ := h
  have h : Went 3 K0 [0, 1, 2] [0, 1, 2] [(2, 0), (0, 1)] i k L' P' A' := h
  have hs : OSt 3 K0 [0, 1, 2] [0, 1, 2] := OSt.start 3
  have h1 := h.fits hs K2_st (fun x y he => absurd he (empty_edge 3 x y)) (fun x y he => by
    simp at he
    rcases he with ⟨e1, e2⟩ | ⟨e1, e2⟩
    · obtain rfl : x = 2 := by omega
      obtain rfl : y = 0 := by omega
      show (0 : Int) ∈ _; decide
    · obtain rfl : x = 0 := by omega
      obtain rfl : y = 1 := by omega
      show (1 : Int) ∈ _; decide)
  exact (h.inside (fun x hx => by
    simp at hx
    rcases hx with rfl | rfl
    · exact ⟨2, 0, by decide, by decide, rfl⟩
    · exact ⟨0, 1, by decide, by decide, rfl⟩)).resolve_right h1
theorem K2_path : Path K2 2 1 := .step (x := 0) (by unfold Gr.E; decide) (.step (x := 1) (by unfold Gr.E; decide) (.refl 1))
theorem bund2_in : ∀ x ∈ [((0 : Int), (1 : Int)), (1, 2)], ∃ a b : Nat, a < 3 ∧ b < 3 ∧ x = ((a : Int), (b : Int)) := fun x hx => by
  simp at hx
  rcases hx with rfl | rfl
  · exact ⟨0, 1, by decide, by decide, rfl⟩
  · exact ⟨1, 2, by decide, by decide, rfl⟩
theorem bund2_fits {k : Nat} (h : FitsC 3 K2 [1, 2, 0] [2, 0, 1] 0 [(0, 1), (1, 2)] k) : k = 25 := by
  unfold FitsC at h
  rw [if_pos (by decide)] at h
  obtain ⟨i, L', P', A', h⟩ := h
  have h : Went 3 K2 [1, 2, 0] [2, 0, 1] [(0, 1), (1, 2)] i k L' P' A' := h
  refine (h.inside bund2_in).resolve_left fun e => ?_
  subst e
  obtain ⟨-, hr⟩ := h.all
  have he := hr.edge K2_st
  have hs := hr.st K2_st
  refine hs.acyc ⟨1, 2, by decide, by decide, (he 1 2).2 (.inr (by simp)), path_sub (fun x y hxy => (he x y).2 (.inl hxy)) K2_path⟩
theorem bund2_cyc {i : Nat} {L' : List (List Int)} {P' A' l : List Nat} {hi : i < [((0 : Int), (1 : Int)), (1, 2)].length} (h : Went 3 K2 [1, 2, 0] [2, 0, 1] [(0, 1), (1, 2)] i 25 L' P' A') (hc : OrW.CycL L' [((0 : Int), (1 : Int)), (1, 2)][i] l) : l = [2, 0, 1] := by
  obtain ⟨hi, a, b, ha, hb, e, hp, hr⟩ := h.stop
  have : i = 0 ∨ i = 1 := by simp at hi; omega
  rcases this with rfl | rfl
  · obtain ⟨rfl, -, -⟩ := hr.nil_inv rfl
    simp at e
    obtain rfl : a = 0 := by omega
    obtain rfl : b = 1 := by omega
    have := hp.stuck (by decide)
    omega
  · have he := hr.edge K2_st
    have hL : L' = K2 := (hr.st K2_st).same K2_st fun x y => by
      rw [he]
      refine ⟨fun h => h.elim id fun h => ?_, .inl⟩
      simp at h
      obtain rfl : x = 0 := by omega
      obtain rfl : y = 1 := by omega
      show (1 : Int) ∈ _; decide
    subst hL
    obtain ⟨a, b, e, hc⟩ := hc
    simp at e
    obtain rfl : a = 1 := by omega
    obtain rfl : b = 2 := by omega
    rcases hc with ⟨h, -⟩ | ⟨-, hw⟩
    · omega
    · have o2 : ∀ u : Nat, Gr.E K2 2 u → u = 0 := fun u hu => by
        have h : ((u : Nat) : Int) ∈ ([0] : List Int) := hu
        simp at h; omega
      have o0 : ∀ u : Nat, Gr.E K2 0 u → u = 1 := fun u hu => by
        have h : ((u : Nat) : Int) ∈ ([1] : List Int) := hu
        simp at h; omega
      have o1 : ∀ u : Nat, ¬ Gr.E K2 1 u := fun u hu => by
        have h : ((u : Nat) : Int) ∈ ([] : List Int) := hu
        simp at h
      cases hw with
      | step _ e1 _ _ w1 =>
        obtain rfl := o2 _ e1
        cases w1 with
        | step _ e2 _ _ w2 =>
          obtain rfl := o0 _ e2
          cases w2 with
          | here => rfl
          | step _ e3 _ _ _ => exact absurd e3 (o1 _)
end Go.Proofs.Ytelplccbcbegkaa.Ord
namespace Go.Proofs.Ytelplccbcbegkaa.OrW
set_option linter.unusedVariables false
open Go Go.RowKit Go.Proofs Go.Proofs.Ytelplccbcbegkaa Go.Proofs.Ytelplccbcbegkaa.Wd Go.Proofs.Ytelplccbcbegkaa.GrW Go.Proofs.Ytelplccbcbegkaa.Ord
open Go.Proofs.Ytelplccbcbegkaa.Gr (OK putL outs intos Path edgesTo ev)

theorem edges_two {w : World} {b B : Nat} {x1 x2 x3 x4 : Int} (h : Blk w b 34 #[.int .i64 x1, .int .i64 x2, .int .i64 x3, .int .i64 x4]) (hB : b < B) : EdgesAt w B (some ⟨b, 0, none⟩) [(x1, x2), (x3, x4)] := fun j hj => by
  refine ⟨b, 0, rfl, hB, ?_, ?_⟩
  · have : j = 0 ∨ j = 1 := by simp at hj; omega
    rcases this with rfl | rfl
    · exact h.at_ 0 rfl
    · exact h.at_ 2 rfl
  · have : j = 0 ∨ j = 1 := by simp at hj; omega
    rcases this with rfl | rfl
    · exact h.at_ 1 rfl
    · exact h.at_ 3 rfl
theorem OS.st {w : World} {B o n : Nat} {L : List (List Int)} {P A : List Nat} (h : OS w B o n L P A) : OSt n L P A := ⟨h.ok, h.perm, h.up⟩
theorem bput1 {w : World} {B o : Nat} (h : OS w B o 2 (List.replicate (2 * 2) []) (List.range 2) (List.range 2)) (hB : B ≤ w.heap.size) {w2 : World} (hw : w2 = w.alloc (.cells #[.int .i64 2, .int .i64 0, .int .i64 0, .int .i64 1] 34)) :
    Calls Try.prog 19 #[.pointer (some ⟨o, 0, none⟩), .int .i64 1, .slice (some ⟨w.heap.size, 0, none⟩) 2 2] w2 fun e w' => e = .returned (.tuple #[.int .i64 2, .int .i64 0]) ∧ OS w' B o 3 K2 [1, 2, 0] [2, 0, 1] ∧ Below B w w' := by
  have hb := (Below.refl w.heap.size w).alloc (Nat.le_refl _) (.cells #[.int .i64 2, .int .i64 0, .int .i64 0, .int .i64 1] 34)
  rw [← hw] at hb
  have h2 := (h.below hb).at_
  have h2' : OAt w2 B (fun j => B ≤ j ∧ j < w.heap.size) o 2 (List.replicate (2 * 2) []) (List.range 2) (List.range 2) := h.at_.exist.below hb
  have hblk : Blk w2 w.heap.size 34 #[.int .i64 2, .int .i64 0, .int .i64 0, .int .i64 1] := by rw [hw]; exact Blk.new_ w _ _ rfl
  refine (bput_any w2 B o 2 _ _ _ _ h2' h.st (by decide) 1 h.st.hok (some ⟨w.heap.size, 0, none⟩) 2 2 [(2, 0), (0, 1)] rfl (by decide) (edges_two hblk hblk.lt) (fun b off e => by cases e; exact hblk.lt) (fun b off e e2 => by cases e; omega)).mono ?_
  rintro e w' ⟨k, hf, hc⟩
  have hk := bund1_fits hf
  subst hk
  rcases hc with ⟨hk, -⟩ | ⟨-, -, L', P', A', hr, rfl, hu⟩
  · exact absurd rfl hk
  · obtain ⟨rfl, rfl, rfl⟩ := bund1_ran hr
    obtain ⟨q1, q2⟩ := hu.low (fun k e => e.1) (Nat.le_trans hB hb.size)
    exact ⟨rfl, ⟨q1, K2_st.ok, K2_st.perm, K2_st.up⟩, (hb.mono hB).trans q2⟩
theorem bput2 {w : World} {B o : Nat} (h : OS w B o 3 K2 [1, 2, 0] [2, 0, 1]) {w2 : World} (hw : w2 = w.alloc (.cells #[.int .i64 0, .int .i64 1, .int .i64 1, .int .i64 2] 34)) :
    Calls Try.prog 19 #[.pointer (some ⟨o, 0, none⟩), .int .i64 0, .slice (some ⟨w.heap.size, 0, none⟩) 2 2] w2 fun e w' => e = .returned (.tuple #[.int .i64 0, .int .i64 25]) ∧ Below w2.heap.size w2 w' := by
  have hb := (Below.refl w.heap.size w).alloc (Nat.le_refl _) (.cells #[.int .i64 0, .int .i64 1, .int .i64 1, .int .i64 2] 34)
  rw [← hw] at hb
  have h2' : OAt w2 B (fun j => B ≤ j ∧ j < w.heap.size) o 3 K2 [1, 2, 0] [2, 0, 1] := h.at_.exist.below hb
  have hblk : Blk w2 w.heap.size 34 #[.int .i64 0, .int .i64 1, .int .i64 1, .int .i64 2] := by rw [hw]; exact Blk.new_ w _ _ rfl
  refine (bput_any w2 B o 3 _ _ _ _ h2' h.st (by decide) 0 h.st.hok (some ⟨w.heap.size, 0, none⟩) 2 2 [(0, 1), (1, 2)] rfl (by decide) (edges_two hblk hblk.lt) (fun b off e => by cases e; exact hblk.lt) (fun b off e e2 => by cases e; omega)).mono ?_
  rintro e w' ⟨k, hf, hc⟩
  have hk := bund2_fits hf
  subst hk
  rcases hc with ⟨-, rfl, h2⟩ | ⟨hk, -⟩
  · exact ⟨rfl, h2⟩
  · cases hk
theorem bcyc2 {w : World} {B o : Nat} (h : OS w B o 3 K2 [1, 2, 0] [2, 0, 1]) {b : Nat} (hblk : Blk w b 34 #[.int .i64 0, .int .i64 1, .int .i64 1, .int .i64 2]) :
    Calls Try.prog 11 #[.pointer (some ⟨o, 0, none⟩), .int .i64 0, .slice (some ⟨b, 0, none⟩) 2 2] w (NumsC w [2, 0, 1] 3) := by
  refine (cycle_any w B o 3 _ _ _ _ h.at_ h.st (by decide) 0 (some ⟨b, 0, none⟩) 2 2 [(0, 1), (1, 2)] rfl (by decide) (edges_two hblk hblk.lt) (fun b off e => by cases e; exact hblk.lt)).mono ?_
  rintro e w' ⟨k, hf, hc⟩
  have hk := bund2_fits hf
  subst hk
  rcases hc with ⟨hk, -⟩ | ⟨-, -, i, hi, L', P', A', l, hw, hcl, hn⟩
  · exact absurd rfl hk
  · have := bund2_cyc hw hcl
    subst this
    exact hn.c rfl rfl
set_option maxRecDepth 100000 in
set_option maxHeartbeats 4000000 in
theorem awakeB_any (w : World) : Calls Try.prog 15 #[] w fun e w' => e = .returned (.bool true) ∧ Below w.heap.size w w' := by
  have HNW := Lib.hid (newO_any 2 w)
  go_enter Try.func15, Try.ntmps15
  go_wp2_with fail
  refine Calls.mono HNW.out ?_
  intro e w1 h1
  obtain ⟨o, rfl, G1, B1⟩ := OS.new_ (n := 2) h1 (by decide)
  have HG1 := Lib.hid G1
  have HB1 := Lib.hid B1
  clear HNW G1 B1 h1
  go_wp2_with fail
  refine Calls.mono (bput1 HG1.out HB1.out.size rfl) ?_
  rintro e w2 ⟨rfl, G2, B2⟩
  have HG2 := Lib.hid G2
  have HB2 := Lib.hid (HB1.out.trans B2)
  clear HG1 HB1 G2 B2
  go_wp2_with fail
  have HA2 := Lib.hid ((Below.refl w2.heap.size w2).alloc (Nat.le_refl _) (.cells #[.int .i64 0, .int .i64 1, .int .i64 1, .int .i64 2] 34))
  have HBL := Lib.hid (Blk.new_ w2 34 #[.int .i64 0, .int .i64 1, .int .i64 1, .int .i64 2] rfl)
  refine Calls.mono (bput2 HG2.out rfl) ?_
  rintro e w3 ⟨rfl, B3⟩
  have HG3 := Lib.hid ((HG2.out.below HA2.out).below B3)
  have HB3 := Lib.hid ((HB2.out.trans (HA2.out.mono HB2.out.size)).trans (B3.mono (by have := HB2.out.size; have := HA2.out.size; omega)))
  have HBL3 := Lib.hid (HBL.out.below B3 HBL.out.lt)
  clear HG2 HB2 HA2 HBL B3
  go_wp2_with fail
  refine Calls.mono (list_c HG3.out (by decide) [2, 0, 1] (by decide) 3 rfl) ?_
  rintro e w4 ⟨A4, c4, rfl, o4, B4⟩
  have HG4 := Lib.hid (HG3.out.below B4)
  have HB4 := Lib.hid (HB3.out.trans (B4.mono HB3.out.size))
  have HBL4 := Lib.hid (HBL3.out.below B4 HBL3.out.lt)
  have HO4 := Lib.hid o4
  clear HG3 HB3 HBL3 B4 o4
  go_wp2_with fail
  have HBI := Lib.hid (Blk.new_ w4 3 (iv [2, 0, 1]).toArray (n := w4.heap.size) rfl)
  refine Calls.mono (ints_c (HO4.out.alloc _) HBI.out rfl) ?_
  rintro e w5 ⟨rfl, B5⟩
  have B5' := ((Below.refl w4.heap.size w4).alloc (Nat.le_refl _) (.cells (iv [2, 0, 1]).toArray 3)).trans (B5.mono (by simp))
  have HG5 := Lib.hid (HG4.out.below B5')
  have HB5 := Lib.hid (HB4.out.trans (B5'.mono HB4.out.size))
  have HBL5 := Lib.hid (HBL4.out.below B5' HBL4.out.lt)
  clear HG4 HB4 HBL4 HO4 HBI B5 B5'
  rw [show decide (([2, 0, 1] : List Int) = [2, 0, 1]) = true by decide]
  go_wp2_with fail
  refine Calls.mono (edges_o HG5.out.at_ HG5.out.ok (by decide)) ?_
  rintro e w6 ⟨A6, c6, rfl, B6, -⟩
  have HG6 := Lib.hid (HG5.out.below B6)
  have HB6 := Lib.hid (HB5.out.trans (B6.mono HB5.out.size))
  have HBL6 := Lib.hid (HBL5.out.below B6 HBL5.out.lt)
  clear HG5 HB5 HBL5 B6
  rw [show (edgesTo K2 3).length = 2 by decide]
  go_wp2_with fail
  refine Calls.mono (bcyc2 HG6.out HBL6.out) ?_
  rintro e w7 ⟨A7, c7, rfl, o7, B7⟩
  have HB7 := Lib.hid (HB6.out.trans (B7.mono HB6.out.size))
  have HO7 := Lib.hid o7
  clear HG6 HB6 HBL6 B7 o7
  go_wp2_with fail
  have HBI := Lib.hid (Blk.new_ w7 3 (iv [2, 0, 1]).toArray (n := w7.heap.size) rfl)
  refine Calls.mono (ints_c (HO7.out.alloc _) HBI.out rfl) ?_
  rintro e w8 ⟨rfl, B8⟩
  have B8' := ((Below.refl w7.heap.size w7).alloc (Nat.le_refl _) (.cells (iv [2, 0, 1]).toArray 3)).trans (B8.mono (by simp))
  have HB8 := Lib.hid (HB7.out.trans (B8'.mono HB7.out.size))
  clear HB7 HO7 HBI B8 B8'
  rw [show decide (([2, 0, 1] : List Int) = [2, 0, 1]) = true by decide]
  go_wp2_with fail
  go_ret
  exact ⟨rfl, HB8.out⟩
end Go.Proofs.Ytelplccbcbegkaa.OrW
