/-
  The walk of awake: the chapter's own examples.
-/
import Derived.Test.YtclbpohhmaojcaaGraphLow
namespace Go.Proofs.Ytclbpohhmaojcaa.GrW
set_option linter.unusedVariables false
open Go Go.RowKit Go.Proofs Go.Proofs.Ytclbpohhmaojcaa Go.Proofs.Ytclbpohhmaojcaa.Wd
open Go.Proofs.Ytclbpohhmaojcaa.Gr (putL cutL OK Cons Inside Topo Free outs intos Path)

theorem GAt.wide {w : World} {base g n : Nat} {F F' : Nat → Prop} {L : List (List Int)} (h : GAt w base F g n L) (hf : ∀ k, F k → F' k) : GAt w base F' g n L := by
  obtain ⟨r, c, cur, h1, h2, h3, h4, h5, h6, h7, f1, f2, f3⟩ := h
  exact ⟨r, c, cur, h1, h2, h3, h4, h5, h6, h7, hf _ f1, hf _ f2, fun i v b hi hv hb => hf _ (f3 i v b hi hv hb)⟩
theorem Fr.low {w w' : World} {F : Nat → Prop} {B : Nat} (h : Fr F w w') (hB : ∀ k, F k → B ≤ k) (hs : B ≤ w.heap.size) : Below B w w' := ⟨h.os, h.tape, h.output, h.size, fun k hk => h.block k (by omega) (fun hf => by have := hB k hf; omega)⟩
theorem Upd.low {base g n B : Nat} {F : Nat → Prop} {L : List (List Int)} {w w' : World} (h : Upd base F g n L w w') (hF : ∀ k, F k → B ≤ k) (hs : B ≤ w.heap.size) : GAt w' base (fun k => B ≤ k) g n L ∧ Below B w w' := by
  obtain ⟨F', h1, h2, h3⟩ := h
  exact ⟨h1.wide (fun k hk => (h3 k hk).elim (hF k) (fun h => by omega)), h2.low hF hs⟩
/-- Put and Cut where all numbers are known. -/
theorem put_c {w : World} {B g n : Nat} {L : List (List Int)} (hG : GAt w B (fun j => B ≤ j) g n L) (hr : Rises L) (hs : B ≤ w.heap.size) (u v : Int) (L' : List (List Int)) (b : Bool) (hc : canPut n u v = true) (hL : putL L u.toNat v.toNat = L') (hb : (!hasE n L u v) = b) :
    Calls Try.prog 21 #[.pointer (some ⟨g, 0, none⟩), .int .i64 u, .int .i64 v] w fun e w' => e = .returned (.tuple #[.bool b, .int .i64 0]) ∧ GAt w' B (fun j => B ≤ j) g n L' ∧ Below B w w' := by
  refine (put_all w B g n _ L hG hr hs u v).mono ?_
  intro e w' h
  unfold PutOut at h
  rw [if_pos hc, hL, hb] at h
  exact ⟨h.1, h.2.low (fun _ h => h) hs⟩
theorem cut_c {w : World} {B g n : Nat} {L : List (List Int)} (hG : GAt w B (fun j => B ≤ j) g n L) (hr : Rises L) (hs : B ≤ w.heap.size) (u v : Int) (L' : List (List Int)) (b : Bool) (hc : (isV n u && isV n v) = true) (hL : cutL L u.toNat v.toNat = L') (hb : hasE n L u v = b) :
    Calls Try.prog 23 #[.pointer (some ⟨g, 0, none⟩), .int .i64 u, .int .i64 v] w fun e w' => e = .returned (.bool b) ∧ GAt w' B (fun j => B ≤ j) g n L' ∧ Below B w w' := by
  refine (cut_all w B g n _ L hG hr hs u v).mono ?_
  intro e w' h
  unfold CutOut at h
  rw [if_pos hc, hL, hb] at h
  exact ⟨h.1, h.2.low (fun _ h => h) hs⟩
def L0 : List (List Int) := [[], [], [], [], [], [], [], []]
def L1 : List (List Int) := [[2], [], [], [], [], [0], [], []]
def L2 : List (List Int) := [[2], [], [], [2], [1], [0], [], []]
def L3 : List (List Int) := [[2], [1], [0], [2], [1], [0], [], []]
theorem ok0 : OK 4 L0 := OK.empty 4
theorem ok1 : OK 4 L1 := ok0.put (k := 0) (m := 2) (by decide) (by decide) (by decide)
theorem ok2 : OK 4 L2 := ok1.put (k := 2) (m := 1) (by decide) (by decide) (by decide)
theorem ok3 : OK 4 L3 := ok2.put (k := 1) (m := 0) (by decide) (by decide) (by decide)
theorem topo2 : Topo 4 L2 [0, 2, 1, 3] := by
  have h1 : Topo 4 L2 ([] ++ [((0 : Nat) : Int)]) := Topo.nil.more (by decide) (by decide)
  have h2 : Topo 4 L2 (([] ++ [((0 : Nat) : Int)]) ++ [((2 : Nat) : Int)]) := h1.more (by decide) (by decide)
  have h3 : Topo 4 L2 ((([] ++ [((0 : Nat) : Int)]) ++ [((2 : Nat) : Int)]) ++ [((1 : Nat) : Int)]) := h2.more (by decide) (by decide)
  have h4 : Topo 4 L2 (((([] ++ [((0 : Nat) : Int)]) ++ [((2 : Nat) : Int)]) ++ [((1 : Nat) : Int)]) ++ [((3 : Nat) : Int)]) := h3.more (by decide) (by decide)
  exact h4
theorem topo3 : Topo 4 L3 [3] := by
  have h1 : Topo 4 L3 ([] ++ [((3 : Nat) : Int)]) := Topo.nil.more (by decide) (by decide)
  exact h1
theorem free2 : ∀ v, ¬ Free 4 L2 [0, 2, 1, 3] v := Gr.none_free (by decide)
theorem free3 : ∀ v, ¬ Free 4 L3 [3] v := Gr.none_free (by decide)
theorem reach01 : reached 4 L2 0 1 := ⟨by decide, by decide, .step (x := 2) (by unfold Gr.E; decide) (.step (x := 1) (by unfold Gr.E; decide) (.refl 1))⟩
theorem reach10 : ¬ reached 4 L2 1 0 := fun h => by
  have := h.2.2.stuck (by decide)
  simp at this
theorem reach33 : reached 4 L2 3 3 := ⟨by decide, by decide, .refl _⟩
theorem sort_2 {w : World} {base g : Nat} {F : Nat → Prop} (h : GAt w base F g 4 L2) : Calls Try.prog 14 #[.pointer (some ⟨g, 0, none⟩)] w fun e w' => ∃ A c, e = .returned (.tuple #[.slice A 4 c, .bool true]) ∧ w'.ownsRow w.heap.size 3 1 (.slice A 4 c) 4 (iv [0, 2, 1, 3]) ∧ Below w.heap.size w w' := by
  refine (sort_any w base g 4 F L2 h (ok2.rises (by decide)) ok2.inside ok2.cons (by decide)).mono ?_
  rintro e w' ⟨out, h1, h2, h3, h4⟩
  have e1 := h1.unique topo2 h2 free2
  subst e1
  rcases h4 with ⟨-, v', rfl, h5⟩ | ⟨h4, -⟩
  · obtain ⟨A, c, rfl⟩ := own_form h5
    exact ⟨A, c, rfl, h5, h3⟩
  · simp at h4
theorem sort_3 {w : World} {base g : Nat} {F : Nat → Prop} (h : GAt w base F g 4 L3) : Calls Try.prog 14 #[.pointer (some ⟨g, 0, none⟩)] w fun e w' => e = .returned (.tuple #[.slice none 0 0, .bool false]) ∧ Below w.heap.size w w' := by
  refine (sort_any w base g 4 F L3 h (ok3.rises (by decide)) ok3.inside ok3.cons (by decide)).mono ?_
  rintro e w' ⟨out, h1, h2, h3, h4⟩
  have e1 := h1.unique topo3 h2 free3
  subst e1
  rcases h4 with ⟨h4, -⟩ | ⟨-, rfl⟩
  · simp at h4
  · exact ⟨rfl, h3⟩
theorem reach_c {w : World} {base g n : Nat} {F : Nat → Prop} {L : List (List Int)} (h : GAt w base F g n L) (ok : OK n L) (hn : n ≤ 30000) (x y : Int) (b : Bool) (hb : b = true ↔ reached n L x y) : Calls Try.prog 10 #[.pointer (some ⟨g, 0, none⟩), .int .i64 x, .int .i64 y] w fun e w' => e = .returned (.bool b) ∧ Below w.heap.size w w' := by
  refine (reach_any w base g n F L h (ok.rises hn) ok.inside hn x y).mono ?_
  rintro e w' ⟨b2, rfl, h1, h2⟩
  have : b2 = b := by rw [Bool.eq_iff_iff, h1, hb]
  subst this
  exact ⟨rfl, h2⟩
/-- A row of the call's own beside a literal. -/
theorem ints_c {w : World} {base : Nat} {A : Option Addr} {n c : Nat} {l m : List Int} (h : w.ownsRow base 3 1 (.slice A n c) n (iv l)) {b k : Nat} (hb : Blk w b 3 (iv m).toArray) (hk : k = m.length) :
    Calls Try.prog 15 #[.slice A n c, .slice (some ⟨b, 0, none⟩) k k] w fun e w' => e = .returned (.bool (decide (l = m))) ∧ Below w.heap.size w w' := by
  obtain ⟨h1, h2, h3, h4⟩ := Nums.of_own h
  refine ints_any A (some ⟨b, 0, none⟩) c k l m n k h2 hk h3 h4 w h1 ?_
  have := Row.blk (B := w.heap.size) hb hb.lt
  unfold Nums
  simpa using this
def NumsC (w : World) (l : List Int) (m : Nat) (e : Ending) (w' : World) : Prop := ∃ A c, e = .returned (.slice A m c) ∧ w'.ownsRow w.heap.size 3 1 (.slice A m c) m (iv l) ∧ Below w.heap.size w w'
theorem NumsOut.c {w w' : World} {l l' : List Int} {e : Ending} (h : NumsOut w l e w') (hl : l = l') {m : Nat} (hm : m = l'.length) : NumsC w l' m e w' := by
  obtain ⟨v', rfl, h1, h2⟩ := h
  subst hl hm
  obtain ⟨A, c, rfl⟩ := own_form h1
  exact ⟨A, c, rfl, h1, h2⟩
theorem out_c {w : World} {base g n : Nat} {F : Nat → Prop} {L : List (List Int)} (h : GAt w base F g n L) (hr : Rises L) (u : Int) (l : List Int) (hl : outE n L u = l) (m : Nat) (hm : m = l.length) : Calls Try.prog 11 #[.pointer (some ⟨g, 0, none⟩), .int .i64 u] w (NumsC w l m) :=
  (out_any w base g n F L h hr u).mono fun e w' h => h.c hl hm
theorem into_c {w : World} {base g n : Nat} {F : Nat → Prop} {L : List (List Int)} (h : GAt w base F g n L) (hr : Rises L) (u : Int) (l : List Int) (hl : intoE n L u = l) (m : Nat) (hm : m = l.length) : Calls Try.prog 12 #[.pointer (some ⟨g, 0, none⟩), .int .i64 u] w (NumsC w l m) :=
  (into_any w base g n F L h hr u).mono fun e w' h => h.c hl hm
set_option maxRecDepth 100000 in
set_option maxHeartbeats 4000000 in
theorem awake_any (w : World) : Calls Try.prog 13 #[] w fun e w' => e = .returned (.bool true) ∧ Below w.heap.size w w' := by
  have HNW := Lib.hid (new_any 4 w)
  go_enter Try.func13, Try.ntmps13
  go_wp2_with fail
  refine Calls.mono HNW.out ?_
  intro e w1 h1
  unfold NewOut at h1
  rw [if_pos (by decide)] at h1
  obtain ⟨g, rfl, G1, B1⟩ := h1
  have G1 : GAt w1 w.heap.size (fun j => w.heap.size ≤ j) g 4 L0 := G1
  have HG1 := Lib.hid G1
  have HB1 := Lib.hid B1
  clear HNW G1 B1
  go_wp2_with fail
  refine Calls.mono (put_c HG1.out (ok0.rises (by decide)) HB1.out.size 0 2 L1 true (by decide) (by decide) (by decide)) ?_
  rintro e w2 ⟨rfl, G2, B2⟩
  have HG2 := Lib.hid G2
  have HB2 := Lib.hid (HB1.out.trans B2)
  clear HG1 HB1 G2 B2
  go_wp2_with fail
  refine Calls.mono (put_c HG2.out (ok1.rises (by decide)) HB2.out.size 2 1 L2 true (by decide) (by decide) (by decide)) ?_
  rintro e w3 ⟨rfl, G3, B3⟩
  have HG3 := Lib.hid G3
  have HB3 := Lib.hid (HB2.out.trans B3)
  clear HG2 HB2 G3 B3
  go_wp2_with fail
  refine Calls.mono (put_c HG3.out (ok2.rises (by decide)) HB3.out.size 2 1 L2 false (by decide) (by decide) (by decide)) ?_
  rintro e w4 ⟨rfl, G4, B4⟩
  have HG4 := Lib.hid G4
  have HB4 := Lib.hid (HB3.out.trans B4)
  clear HG3 HB3 G4 B4
  go_wp2_with fail
  refine Calls.mono (put_refused w4 w.heap.size g 4 _ L2 HG4.out 1 1 (by decide)) ?_
  rintro e w5 ⟨rfl, rfl⟩
  go_wp2_with fail
  refine Calls.mono (sort_2 HG4.out) ?_
  rintro e w5 ⟨As, cs, rfl, OS, B5⟩
  have HG5 := Lib.hid (HG4.out.below B5)
  have HB5 := Lib.hid (HB4.out.trans (B5.mono HB4.out.size))
  have HO5 := Lib.hid OS
  clear HG4 HB4 B5 OS
  go_wp2_with fail
  have HBL := Lib.hid (Blk.new_ w5 3 (iv [0, 2, 1, 3]).toArray (n := w5.heap.size) rfl)
  refine Calls.mono (ints_c (HO5.out.alloc _) HBL.out rfl) ?_
  rintro e w6 ⟨rfl, B6⟩
  have B6' := ((Below.refl w5.heap.size w5).alloc (Nat.le_refl _) (.cells (iv [0, 2, 1, 3]).toArray 3)).trans (B6.mono (by simp))
  have HG6 := Lib.hid (HG5.out.below B6')
  have HB6 := Lib.hid (HB5.out.trans (B6'.mono HB5.out.size))
  clear HG5 HB5 HO5 HBL B6 B6'
  rw [show decide (([0, 2, 1, 3] : List Int) = [0, 2, 1, 3]) = true by decide]
  go_wp2_with fail
  refine Calls.mono (out_c HG6.out (ok2.rises (by decide)) 0 [2] (by decide) 1 rfl) ?_
  rintro e w7 ⟨Ao7, co7, rfl, OS, B7⟩
  have HG7 := Lib.hid (HG6.out.below B7)
  have HB7 := Lib.hid (HB6.out.trans (B7.mono HB6.out.size))
  have HO7 := Lib.hid OS
  clear HG6 HB6 B7 OS
  go_wp2_with fail
  have HBL := Lib.hid (Blk.new_ w7 3 (iv [2]).toArray (n := w7.heap.size) rfl)
  refine Calls.mono (ints_c (HO7.out.alloc _) HBL.out rfl) ?_
  rintro e w8 ⟨rfl, B8⟩
  have B8' := ((Below.refl w7.heap.size w7).alloc (Nat.le_refl _) (.cells (iv [2]).toArray 3)).trans (B8.mono (by simp))
  have HG8 := Lib.hid (HG7.out.below B8')
  have HB8 := Lib.hid (HB7.out.trans (B8'.mono HB7.out.size))
  clear HG7 HB7 HO7 HBL B8 B8'
  rw [show decide (([2] : List Int) = [2]) = true by decide]
  go_wp2_with fail
  refine Calls.mono (into_c HG8.out (ok2.rises (by decide)) 1 [2] (by decide) 1 rfl) ?_
  rintro e w9 ⟨Ao9, co9, rfl, OS, B9⟩
  have HG9 := Lib.hid (HG8.out.below B9)
  have HB9 := Lib.hid (HB8.out.trans (B9.mono HB8.out.size))
  have HO9 := Lib.hid OS
  clear HG8 HB8 B9 OS
  go_wp2_with fail
  have HBL := Lib.hid (Blk.new_ w9 3 (iv [2]).toArray (n := w9.heap.size) rfl)
  refine Calls.mono (ints_c (HO9.out.alloc _) HBL.out rfl) ?_
  rintro e w10 ⟨rfl, B10⟩
  have B10' := ((Below.refl w9.heap.size w9).alloc (Nat.le_refl _) (.cells (iv [2]).toArray 3)).trans (B10.mono (by simp))
  have HG10 := Lib.hid (HG9.out.below B10')
  have HB10 := Lib.hid (HB9.out.trans (B10'.mono HB9.out.size))
  clear HG9 HB9 HO9 HBL B10 B10'
  rw [show decide (([2] : List Int) = [2]) = true by decide]
  go_wp2_with fail
  refine Calls.mono (reach_c HG10.out ok2 (by decide) 0 1 true ⟨fun _ => reach01, fun _ => rfl⟩) ?_
  rintro e w11 ⟨rfl, B11⟩
  have HG11 := Lib.hid (HG10.out.below B11)
  have HB11 := Lib.hid (HB10.out.trans (B11.mono HB10.out.size))
  clear HG10 HB10 B11
  go_wp2_with fail
  refine Calls.mono (reach_c HG11.out ok2 (by decide) 1 0 false ⟨fun h => by simp at h, fun h => absurd h reach10⟩) ?_
  rintro e w12 ⟨rfl, B12⟩
  have HG12 := Lib.hid (HG11.out.below B12)
  have HB12 := Lib.hid (HB11.out.trans (B12.mono HB11.out.size))
  clear HG11 HB11 B12
  go_wp2_with fail
  refine Calls.mono (reach_c HG12.out ok2 (by decide) 3 3 true ⟨fun _ => reach33, fun _ => rfl⟩) ?_
  rintro e w13 ⟨rfl, B13⟩
  have HG13 := Lib.hid (HG12.out.below B13)
  have HB13 := Lib.hid (HB12.out.trans (B13.mono HB12.out.size))
  clear HG12 HB12 B13
  go_wp2_with fail
  refine Calls.mono (copy_any w13 _ g 4 _ L2 HG13.out (ok2.rises (by decide)) (by decide)) ?_
  rintro e w14 ⟨h, rfl, GH, B14⟩
  have HG14 := Lib.hid (HG13.out.below B14)
  have HB14 := Lib.hid (HB13.out.trans (B14.mono HB13.out.size))
  have HH14 := Lib.hid GH
  have HS14 := Lib.hid B14.size
  have HD14 := Lib.hid B14
  have HG13S := Lib.hid HB13.out.size
  clear HB13 B14 GH
  go_wp2_with fail
  refine Calls.mono (put_c HH14.out (ok2.rises (by decide)) HS14.out 1 0 L3 true (by decide) (by decide) (by decide)) ?_
  rintro e w15 ⟨rfl, GH, B15⟩
  have HH15 := Lib.hid GH
  have B15' : Below w13.heap.size w14 w15 := B15
  have HB15 := Lib.hid (HB14.out.trans (B15'.mono HG13S.out))
  have HG15 := Lib.hid ((HG13.out.below (HD14.out.trans B15')))
  clear HG14 HH14 HB14 GH B15 B15'
  go_wp2_with fail
  refine Calls.mono (sort_3 HH15.out) ?_
  rintro e w16 ⟨rfl, B16⟩
  have HG16 := Lib.hid (HG15.out.below B16)
  have HB16 := Lib.hid (HB15.out.trans (B16.mono HB15.out.size))
  clear HG15 HB15 HH15 B16
  go_wp2_with fail
  refine Calls.mono (cut_c HG16.out (ok2.rises (by decide)) HB16.out.size 2 1 L1 true (by decide) (by decide) (by decide)) ?_
  rintro e w17 ⟨rfl, G17, B17⟩
  have HG17 := Lib.hid G17
  have HB17 := Lib.hid (HB16.out.trans B17)
  clear HG16 HB16 G17 B17
  go_wp2_with fail
  refine Calls.mono (cut_c HG17.out (ok1.rises (by decide)) HB17.out.size 2 1 L1 false (by decide) (by decide) (by decide)) ?_
  rintro e w18 ⟨rfl, G18, B18⟩
  have HB18 := Lib.hid (HB17.out.trans B18)
  clear HG17 HB17 G18 B18
  go_wp2_with fail
  go_ret
  exact ⟨rfl, HB18.out⟩
end Go.Proofs.Ytclbpohhmaojcaa.GrW
