/-
  The walk of awake: the chapter's own examples.
-/
import Derived.Test.YtpikdjaedbogdaaOrderNew
import Derived.Test.YtpikdjaedbogdaaOrderPut
namespace Go.Proofs.Ytpikdjaedbogdaa.Ord
set_option linter.unusedVariables false
open Go.Proofs.Ytpikdjaedbogdaa.Gr (E Path Inside OK outs intos Cyc putL)

theorem nrise_ext : ∀ {a b : List Nat}, a.Pairwise (· < ·) → b.Pairwise (· < ·) → (∀ x, x ∈ a ↔ x ∈ b) → a = b
  | [], [], _, _, _ => rfl
  | [], y :: b, _, _, h => by have := (h y).2 (List.mem_cons_self ..); simp at this
  | x :: a, [], _, _, h => by have := (h x).1 (List.mem_cons_self ..); simp at this
  | x :: a, y :: b, ha, hb, h => by
    have pa := List.pairwise_cons.1 ha
    have pb := List.pairwise_cons.1 hb
    have e : x = y := by
      have h1 := (h x).1 (List.mem_cons_self ..)
      have h2 := (h y).2 (List.mem_cons_self ..)
      rw [List.mem_cons] at h1 h2
      rcases h1 with h1 | h1
      · exact h1
      · rcases h2 with h2 | h2
        · exact h2.symm
        · have e1 := pb.1 x h1
          have e2 := pa.1 y h2
          omega
    subst e
    rw [nrise_ext pa.2 pb.2 (fun z => by
      have := h z
      rw [List.mem_cons, List.mem_cons] at this
      constructor
      · intro hz
        exact (this.1 (.inr hz)).resolve_left (fun e => by have := pa.1 z hz; omega)
      · intro hz
        exact (this.2 (.inr hz)).resolve_left (fun e => by have := pb.1 z hz; omega))]
theorem IsPart.uniq {nx : Nat → List Int} {q : Nat → Bool} {P : List Nat} {u : Nat} {l m : List Nat} (h : IsPart nx q P u l) (k : IsPart nx q P u m) : l = m := nrise_ext h.1 k.1 fun x => by rw [h.2, k.2]
/-- A part, by the vertices in it. -/
theorem IsPart.of {nx : Nat → List Int} {q : Nat → Bool} {P : List Nat} {u : Nat} (V l : List Nat) (hu : u ∈ V) (hV : ∀ y ∈ V, Way nx q u y) (hc : ∀ y ∈ V, ∀ z ∈ nx y, 0 ≤ z ∧ (q z.toNat = true → z.toNat ∈ V)) (hl : l.Pairwise (· < ·)) (hm : l.Perm (V.map fun y => P.getD y 0)) : IsPart nx q P u l := by
  have key : ∀ y, Way nx q u y → y ∈ V := fun y hw => by
    induction hw with
    | refl => exact hu
    | step _ h2 h3 ih =>
      have := (hc _ ih _ h2).2
      rw [Int.toNat_natCast] at this
      exact this h3
  refine ⟨hl, fun p => ?_⟩
  rw [hm.mem_iff, List.mem_map]
  exact ⟨fun ⟨y, h1, h2⟩ => ⟨y, hV y h1, h2⟩, fun ⟨y, h1, h2⟩ => ⟨y, key y h1, h2⟩⟩
theorem perm_rise {a b l : List Nat} (ha : a.Pairwise (· < ·)) (hb : b.Pairwise (· < ·)) (h1 : a.Perm l) (h2 : b.Perm l) : a = b := nrise_ext ha hb fun x => by rw [h1.mem_iff, h2.mem_iff]
/-- A step, where all is known. -/
theorem Step.known {n : Nat} {L : List (List Int)} {P A P' A' : List Nat} {u v : Nat} (h : Step n L P A u v P' A') (hlt : P.getD v 0 < P.getD u 0) {back fore pl : List Nat} (hb : IsPart (intos L) (fun y => decide (P.getD v 0 ≤ P.getD y 0)) P u back) (hf : IsPart (outs L) (fun y => decide (P.getD y 0 ≤ P.getD u 0)) P v fore) (hr : pl.Pairwise (· < ·)) (hp : pl.Perm (back ++ fore)) : P' = newP P A back fore pl ∧ A' = newA A back fore pl := by
  rcases h with ⟨h1, -⟩ | ⟨-, b, f, p, h2, h3, h4, h5, rfl, rfl⟩
  · omega
  · have e1 := h2.uniq hb
    have e2 := h3.uniq hf
    subst e1 e2
    have e3 := perm_rise h4 hr h5 hp
    subst e3
    exact ⟨rfl, rfl⟩
end Go.Proofs.Ytpikdjaedbogdaa.Ord
namespace Go.Proofs.Ytpikdjaedbogdaa.OrW
set_option linter.unusedVariables false
open Go Go.RowKit Go.Proofs Go.Proofs.Ytpikdjaedbogdaa Go.Proofs.Ytpikdjaedbogdaa.Wd Go.Proofs.Ytpikdjaedbogdaa.GrW Go.Proofs.Ytpikdjaedbogdaa.Ord
open Go.Proofs.Ytpikdjaedbogdaa.Gr (OK putL outs intos Path)

/-- An order, well formed, above B. -/
structure OS (w : World) (B o n : Nat) (L : List (List Int)) (P A : List Nat) : Prop where
  at_ : OAt w B (fun j => B ≤ j) o n L P A
  ok : OK n L
  perm : Perm n P A
  up : Up L P
theorem OS.below {w w' : World} {B o n : Nat} {L : List (List Int)} {P A : List Nat} (h : OS w B o n L P A) (hb : Below w.heap.size w w') : OS w' B o n L P A := { h with at_ := h.at_.below hb }
theorem OS.new_ {w w' : World} {n : Nat} {e : Ending} (h : ONewOut w n e w') (hn : n ≤ 10000) : ∃ o, e = .returned (.tuple #[.pointer (some ⟨o, 0, none⟩), .int .i64 0]) ∧ OS w' w.heap.size o n (List.replicate (2 * n) []) (List.range n) (List.range n) ∧ Below w.heap.size w w' := by
  unfold ONewOut at h
  rw [if_pos (by omega), Int.toNat_natCast] at h
  obtain ⟨o, h1, h2, h3⟩ := h
  exact ⟨o, h1, ⟨h2, OK.empty n, Perm.start n, fun x y he => by
    have := (OK.empty n).edge_lt he
    unfold Gr.E at he
    have e : (List.replicate (2 * n) ([] : List Int)).getD (2 * x) [] = [] := by simp [List.getD, List.getElem?_replicate]; split <;> rfl
    rw [e] at he; simp at he⟩, h3⟩
/-- Put, where all is known. -/
theorem put_oc {w : World} {B o n : Nat} {L : List (List Int)} {P A : List Nat} (h : OS w B o n L P A) (hn : n ≤ 15000) (hs : B ≤ w.heap.size) (u v : Nat) (hu : u < n) (hv : v < n) (hne : u ≠ v) (L' : List (List Int)) (P' A' : List Nat) (c : Nat) (hc : ¬ Path L v u) (hL : putL L u v = L') (hst : ∀ P2 A2, Step n L P A u v P2 A2 → P2 = P' ∧ A2 = A') (hm : moved n P P' = c) :
    Calls Try.prog 10 #[.pointer (some ⟨o, 0, none⟩), .int .i64 (u : Nat), .int .i64 (v : Nat)] w fun e w' => e = .returned (.tuple #[.int .i64 (c : Nat), .int .i64 0]) ∧ OS w' B o n L' P' A' ∧ Below B w w' := by
  refine (putV_any w B o n _ L P A h.at_ h.ok h.perm h.up hn u v hu hv hne).mono ?_
  rintro e w' (⟨h1, -⟩ | ⟨-, P2, A2, h2, rfl, h4⟩)
  · exact absurd h1 hc
  · obtain ⟨rfl, rfl⟩ := hst _ _ h2
    have ht := h2.turned h.ok h.perm h.up hu hv hc
    obtain ⟨q1, q2⟩ := h4.low (fun k e => e) hs
    rw [hL] at q1
    refine ⟨by rw [hm], ⟨q1, by rw [← hL]; exact h.ok.put hu hv hne, ht.perm, by rw [← hL]; exact ht.up⟩, q2⟩
theorem put_ocyc {w : World} {B o n : Nat} {L : List (List Int)} {P A : List Nat} (h : OS w B o n L P A) (hn : n ≤ 15000) (u v : Nat) (hu : u < n) (hv : v < n) (hne : u ≠ v) (hc : Path L v u) :
    Calls Try.prog 10 #[.pointer (some ⟨o, 0, none⟩), .int .i64 (u : Nat), .int .i64 (v : Nat)] w fun e w' => e = .returned (.tuple #[.int .i64 0, .int .i64 25]) ∧ Below w.heap.size w w' := by
  refine (putV_any w B o n _ L P A h.at_ h.ok h.perm h.up hn u v hu hv hne).mono ?_
  rintro e w' (⟨-, h1, h2⟩ | ⟨h1, -⟩)
  · exact ⟨h1, h2⟩
  · exact absurd hc h1
def M0 : List (List Int) := [[], [], [], [], [], [], [], []]
def M1 : List (List Int) := [[], [2], [], [], [0], [], [], []]
def M2 : List (List Int) := [[3], [2], [], [], [0], [], [], [0]]
def M3 : List (List Int) := [[3], [2], [], [3], [0], [], [1], [0]]
theorem step1 : ∀ P2 A2, Step 4 M0 [0, 1, 2, 3] [0, 1, 2, 3] 2 0 P2 A2 → P2 = [2, 1, 0, 3] ∧ A2 = [2, 1, 0, 3] := fun P2 A2 h =>
  h.known (by decide) (back := [2]) (fore := [0]) (pl := [0, 2]) (IsPart.of [2] [2] (by decide) (fun y hy => by
    have : y = 2 := by simpa using hy
    subst this; exact .refl _) (by decide) (by decide) (by decide)) (IsPart.of [0] [0] (by decide) (fun y hy => by
    have : y = 0 := by simpa using hy
    subst this; exact .refl _) (by decide) (by decide) (by decide)) (by decide) (by decide)
theorem step2 : ∀ P2 A2, Step 4 M1 [2, 1, 0, 3] [2, 1, 0, 3] 0 3 P2 A2 → P2 = [2, 1, 0, 3] ∧ A2 = [2, 1, 0, 3] := fun P2 A2 h => by
  rcases h with ⟨-, h1, h2⟩ | ⟨h1, -⟩
  · exact ⟨h1, h2⟩
  · exact absurd h1 (by decide)
theorem step3 : ∀ P2 A2, Step 4 M2 [2, 1, 0, 3] [2, 1, 0, 3] 3 1 P2 A2 → P2 = [1, 3, 0, 2] ∧ A2 = [2, 0, 3, 1] := fun P2 A2 h =>
  h.known (by decide) (back := [2, 3]) (fore := [1]) (pl := [1, 2, 3]) (IsPart.of [3, 0] [2, 3] (by decide) (fun y hy => by
    have : y = 3 ∨ y = 0 := by simpa using hy
    rcases this with rfl | rfl
    · exact .refl _
    · exact .step (.refl _) (by decide) (by decide)) (by decide) (by decide) (by decide)) (IsPart.of [1] [1] (by decide) (fun y hy => by
    have : y = 1 := by simpa using hy
    subst this; exact .refl _) (by decide) (by decide) (by decide)) (by decide) (by decide)
theorem nopath1 : ¬ Path M0 0 2 := fun h => by
  have := h.stuck (by decide)
  simp at this
theorem nopath2 : ¬ Path M1 3 0 := fun h => by
  have := h.stuck (by decide)
  simp at this
theorem path3 : Path M2 2 3 := .step (x := 0) (by unfold Gr.E; decide) (.step (x := 3) (by unfold Gr.E; decide) (.refl 3))
theorem nopath4 : ¬ Path M2 1 3 := fun h => by
  have := h.stuck (by decide)
  simp at this
theorem puts_c {w : World} {v : Value} {u x c k : Int} {Q : World → Prop} (h : Calls Try.prog 10 #[v, .int .i64 u, .int .i64 x] w fun e w' => e = .returned (.tuple #[.int .i64 c, .int .i64 k]) ∧ Q w') :
    Calls Try.prog 39 #[v, .int .i64 u, .int .i64 x, .int .i64 c, .int .i64 k] w fun e w' => e = .returned (.bool true) ∧ Q w' := by
  have HH := Lib.hid h
  clear h
  go_enter Try.func39, Try.ntmps39
  go_wp2_with fail
  refine Calls.mono HH.out ?_
  rintro e w' ⟨rfl, hq⟩
  have HQ := Lib.hid hq
  clear HH hq
  have e1 : (c == c) = true := by simp
  have e2 : (k == k) = true := by simp
  go_wp2_with fail
  go_ret
  exact ⟨rfl, HQ.out⟩
theorem list_c {w : World} {B o n : Nat} {L : List (List Int)} {P A : List Nat} (h : OS w B o n L P A) (hn : n ≤ 30000) (l : List Int) (hl : zs A = l) (m : Nat) (hm : m = l.length) : Calls Try.prog 26 #[.pointer (some ⟨o, 0, none⟩)] w (NumsC w l m) :=
  (list_o h.at_ h.perm hn).mono fun e w' h => h.c hl hm
set_option maxRecDepth 100000 in
set_option maxHeartbeats 4000000 in
theorem awakeO_any (w : World) : Calls Try.prog 14 #[] w fun e w' => e = .returned (.bool true) ∧ Below w.heap.size w w' := by
  have HNW := Lib.hid (newO_any 4 w)
  go_enter Try.func14, Try.ntmps14
  go_wp2_with fail
  refine Calls.mono HNW.out ?_
  intro e w1 h1
  obtain ⟨o, rfl, G1, B1⟩ := OS.new_ (n := 4) h1 (by decide)
  have G1 : OS w1 w.heap.size o 4 M0 [0, 1, 2, 3] [0, 1, 2, 3] := G1
  have HG1 := Lib.hid G1
  have HB1 := Lib.hid B1
  clear HNW G1 B1 h1
  go_wp2_with fail
  refine Calls.mono (puts_c (put_oc HG1.out (by decide) HB1.out.size 2 0 (by decide) (by decide) (by decide) M1 [2, 1, 0, 3] [2, 1, 0, 3] 2 nopath1 (by decide) step1 (by decide))) ?_
  rintro e w2 ⟨rfl, G2, B2⟩
  have HG2 := Lib.hid G2
  have HB2 := Lib.hid (HB1.out.trans B2)
  clear HG1 HB1 G2 B2
  go_wp2_with fail
  refine Calls.mono (list_c HG2.out (by decide) [2, 1, 0, 3] (by decide) 4 rfl) ?_
  rintro e w3 ⟨A3, c3, rfl, o3, B3⟩
  have HG3 := Lib.hid (HG2.out.below B3)
  have HB3 := Lib.hid (HB2.out.trans (B3.mono HB2.out.size))
  have HO3 := Lib.hid o3
  clear HG2 HB2 B3 o3
  go_wp2_with fail
  have HBL := Lib.hid (Blk.new_ w3 3 (iv [2, 1, 0, 3]).toArray (n := w3.heap.size) rfl)
  refine Calls.mono (ints_c (HO3.out.alloc _) HBL.out rfl) ?_
  rintro e w4 ⟨rfl, B4⟩
  have B4' := ((Below.refl w3.heap.size w3).alloc (Nat.le_refl _) (.cells (iv [2, 1, 0, 3]).toArray 3)).trans (B4.mono (by simp))
  have HG4 := Lib.hid (HG3.out.below B4')
  have HB4 := Lib.hid (HB3.out.trans (B4'.mono HB3.out.size))
  clear HG3 HB3 HO3 HBL B4 B4'
  rw [show decide (([2, 1, 0, 3] : List Int) = [2, 1, 0, 3]) = true by decide]
  go_wp2_with fail
  refine Calls.mono (puts_c (put_oc HG4.out (by decide) HB4.out.size 0 3 (by decide) (by decide) (by decide) M2 [2, 1, 0, 3] [2, 1, 0, 3] 0 nopath2 (by decide) step2 (by decide))) ?_
  rintro e w5 ⟨rfl, G5, B5⟩
  have HG5 := Lib.hid G5
  have HB5 := Lib.hid (HB4.out.trans B5)
  clear HG4 HB4 G5 B5
  go_wp2_with fail
  refine Calls.mono (puts_c (put_ocyc HG5.out (by decide) 3 2 (by decide) (by decide) (by decide) path3)) ?_
  rintro e w6 ⟨rfl, B6⟩
  have HG6 := Lib.hid (HG5.out.below B6)
  have HB6 := Lib.hid (HB5.out.trans (B6.mono HB5.out.size))
  clear HG5 HB5 B6
  go_wp2_with fail
  refine Calls.mono (puts_c (put_oc HG6.out (by decide) HB6.out.size 3 1 (by decide) (by decide) (by decide) M3 [1, 3, 0, 2] [2, 0, 3, 1] 3 nopath4 (by decide) step3 (by decide))) ?_
  rintro e w7 ⟨rfl, G7, B7⟩
  have HG7 := Lib.hid G7
  have HB7 := Lib.hid (HB6.out.trans B7)
  clear HG6 HB6 G7 B7
  go_wp2_with fail
  refine Calls.mono (list_c HG7.out (by decide) [2, 0, 3, 1] (by decide) 4 rfl) ?_
  rintro e w8 ⟨A8, c8, rfl, o8, B8⟩
  have HB8 := Lib.hid (HB7.out.trans (B8.mono HB7.out.size))
  have HO8 := Lib.hid o8
  clear HG7 HB7 B8 o8
  go_wp2_with fail
  have HBL := Lib.hid (Blk.new_ w8 3 (iv [2, 0, 3, 1]).toArray (n := w8.heap.size) rfl)
  refine Calls.mono (ints_c (HO8.out.alloc _) HBL.out rfl) ?_
  rintro e w9 ⟨rfl, B9⟩
  have B9' := ((Below.refl w8.heap.size w8).alloc (Nat.le_refl _) (.cells (iv [2, 0, 3, 1]).toArray 3)).trans (B9.mono (by simp))
  have HB9 := Lib.hid (HB8.out.trans (B9'.mono HB8.out.size))
  clear HB8 HO8 HBL B9 B9'
  rw [show decide (([2, 0, 3, 1] : List Int) = [2, 0, 3, 1]) = true by decide]
  go_wp2_with fail
  go_ret
  exact ⟨rfl, HB9.out⟩
end Go.Proofs.Ytpikdjaedbogdaa.OrW
