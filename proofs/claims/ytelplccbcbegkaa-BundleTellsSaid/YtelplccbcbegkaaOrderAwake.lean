/-
  The walk of awake: the chapter's own examples.
-/
import Derived.Test.YtelplccbcbegkaaOrderNew
import Derived.Test.YtelplccbcbegkaaOrderPut
namespace Go.Proofs.Ytelplccbcbegkaa.Ord
set_option linter.unusedVariables false
open Go.Proofs.Ytelplccbcbegkaa.Gr (E Path Inside OK outs intos Cyc putL)

theorem nrise_ext : ∀ {a b : List Nat}, a.Pairwise (· < ·) → b.Pairwise (· < ·) → (∀ x, x ∈ a ↔ x ∈ b) → a = b
  | [], [], _, _, _ => rfl
  | [], y :: b, _, _, h => by have := (h y).2 (List.mem_cons_self ..); simp at this
  | x :: a, [], _, _, h => by have := (h x).1 (List.mem_cons_self ..); simp at this
  | x :: a, y :: b, ha, hb, h => by
    have pa := List.pairwise_cons.1 ha
    have pb := List.pairwise_cons.1 hb
    have e : x = y := by
      have h1 := (h x).1 (List.mem_cons_self ..)
      have h2 := (h y).2 (List.mem_cons_self ..)
      rw [List.mem_cons] at h1 h2
      rcases h1 with h1 | h1
      · exact h1
      · rcases h2 with h2 | h2
        · exact h2.symm
        · have e1 := pb.1 x h1
          have e2 := pa.1 y h2
          omega
    subst e
    rw [nrise_ext pa.2 pb.2 (fun z => by
      have := h z
      rw [List.mem_cons, List.mem_cons] at this
      constructor
      · intro hz
        exact (this.1 (.inr hz)).resolve_left (fun e => by have := pa.1 z hz; omega)
      · intro hz
        exact (this.2 (.inr hz)).resolve_left (fun e => by have := pb.1 z hz; omega))]
theorem IsPart.uniq {nx : Nat → List Int} {q : Nat → Bool} {P : List Nat} {u : Nat} {l m : List Nat} (h : IsPart nx q P u l) (k : IsPart nx q P u m) : l = m := nrise_ext h.1 k.1 fun x => by rw [h.2, k.2]
/-- A part, by the vertices in it. -/
theorem IsPart.of {nx : Nat → List Int} {q : Nat → Bool} {P : List Nat} {u : Nat} (V l : List Nat) (hu : u ∈ V) (hV : ∀ y ∈ V, Way nx q u y) (hc : ∀ y ∈ V, ∀ z ∈ nx y, 0 ≤ z ∧ (q z.toNat = true → z.toNat ∈ V)) (hl : l.Pairwise (· < ·)) (hm : l.Perm (V.map fun y => P.getD y 0)) : IsPart nx q P u l := by
  have key : ∀ y, Way nx q u y → y ∈ V := fun y hw => by
    induction hw with
    | refl => exact hu
    | step _ h2 h3 ih =>
      have := (hc _ ih _ h2).2
      rw [Int.toNat_natCast] at this
      exact this h3
  refine ⟨hl, fun p => ?_⟩
  rw [hm.mem_iff, List.mem_map]
  exact ⟨fun ⟨y, h1, h2⟩ => ⟨y, hV y h1, h2⟩, fun ⟨y, h1, h2⟩ => ⟨y, key y h1, h2⟩⟩
theorem perm_rise {a b l : List Nat} (ha : a.Pairwise (· < ·)) (hb : b.Pairwise (· < ·)) (h1 : a.Perm l) (h2 : b.Perm l) : a = b := nrise_ext ha hb fun x => by rw [h1.mem_iff, h2.mem_iff]
/-- A step, where all is known. -/
theorem Step.known {n : Nat} {L : List (List Int)} {P A P' A' : List Nat} {u v : Nat} (h : Step n L P A u v P' A') (hlt : P.getD v 0 < P.getD u 0) {back fore pl : List Nat} (hb : IsPart (intos L) (fun y => decide (P.getD v 0 ≤ P.getD y 0)) P u back) (hf : IsPart (outs L) (fun y => decide (P.getD y 0 ≤ P.getD u 0)) P v fore) (hr : pl.Pairwise (· < ·)) (hp : pl.Perm (back ++ fore)) : P' = newP P A back fore pl ∧ A' = newA A back fore pl := by
  rcases h with ⟨h1, -⟩ | ⟨-, b, f, p, h2, h3, h4, h5, rfl, rfl⟩
  · omega
  · have e1 := h2.uniq hb
    have e2 := h3.uniq hf
    subst e1 e2
    have e3 := perm_rise h4 hr h5 hp
    subst e3
    exact ⟨rfl, rfl⟩
end Go.Proofs.Ytelplccbcbegkaa.Ord
namespace Go.Proofs.Ytelplccbcbegkaa.OrW
set_option linter.unusedVariables false
open Go Go.RowKit Go.Proofs Go.Proofs.Ytelplccbcbegkaa Go.Proofs.Ytelplccbcbegkaa.Wd Go.Proofs.Ytelplccbcbegkaa.GrW Go.Proofs.Ytelplccbcbegkaa.Ord
open Go.Proofs.Ytelplccbcbegkaa.Gr (OK putL outs intos Path)

/-- An order, well formed, above B. -/
structure OS (w : World) (B o n : Nat) (L : List (List Int)) (P A : List Nat) : Prop where
  at_ : OAt w B (fun j => B ≤ j) o n L P A
  ok : OK n L
  perm : Perm n P A
  up : Up L P
theorem OS.below {w w' : World} {B o n : Nat} {L : List (List Int)} {P A : List Nat} (h : OS w B o n L P A) (hb : Below w.heap.size w w') : OS w' B o n L P A := { h with at_ := h.at_.below hb }
theorem OS.new_ {w w' : World} {n : Nat} {e : Ending} (h : ONewOut w n e w') (hn : n ≤ 10000) : ∃ o, e = .returned (.tuple #[.pointer (some ⟨o, 0, none⟩), .int .i64 0]) ∧ OS w' w.heap.size o n (List.replicate (2 * n) []) (List.range n) (List.range n) ∧ Below w.heap.size w w' := by
  unfold ONewOut at h
  rw [if_pos (by omega), Int.toNat_natCast] at h
  obtain ⟨o, h1, h2, h3⟩ := h
  exact ⟨o, h1, ⟨h2, OK.empty n, Perm.start n, fun x y he => by
    have := (OK.empty n).edge_lt he
    unfold Gr.E at he
    have e : (List.replicate (2 * n) ([] : List Int)).getD (2 * x) [] = [] := by simp [List.getD, List.getElem?_replicate]; split <;> rfl
    rw [e] at he; simp at he⟩, h3⟩
/-- Put, where all is known. -/
theorem put_oc {w : World} {B o n : Nat} {L : List (List Int)} {P A : List Nat} (h : OS w B o n L P A) (hn : n ≤ 15000) (hs : B ≤ w.heap.size) (u v : Nat) (hu : u < n) (hv : v < n) (hne : u ≠ v) (L' : List (List Int)) (P' A' : List Nat) (c : Nat) (hc : ¬ Path L v u) (hL : putL L u v = L') (hst : ∀ P2 A2, Step n L P A u v P2 A2 → P2 = P' ∧ A2 = A') (hm : moved n P P' = c) :
    Calls Try.prog 30 #[.pointer (some ⟨o, 0, none⟩), .int .i64 (u : Nat), .int .i64 (v : Nat)] w fun e w' => e = .returned (.tuple #[.int .i64 (c : Nat), .int .i64 0]) ∧ OS w' B o n L' P' A' ∧ Below B w w' := by
  refine (putV_any w B o n _ L P A h.at_ h.ok h.perm h.up hn u v hu hv hne).mono ?_
  rintro e w' (⟨h1, -⟩ | ⟨-, P2, A2, h2, rfl, h4⟩)
  · exact absurd h1 hc
  · obtain ⟨rfl, rfl⟩ := hst _ _ h2
    have ht := h2.turned h.ok h.perm h.up hu hv hc
    obtain ⟨q1, q2⟩ := h4.low (fun k e => e) hs
    rw [hL] at q1
    refine ⟨by rw [hm], ⟨q1, by rw [← hL]; exact h.ok.put hu hv hne, ht.perm, by rw [← hL]; exact ht.up⟩, q2⟩
theorem put_ocyc {w : World} {B o n : Nat} {L : List (List Int)} {P A : List Nat} (h : OS w B o n L P A) (hn : n ≤ 15000) (u v : Nat) (hu : u < n) (hv : v < n) (hne : u ≠ v) (hc : Path L v u) :
    Calls Try.prog 30 #[.pointer (some ⟨o, 0, none⟩), .int .i64 (u : Nat), .int .i64 (v : Nat)] w fun e w' => e = .returned (.tuple #[.int .i64 0, .int .i64 25]) ∧ Below w.heap.size w w' := by
  refine (putV_any w B o n _ L P A h.at_ h.ok h.perm h.up hn u v hu hv hne).mono ?_
  rintro e w' (⟨-, h1, h2⟩ | ⟨h1, -⟩)
  · exact ⟨h1, h2⟩
  · exact absurd hc h1
def M0 : List (List Int) := [[], [], [], [], [], [], [], []]
def M1 : List (List Int) := [[], [2], [], [], [0], [], [], []]
def M2 : List (List Int) := [[3], [2], [], [], [0], [], [], [0]]
def M3 : List (List Int) := [[3], [2], [], [3], [0], [], [1], [0]]
theorem step1 : ∀ P2 A2, Step 4 M0 [0, 1, 2, 3] [0, 1, 2, 3] 2 0 P2 A2 → P2 = [2, 1, 0, 3] ∧ A2 = [2, 1, 0, 3] := fun P2 A2 h =>
  h.known (by decide) (back := [2]) (fore := [0]) (pl := [0, 2]) (IsPart.of [2] [2] (by decide) (fun y hy => by
    have : y = 2 := by simpa using hy
    subst this; exact .refl _) (by decide) (by decide) (by decide)) (IsPart.of [0] [0] (by decide) (fun y hy => by
    have : y = 0 := by simpa using hy
    subst this; exact .refl _) (by decide) (by decide) (by decide)) (by decide) (by decide)
theorem step2 : ∀ P2 A2, Step 4 M1 [2, 1, 0, 3] [2, 1, 0, 3] 0 3 P2 A2 → P2 = [2, 1, 0, 3] ∧ A2 = [2, 1, 0, 3] := fun P2 A2 h => by
  rcases h with ⟨-, h1, h2⟩ | ⟨h1, -⟩
  · exact ⟨h1, h2⟩
  · exact absurd h1 (by decide)
theorem step3 : ∀ P2 A2, Step 4 M2 [2, 1, 0, 3] [2, 1, 0, 3] 3 1 P2 A2 → P2 = [1, 3, 0, 2] ∧ A2 = [2, 0, 3, 1] := fun P2 A2 h =>
  h.known (by decide) (back := [2, 3]) (fore := [1]) (pl := [1, 2, 3]) (IsPart.of [3, 0] [2, 3] (by decide) (fun y hy => by
    have : y = 3 ∨ y = 0 := by simpa using hy
    rcases this with rfl | rfl
    · exact .refl _
    · exact .step (.refl _) (by decide) (by decide)) (by decide) (by decide) (by decide)) (IsPart.of [1] [1] (by decide) (fun y hy => by
    have : y = 1 := by simpa using hy
    subst this; exact .refl _) (by decide) (by decide) (by decide)) (by decide) (by decide)
theorem nopath1 : ¬ Path M0 0 2 := fun h => by
  have := h.stuck (by decide)
  simp at this
theorem nopath2 : ¬ Path M1 3 0 := fun h => by
  have := h.stuck (by decide)
  simp at this
theorem path3 : Path M2 2 3 := .step (x := 0) (by unfold Gr.E; decide) (.step (x := 3) (by unfold Gr.E; decide) (.refl 3))
theorem nopath4 : ¬ Path M2 1 3 := fun h => by
  have := h.stuck (by decide)
  simp at this
theorem list_c {w : World} {B o n : Nat} {L : List (List Int)} {P A : List Nat} (h : OS w B o n L P A) (hn : n ≤ 30000) (l : List Int) (hl : zs A = l) (m : Nat) (hm : m = l.length) : Calls Try.prog 16 #[.pointer (some ⟨o, 0, none⟩)] w (NumsC w l m) :=
  (list_o h.at_ h.perm hn).mono fun e w' h => h.c hl hm
end Go.Proofs.Ytelplccbcbegkaa.OrW
