/-
  An order's Put at whatever two vertices; an order beside a graph.
-/
import Derived.Test.YtelplccbcbegkaaOrderAwake
namespace Go.Proofs.Ytelplccbcbegkaa.Ord
set_option linter.unusedVariables false
open Go.Proofs.Ytelplccbcbegkaa.Gr (E Path Inside OK outs intos Cyc putL)

/-- Well formed: vertices and places, each edge up. -/
structure OSt (n : Nat) (L : List (List Int)) (P A : List Nat) : Prop where
  ok : OK n L
  perm : Perm n P A
  up : Up L P
theorem OSt.start (n : Nat) : OSt n (List.replicate (2 * n) []) (List.range n) (List.range n) := ⟨OK.empty n, Perm.start n, fun x y he => by
  unfold E at he
  have e : (List.replicate (2 * n) ([] : List Int)).getD (2 * x) [] = [] := by simp [List.getD, List.getElem?_replicate]; split <;> rfl
  rw [e] at he; simp at he⟩
/-- What is told of an edge that is put, and what there is then. -/
def Put1 (n : Nat) (L : List (List Int)) (P A : List Nat) (u v c k : Nat) (L' : List (List Int)) (P' A' : List Nat) : Prop :=
  (k = 25 ∧ c = 0 ∧ Path L v u ∧ L' = L ∧ P' = P ∧ A' = A) ∨ (k = 0 ∧ c = moved n P P' ∧ ¬ Path L v u ∧ u ≠ v ∧ L' = putL L u v ∧ Step n L P A u v P' A')
theorem Put1.st {n : Nat} {L L' : List (List Int)} {P A P' A' : List Nat} {u v c k : Nat} (h : Put1 n L P A u v c k L' P' A') (hs : OSt n L P A) (hu : u < n) (hv : v < n) : OSt n L' P' A' := by
  rcases h with ⟨-, -, -, rfl, rfl, rfl⟩ | ⟨-, -, h1, h2, rfl, h3⟩
  · exact hs
  · have := h3.turned hs.ok hs.perm hs.up hu hv h1
    exact ⟨hs.ok.put hu hv h2, this.perm, this.up⟩
theorem moved_le (n : Nat) (P Q : List Nat) : moved n P Q ≤ n := by
  unfold moved
  exact Nat.le_trans List.countP_le_length (by simp)
theorem Put1.few {n : Nat} {L L' : List (List Int)} {P A P' A' : List Nat} {u v c k : Nat} (h : Put1 n L P A u v c k L' P' A') : c ≤ n := by
  rcases h with ⟨-, rfl, -⟩ | ⟨-, rfl, -⟩
  · omega
  · exact moved_le _ _ _
theorem Put1.code {n : Nat} {L L' : List (List Int)} {P A P' A' : List Nat} {u v c k : Nat} (h : Put1 n L P A u v c k L' P' A') : (k = 25 ↔ Path L v u) ∧ (k = 0 ∨ k = 25) := by
  rcases h with ⟨rfl, -, h, -⟩ | ⟨rfl, -, h, -⟩
  · exact ⟨by simp [h], .inr rfl⟩
  · exact ⟨⟨fun e => by omega, fun e => absurd e h⟩, .inl rfl⟩
end Go.Proofs.Ytelplccbcbegkaa.Ord
namespace Go.Proofs.Ytelplccbcbegkaa.OrW
set_option linter.unusedVariables false
open Go Go.RowKit Go.Proofs Go.Proofs.Ytelplccbcbegkaa Go.Proofs.Ytelplccbcbegkaa.Wd Go.Proofs.Ytelplccbcbegkaa.GrW Go.Proofs.Ytelplccbcbegkaa.Ord
open Go.Proofs.Ytelplccbcbegkaa.Gr (OK putL outs intos Path edgesTo)

theorem putOS_any {w : World} {base o n : Nat} {F : Nat → Prop} {L : List (List Int)} {P A : List Nat} (h : OAt w base F o n L P A) (hs : OSt n L P A) (hn : n ≤ 15000) (u v : Nat) (hu : u < n) (hv : v < n) :
    Calls Try.prog 30 #[.pointer (some ⟨o, 0, none⟩), .int .i64 (u : Nat), .int .i64 (v : Nat)] w fun e w' => ∃ c k L' P' A', e = .returned (.tuple #[.int .i64 (c : Nat), .int .i64 (k : Nat)]) ∧ Put1 n L P A u v c k L' P' A' ∧ OUpd base F o n L' P' A' w w' := by
  by_cases e : u = v
  · subst e
    refine (putO_self w base o n F L P A h (u : Nat) (by unfold isV; simp; omega)).mono ?_
    rintro e w' ⟨rfl, rfl⟩
    exact ⟨0, 25, L, P, A, rfl, .inl ⟨rfl, rfl, .refl _, rfl, rfl, rfl⟩, OUpd.refl h⟩
  · refine (putV_any w base o n F L P A h hs.ok hs.perm hs.up hn u v hu hv e).mono ?_
    rintro e' w' (⟨h1, rfl, h3⟩ | ⟨h1, P', A', h2, rfl, h4⟩)
    · exact ⟨0, 25, L, P, A, rfl, .inl ⟨rfl, rfl, h1, rfl, rfl, rfl⟩, OUpd.below h h3⟩
    · exact ⟨_, 0, _, P', A', rfl, .inr ⟨rfl, rfl, h1, e, rfl, h2⟩, h4⟩
/-- An order and a graph, above what there was, in blocks of their own. -/
structure BothF (w wr : World) (F1 F2 : Nat → Prop) (o g M : Nat) (L : List (List Int)) (P A : List Nat) (G : List (List Int)) : Prop where
  ord : OAt wr w.heap.size F1 o M L P A
  gr : GAt wr w.heap.size F2 g M G
  f1 : ∀ k, F1 k → w.heap.size ≤ k ∧ k < wr.heap.size
  f2 : ∀ k, F2 k → w.heap.size ≤ k ∧ k < wr.heap.size
  apart : ∀ k, F1 k → ¬ F2 k
  low : Below w.heap.size w wr
section
variable {w wr w' : World} {F1 F2 : Nat → Prop} {o g M : Nat} {L G : List (List Int)} {P A : List Nat}
theorem BothF.below (h : BothF w wr F1 F2 o g M L P A G) (hb : Below wr.heap.size wr w') : BothF w w' F1 F2 o g M L P A G where
  ord := h.ord.below hb
  gr := h.gr.below hb
  f1 := fun k e => ⟨(h.f1 k e).1, Nat.lt_of_lt_of_le (h.f1 k e).2 hb.size⟩
  f2 := fun k e => ⟨(h.f2 k e).1, Nat.lt_of_lt_of_le (h.f2 k e).2 hb.size⟩
  apart := h.apart
  low := h.low.trans (hb.mono h.low.size)
theorem BothF.updO {L' : List (List Int)} {P' A' : List Nat} (h : BothF w wr F1 F2 o g M L P A G) (hu : OUpd w.heap.size F1 o M L' P' A' wr w') : ∃ F', BothF w w' F' F2 o g M L' P' A' G ∧ Fr F1 wr w' := by
  obtain ⟨F', q1, q2, q3⟩ := hu
  refine ⟨_, ⟨q1.exist, h.gr.fr q2 (fun k e e2 => h.apart k e2 e), fun k e => ⟨?_, e.2⟩, fun k e => ⟨(h.f2 k e).1, Nat.lt_of_lt_of_le (h.f2 k e).2 q2.size⟩, fun k e e2 => ?_, h.low.trans (q2.low (fun k e => (h.f1 k e).1) h.low.size)⟩, q2⟩
  · rcases q3 k e.1 with e | e
    · exact (h.f1 k e).1
    · exact Nat.le_trans h.low.size e
  · rcases q3 k e.1 with e | e
    · exact h.apart k e e2
    · have := (h.f2 k e2).2; omega
theorem BothF.updG {G' : List (List Int)} (h : BothF w wr F1 F2 o g M L P A G) (hu : Upd w.heap.size F2 g M G' wr w') : ∃ F', BothF w w' F1 F' o g M L P A G' ∧ Fr F2 wr w' := by
  obtain ⟨F', q1, q2, q3⟩ := hu
  refine ⟨_, ⟨h.ord.fr q2 (fun k e e2 => h.apart k e e2), q1.exist, fun k e => ⟨(h.f1 k e).1, Nat.lt_of_lt_of_le (h.f1 k e).2 q2.size⟩, fun k e => ⟨?_, e.2⟩, fun k e e2 => ?_, h.low.trans (q2.low (fun k e => (h.f2 k e).1) h.low.size)⟩, q2⟩
  · rcases q3 k e.1 with e | e
    · exact (h.f2 k e).1
    · exact Nat.le_trans h.low.size e
  · rcases q3 k e2.1 with e3 | e3
    · exact h.apart k e e3
    · have := (h.f1 k e).2; omega
theorem putG_any {base : Nat} (h : GAt wr base F2 g M G) (ok : OK M G) (hn : M ≤ 30000) (hb : base ≤ wr.heap.size) (u v : Nat) (hu : u < M) (hv : v < M) (hne : u ≠ v) :
    Calls Try.prog 33 #[.pointer (some ⟨g, 0, none⟩), .int .i64 (u : Nat), .int .i64 (v : Nat)] wr fun e w' => ∃ b : Bool, e = .returned (.tuple #[.bool b, .int .i64 0]) ∧ Upd base F2 g M (putL G u v) wr w' := by
  refine (put_all wr base g M F2 G h (ok.rises hn) hb u v).mono ?_
  intro e w' h1
  unfold PutOut at h1
  rw [if_pos (by unfold canPut isV; simp; omega), Int.toNat_natCast, Int.toNat_natCast] at h1
  exact ⟨_, h1⟩
end
end Go.Proofs.Ytelplccbcbegkaa.OrW
