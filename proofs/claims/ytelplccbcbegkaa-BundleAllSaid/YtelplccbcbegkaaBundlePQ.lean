/-
  Two orders beside each other, and edges that lie apart of both.
-/
import Derived.Test.YtelplccbcbegkaaBundleCyclesWalk
namespace Go.Proofs.Ytelplccbcbegkaa.OrW
set_option linter.unusedVariables false
open Go Go.RowKit Go.Maps Go.Proofs Go.Proofs.Ytelplccbcbegkaa Go.Proofs.Ytelplccbcbegkaa.Wd Go.Proofs.Ytelplccbcbegkaa.GrW Go.Proofs.Ytelplccbcbegkaa.Ord
open Go.Proofs.Ytelplccbcbegkaa.Gr (OK putL outs intos Path edgesTo ev)

theorem OAt.more {w : World} {base base' o n : Nat} {F : Nat → Prop} {L : List (List Int)} {P A : List Nat} (h : OAt w base F o n L P A) (hb : base' ≤ base) : OAt w base' F o n L P A := by
  obtain ⟨g, vp, va, Fg, h⟩ := h
  exact ⟨g, vp, va, Fg, { h with far := Nat.le_trans hb h.far, gr := GAt.more h.gr hb, rp := own_base h.rp hb, ra := own_base h.ra hb }⟩
/-- Two orders above what there was, in blocks of their own. -/
structure PQ (w wr : World) (Fp Fq : Nat → Prop) (p np : Nat) (Lp : List (List Int)) (Pp Ap : List Nat) (q nq : Nat) (Lq : List (List Int)) (Pq Aq : List Nat) : Prop where
  p_ : OnF w wr Fp p np Lp Pp Ap
  q_ : OnF w wr Fq q nq Lq Pq Aq
  apart : ∀ k, Fp k → ¬ Fq k
/-- Edges that lie apart of both. -/
structure Apart (wr : World) (Fp Fq : Nat → Prop) (A : Option Addr) (es : List (Int × Int)) : Prop where
  at_ : EdgesAt wr wr.heap.size A es
  lt : ∀ b off, A = some ⟨b, off, none⟩ → b < wr.heap.size
  np : ∀ b off, A = some ⟨b, off, none⟩ → ¬ Fp b
  nq : ∀ b off, A = some ⟨b, off, none⟩ → ¬ Fq b
section
variable {w wr w' : World} {Fp Fq : Nat → Prop} {p np q nq : Nat} {Lp Lq : List (List Int)} {Pp Ap Pq Aq : List Nat} {A : Option Addr} {es : List (Int × Int)}
theorem PQ.below (h : PQ w wr Fp Fq p np Lp Pp Ap q nq Lq Pq Aq) (hb : Below wr.heap.size wr w') : PQ w w' Fp Fq p np Lp Pp Ap q nq Lq Pq Aq := ⟨h.p_.below hb, h.q_.below hb, h.apart⟩
theorem PQ.updP {n' : Nat} {L' : List (List Int)} {P' A' : List Nat} (h : PQ w wr Fp Fq p np Lp Pp Ap q nq Lq Pq Aq) (hu : OUpd w.heap.size Fp p n' L' P' A' wr w') : ∃ F', PQ w w' F' Fq p n' L' P' A' q nq Lq Pq Aq ∧ Fr Fp wr w' ∧ ∀ k, F' k → Fp k ∨ wr.heap.size ≤ k := by
  obtain ⟨F', h1, h2, h3⟩ := h.p_.upd hu
  refine ⟨F', ⟨h1, ⟨h.q_.ord.fr h2 (fun k e e2 => h.apart k e2 e), fun k e => ⟨(h.q_.f1 k e).1, Nat.lt_of_lt_of_le (h.q_.f1 k e).2 h2.size⟩, h1.low⟩, fun k e e2 => ?_⟩, h2, h3⟩
  rcases h3 k e with e | e
  · exact h.apart k e e2
  · have := (h.q_.f1 k e2).2; omega
theorem PQ.swap (h : PQ w wr Fp Fq p np Lp Pp Ap q nq Lq Pq Aq) : PQ w wr Fq Fp q nq Lq Pq Aq p np Lp Pp Ap := ⟨h.q_, h.p_, fun k e e2 => h.apart k e2 e⟩
theorem Apart.below (h : Apart wr Fp Fq A es) (hb : Below wr.heap.size wr w') : Apart w' Fp Fq A es := ⟨(h.at_.below hb).more' hb.size, fun b off e => Nat.lt_of_lt_of_le (h.lt b off e) hb.size, h.np, h.nq⟩
theorem Apart.swap (h : Apart wr Fp Fq A es) : Apart wr Fq Fp A es := ⟨h.at_, h.lt, h.nq, h.np⟩
theorem Apart.upd {F' : Nat → Prop} (h : Apart wr Fp Fq A es) (hf : Fr Fp wr w') (hF : ∀ k, F' k → Fp k ∨ wr.heap.size ≤ k) : Apart w' F' Fq A es := by
  refine ⟨fun j hj => ?_, fun b off e => Nat.lt_of_lt_of_le (h.lt b off e) hf.size, fun b off e e2 => ?_, h.nq⟩
  · obtain ⟨b, off, e, hb, h1, h2⟩ := h.at_ j hj
    have hk : ∀ o, w'.cell? ⟨b, o, none⟩ = wr.cell? ⟨b, o, none⟩ := fun o => World.cell?_of_block (w := wr) (a := ⟨b, o, none⟩) (hf.block b hb (h.np b off e))
    exact ⟨b, off, e, Nat.lt_of_lt_of_le hb hf.size, (hk _).trans h1, (hk _).trans h2⟩
  · rcases hF b e2 with e3 | e3
    · exact h.np b off e e3
    · have := h.lt b off e; omega
/-- A bundle put upon the first. -/
theorem PQ.put (h : PQ w wr Fp Fq p np Lp Pp Ap q nq Lq Pq Aq) (hs : OSt np Lp Pp Ap) (hn : np ≤ 10000) (more : Int) (hE : Apart wr Fp Fq A es) (m c : Nat) (hm : m = es.length) (hm1 : m ≤ 1000000) :
    Calls Try.prog 19 #[.pointer (some ⟨p, 0, none⟩), .int .i64 more, .slice A m c] wr fun e w' => ∃ ch k : Nat, e = .returned (.tuple #[.int .i64 (ch : Nat), .int .i64 (k : Nat)]) ∧ FitsC np Lp Pp Ap more es k ∧
      ∃ F' n' L' P' A', PQ w w' F' Fq p n' L' P' A' q nq Lq Pq Aq ∧ OSt n' L' P' A' ∧ Fr Fp wr w' ∧ (∀ k, F' k → Fp k ∨ wr.heap.size ≤ k) ∧ ((k ≠ 0 ∧ n' = np ∧ L' = Lp) ∨ (k = 0 ∧ canGrow np more = true ∧ n' = np + more.toNat ∧ ∃ P2 A2, Ran (np + more.toNat) (growL Lp more.toNat) (gro Pp np more.toNat) (gro Ap np more.toNat) es L' P2 A2)) := by
  refine (bput_any wr w.heap.size p np Fp Lp Pp Ap h.p_.ord hs hn more hs.hok A m c es hm hm1 hE.at_ hE.lt hE.np).mono ?_
  rintro e w' ⟨k, hf, hc⟩
  rcases hc with ⟨hk, rfl, hb⟩ | ⟨rfl, hg, L', P', A', hr, rfl, hu⟩
  · exact ⟨0, k, rfl, hf, Fp, np, Lp, Pp, Ap, h.below hb, hs, Fr.of_below hb, fun k e => .inl e, .inl ⟨hk, rfl, rfl⟩⟩
  · obtain ⟨F', h1, h2, h3⟩ := h.updP hu
    exact ⟨_, 0, rfl, hf, F', _, L', P', A', h1, hr.st (hs.gro more.toNat), h2, h3, .inr ⟨rfl, hg, rfl, P', A', hr⟩⟩
end
/-- What a bundle leaves, whatever order behind it is at hand. -/
theorem fits0 {n t : Nat} {L : List (List Int)} {P A : List Nat} {es : List (Int × Int)} {k : Nat} (h : FitsC n L P A (t : Int) es k) (hn : n + t ≤ 10000) : ∃ i L' P' A', Went (n + t) (growL L t) (gro P n t) (gro A n t) es i k L' P' A' := by
  unfold FitsC at h
  rw [if_pos (by unfold canGrow; simp; omega), Int.toNat_natCast] at h
  exact h
end Go.Proofs.Ytelplccbcbegkaa.OrW
