/-
  A disk, and the document's beside it in a box: what stays when one of them turns.
-/
import Derived.Test.YtpohefpiidlnjaaDiskRef5
import Derived.Test.YtpohefpiidlnjaaDiskRef7
import Derived.Test.YtpohefpiidlnjaaDiskRef8
namespace Go.Proofs.Ytpohefpiidlnjaa.Dr
set_option linter.unusedVariables false
open Go Go.RowKit Go.Proofs Go.Proofs.Ytpohefpiidlnjaa Go.Proofs.Ytpohefpiidlnjaa.Wd
open Go.Proofs.Ytpohefpiidlnjaa.Dk (DS upd upd_eq upd_ne Ok newD At)

/-- A disk at g, and the document's in the box bm; E: blocks that are the caller's own. -/
structure TD (w wr : World) (E F : Nat → Prop) (g : Nat) (s : DS) (bm : Nat) (v : Nat → Sl) (cl k : Int) : Prop where
  at_ : At wr w.heap.size F g s
  box : Blk wr bm 69 (rcells s v cl k)
  boxL : w.heap.size ≤ bm
  boxF : ¬ F bm
  rv : RV wr (fun j => F j ∨ j = bm ∨ E j) s v cl k
  low : Below w.heap.size w wr
  sub : ∀ j, E j → w.heap.size ≤ j ∧ j < wr.heap.size ∧ ¬ F j ∧ j ≠ bm
/-- The document's has gone on; the disk not yet. -/
structure TM (w wr : World) (E F : Nat → Prop) (g : Nat) (s s' : DS) (bm : Nat) (v : Nat → Sl) (cl k : Int) : Prop where
  at_ : At wr w.heap.size F g s
  box : Blk wr bm 69 (rcells s' v cl k)
  boxL : w.heap.size ≤ bm
  boxF : ¬ F bm
  rv : RV wr (fun j => F j ∨ j = bm ∨ E j) s' v cl k
  low : Below w.heap.size w wr
  sub : ∀ j, E j → w.heap.size ≤ j ∧ j < wr.heap.size ∧ ¬ F j ∧ j ≠ bm
section
variable {w wr w2 : World} {E E' F : Nat → Prop} {g bm : Nat} {s s' : DS} {v : Nat → Sl} {cl k : Int}
theorem TD.below (h : TD w wr E F g s bm v cl k) (hb : Below wr.heap.size wr w2) : TD w w2 E F g s bm v cl k :=
  ⟨h.at_.below hb, h.box.below hb h.box.lt, h.boxL, h.boxF, h.rv.below hb, h.low.trans (hb.mono h.low.size), fun j hj => by obtain ⟨h1, h2, h3⟩ := h.sub j hj; exact ⟨h1, Nat.lt_of_lt_of_le h2 hb.size, h3⟩⟩
theorem TM.below (h : TM w wr E F g s s' bm v cl k) (hb : Below wr.heap.size wr w2) : TM w w2 E F g s s' bm v cl k :=
  ⟨h.at_.below hb, h.box.below hb h.box.lt, h.boxL, h.boxF, h.rv.below hb, h.low.trans (hb.mono h.low.size), fun j hj => by obtain ⟨h1, h2, h3⟩ := h.sub j hj; exact ⟨h1, Nat.lt_of_lt_of_le h2 hb.size, h3⟩⟩
theorem TD.lt (h : TD w wr E F g s bm v cl k) : ∀ j, (F j ∨ j = bm ∨ E j) → j < wr.heap.size := fun j hj => by
  rcases hj with hj | rfl | hj
  · exact (h.at_.lt hj).2
  · exact h.box.lt
  · exact (h.sub j hj).2.1
/-- Blocks that were made since are the caller's own. -/
theorem TD.mark (h : TD w wr E F g s bm v cl k) (hb : Below wr.heap.size wr w2) (hE : ∀ j, E' j → E j ∨ (wr.heap.size ≤ j ∧ j < w2.heap.size)) : TD w w2 E' F g s bm v cl k := by
  have h2 := h.below hb
  refine ⟨h2.at_, h2.box, h2.boxL, h2.boxF, (h.rv.less (G := fun j => F j ∨ j = bm ∨ E' j) fun j hj => ?_).below hb, h2.low, fun j hj => ?_⟩
  · rcases hj with hj | hj | hj
    · exact .inl (.inl hj)
    · exact .inl (.inr (.inl hj))
    · exact (hE j hj).elim (fun h => .inl (.inr (.inr h))) (fun h => .inr h.1)
  · rcases hE j hj with h3 | ⟨h3, h4⟩
    · exact h2.sub j h3
    · exact ⟨Nat.le_trans h.low.size h3, h4, fun hf => by have := (h.at_.lt hf).2; omega, fun e => by have := h.box.lt; omega⟩
/-- Of the caller's own blocks some are forgotten. -/
theorem TD.unmark (h : TD w wr E F g s bm v cl k) (hE : ∀ j, E' j → E j) : TD w wr E' F g s bm v cl k :=
  ⟨h.at_, h.box, h.boxL, h.boxF, h.rv.less (fun j hj => .inl (hj.elim .inl fun h => .inr (h.elim .inl fun h => .inr (hE j h)))), h.low, fun j hj => h.sub j (hE j hj)⟩
/-- The caller writes into its own blocks. -/
theorem TD.own (h : TD w wr E F g s bm v cl k) (hf : Fr E wr w2) : TD w w2 E F g s bm v cl k :=
  ⟨h.at_.fr hf (fun j hj he => (h.sub j he).2.2.1 hj), h.box.fr hf (fun he => (h.sub bm he).2.2.2 rfl), h.boxL, h.boxF, h.rv.fr hf (fun j hj => .inl (.inr (.inr hj))), h.low.trans (hf.below h.low.size fun j hj => (h.sub j hj).1), fun j hj => by obtain ⟨h1, h2, h3⟩ := h.sub j hj; exact ⟨h1, Nat.lt_of_lt_of_le h2 hf.size, h3⟩⟩
theorem TD.keep {v' : Nat → Sl} {cl' k' : Int} (h : TD w wr E F g s bm v cl k) (hb : Below wr.heap.size wr w2) (hr : RV w2 (fun j => F j ∨ j = bm ∨ E j) s' v' cl' k') : TM w (w2.setRow bm (rcells s' v' cl' k')) E F g s s' bm v' cl' k' := by
  have h2 := h.below hb
  have hf : Fr (fun j => j = bm) w2 (w2.setRow bm (rcells s' v' cl' k')) := ⟨rfl, rfl, rfl, by simp, fun j hj hne => setRow_other w2 _ j _ hne⟩
  exact ⟨h2.at_.fr hf (fun j hj e => h2.boxF (e ▸ hj)), h2.box.row _, h2.boxL, h2.boxF, hr.fr hf (fun j hj => .inl (.inr (.inl hj))), below_row h2.low h2.boxL _, fun j hj => by simpa using h2.sub j hj⟩
theorem TM.next (h : TM w wr E F g s s' bm v cl k) (hn : Dk.Next wr w.heap.size F g s' w2) : ∃ F', TD w w2 E F' g s' bm v cl k := by
  obtain ⟨F', h1, h2, h3⟩ := hn
  refine ⟨F', h1, h.box.fr h2 h.boxF, h.boxL, fun hf => (h3 bm hf).elim h.boxF (fun e => by have := h.box.lt; omega), ((h.rv.less (G := fun j => F j ∨ F' j ∨ j = bm ∨ E j) ?_).fr h2 (fun j hj => .inl (.inl hj))).less (fun j hj => .inl (.inr hj)), h.low.trans (h2.below h.low.size fun j hj => (h.at_.lt hj).1), fun j hj => ?_⟩
  · intro j hj
    rcases hj with hj | hj | hj
    · exact .inl (.inl hj)
    · rcases h3 j hj with h4 | h4
      · exact .inl (.inl h4)
      · exact .inr h4
    · exact .inl (.inr hj)
  · obtain ⟨e1, e2, e3, e4⟩ := h.sub j hj
    exact ⟨e1, Nat.lt_of_lt_of_le e2 h2.size, fun hf => (h3 j hf).elim e3 (fun e => by omega), e4⟩
theorem TM.unmark (h : TM w wr E F g s s' bm v cl k) (hE : ∀ j, E' j → E j) : TM w wr E' F g s s' bm v cl k :=
  ⟨h.at_, h.box, h.boxL, h.boxF, h.rv.less (fun j hj => .inl (hj.elim .inl fun h => .inr (h.elim .inl fun h => .inr (hE j h)))), h.low, fun j hj => h.sub j (hE j hj)⟩
/-- An own row of the caller's, which the document's answer leaves as it is. -/
theorem own_set {base q : Nat} {u : Value} {l : List UInt8} (hu : w.ownsRow base 5 1 u q (bs l)) (hb : Below w.heap.size w w2) (hne : u.ownBlock ≠ some bm) (X : Array Value) : (w2.setRow bm X).ownsRow base 5 1 u q (bs l) :=
  own_keep hu fun r hr => by
    obtain ⟨_, cs, hc⟩ := own_row hu hr
    exact (setRow_other w2 bm r X (fun e => hne (by rw [hr, e]))).trans (hb.block r hc.lt)
end
end Go.Proofs.Ytpohefpiidlnjaa.Dr
