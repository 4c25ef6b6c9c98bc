/-
  The walk of what Append puts.
-/
import Derived.Test.YtpohefpiidlnjaaDiskWalks2
namespace Go.Proofs.Ytpohefpiidlnjaa.Dk
set_option linter.unusedVariables false
open Go Go.RowKit Go.Proofs Go.Proofs.Ytpohefpiidlnjaa Go.Proofs.Ytpohefpiidlnjaa.Wd

theorem wp_append_seg {w : World} {F : Nat → Prop} {v : Value} {l : List UInt8} {o : Oper} {a : Act} {K : Act → World → Prop} {Q : Exit → Act → World → Prop} {s x : Operand}
    (ho : o.op = .call { callee := .builtin .append, args := #[s, x], argTypes := #[25, 25] })
    (hs : a.eval s = v) (h : SegV w F v l) {B : Nat} {A : Option Addr} {m c : Nat} {l2 : List UInt8} (hx : a.eval x = .slice A m c) (hm : m = l2.length) (hr : Bytes w B A l2) (hb : l.length + m ≤ 1000000000000)
    (hK : ∀ v' w', SegV w' (fun k => F k ∨ w.heap.size ≤ k) v' (l ++ l2) → Fr F w w' → K (a.put o.dst v') w') : o.wp Try.prog a w K Q := by
  obtain ⟨v', w', hrun, h2, h3⟩ := run_append_seg (c := c) h hm hr hb o.type
  unfold Oper.wp
  simp [execOp, ho, resolve, invoke, builtin, hs, hx, hrun, Result.andThen]

  exact hK v' w' h2 h3

section
variable {w w2 : World} {base : Nat} {F G : Nat → Prop} {g : Nat} {s : DS} {cs : Array Value} {v : Nat → Value} {vf : Value} {R : Nat → Nat → Prop} {fb : Nat → Prop}
/-- A segment's bytes are others now: in its own row, or in a new one. -/
theorem At'.row_set (h : At' w base F g s cs v vf R fb) {k : Nat} (hk : k < 2) (hfr : Fr (R k) w w2) {v' : Value} {l' : List UInt8} (hs : SegV w2 (fun j => R k j ∨ w.heap.size ≤ j) v' l') (hlo : base ≤ w.heap.size) (ok : Ok { s with all := upd s.all k l' }) :
    Next w base F g { s with all := upd s.all k l' } (w2.setCell ⟨g, 2 + k * 2, none⟩ v') := by
  have hfg : Fr (fun j => j = g) w2 (w2.setCell ⟨g, 2 + k * 2, none⟩ v') := Fr.setCell (F := fun j => j = g) (p := ⟨g, 2 + k * 2, none⟩) (Fr.refl _ w2) (.inl rfl) v'
  have hg2 : g < w.heap.size := (h.lo g h.fg).2
  have hsz := hfr.size
  refine ⟨fun j => F j ∨ (w.heap.size ≤ j ∧ j < w2.heap.size), ⟨cs.setIfInBounds (2 + k * 2) v', upd v k v', vf, upd R k (fun j => (R k j ∨ w.heap.size ≤ j) ∧ j < w2.heap.size), fb, ?_⟩, ?_, ?_⟩
  rotate_left
  · refine Fr.setCell (p := ⟨g, 2 + k * 2, none⟩) (hfr.more fun i hi => .inl (h.fR k hk i hi).1) (.inl h.fg) v'
  · rintro j (hj | hj)
    · exact .inl hj
    · exact .inr hj.1
  refine ⟨ok, (h.blk.fr hfr (fun e => (h.fR k hk g e).2 rfl)).set_ _ _, h.cells.set_seg hk v' l', fun i hi => ?_, ?_, .inl h.fg, fun i hi j hj => ?_, fun j hj => ⟨.inl (h.ff j hj).1, (h.ff j hj).2.1, fun i hi hr => ?_⟩, fun i i' hi hi' hne j hj hj' => ?_, fun j hj => ?_⟩
  · by_cases e : i = k
    · subst e
      simp only [upd_eq]
      refine (hs.fr hfg ?_).more fun j hj hr => ?_
      · rintro j (hj | hj) e
        · exact (h.fR i hi j hj).2 e
        · omega
      · exact ⟨hr, by simpa using hj⟩
    · simp only [upd_ne e]
      refine ((h.row i hi).fr hfr fun j hj hr => h.apart i k hi hk e j hj hr).fr hfg fun j hj e' => (h.fR i hi j hj).2 e'
  · refine (h.fuse.fr hfr fun j hj hr => (h.ff j hj).2.2 k hk hr).fr hfg fun j hj e => (h.ff j hj).2.1 e
  · by_cases e : i = k
    · subst e
      simp only [upd_eq] at hj
      rcases hj.1 with hr | hr
      · exact ⟨.inl (h.fR i hi j hr).1, (h.fR i hi j hr).2⟩
      · exact ⟨.inr ⟨hr, hj.2⟩, by omega⟩
    · simp only [upd_ne e] at hj
      exact ⟨.inl (h.fR i hi j hj).1, (h.fR i hi j hj).2⟩
  · by_cases e : i = k
    · subst e
      simp only [upd_eq] at hr
      rcases hr.1 with hr1 | hr1
      · exact (h.ff j hj).2.2 i hi hr1
      · have := (h.lo j (h.ff j hj).1).2; omega
    · simp only [upd_ne e] at hr
      exact (h.ff j hj).2.2 i hi hr
  · by_cases e : i = k
    · subst e
      have e' : i' ≠ i := Ne.symm hne
      simp only [upd_eq] at hj
      simp only [upd_ne e'] at hj'
      rcases hj.1 with hr | hr
      · exact h.apart i i' hi hi' hne j hr hj'
      · have := (h.lo j (h.fR i' hi' j hj').1).2; omega
    · by_cases e' : i' = k
      · subst e'
        simp only [upd_eq] at hj'
        simp only [upd_ne e] at hj
        rcases hj'.1 with hr | hr
        · exact h.apart i i' hi hi' hne j hj hr
        · have := (h.lo j (h.fR i hi j hj).1).2; omega
      · simp only [upd_ne e] at hj
        simp only [upd_ne e'] at hj'
        exact h.apart i i' hi hi' hne j hj hj'
  · rcases hj with hj | hj
    · have := h.lo j hj; simp; omega
    · simp; omega

/-- What Append puts. -/
def putD (k : Nat) (b : List UInt8) (p : Nat) (s : DS) : DS := { s with all := upd s.all k (s.all k ++ b.take p) }
theorem putD_ok (h : Ok s) {k : Nat} (hk : k < 2) (b : List UInt8) (p : Nat) (hroom : (s.all 0).length + (s.all 1).length + b.length ≤ s.cap) : Ok (putD k b p s) := by
  have ht : (b.take p).length ≤ b.length := by rw [List.length_take]; omega
  unfold putD
  refine ⟨h.cap, ?_, fun i hi => ?_, h.sl, h.lo, h.fuse⟩
  · show (upd s.all k (s.all k ++ b.take p) 0).length + (upd s.all k (s.all k ++ b.take p) 1).length ≤ s.cap
    rcases (by omega : k = 0 ∨ k = 1) with rfl | rfl
    · rw [upd_eq, upd_ne (by decide), List.length_append]; omega
    · rw [upd_eq, upd_ne (by decide), List.length_append]; omega
  · show s.safe i ≤ (upd s.all k (s.all k ++ b.take p) i).length
    have := h.safe i hi
    by_cases e : i = k
    · subst e; rw [upd_eq, List.length_append]; omega
    · rw [upd_ne e]; exact this

end
end Go.Proofs.Ytpohefpiidlnjaa.Dk
