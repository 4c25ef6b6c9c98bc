/-
  The journal in memory: a disk and blocks beside it that a call may write; rows of the call's own that no disk touches.
-/
import Derived.Test.YtmkijkkddoamgaaJourPl
namespace Go.Proofs.Ytmkijkkddoamgaa.Jo
set_option linter.unusedVariables false
open Go Go.RowKit Go.Shelf Go.Proofs Go.Proofs.Ytmkijkkddoamgaa Go.Proofs.Ytmkijkkddoamgaa.Wd Go.Proofs.Ytmkijkkddoamgaa.Dk Go.Proofs.Ytmkijkkddoamgaa.Hd Go.Proofs.Ytmkijkkddoamgaa.HdW Go.Proofs.Ytmkijkkddoamgaa.BatW
open Go.Proofs.Ytmkijkkddoamgaa.Bat (B)

/-- The disk is another one now; outside of its blocks, and those of X, nothing turned. -/
def NextX (w : World) (base : Nat) (F X : Nat → Prop) (g : Nat) (s' : DS) (w' : World) : Prop := ∃ F', At w' base F' g s' ∧ Fr (fun k => F k ∨ X k) w w' ∧ ∀ k, F' k → F k ∨ w.heap.size ≤ k
section
variable {w w' w'' : World} {base : Nat} {F F' G X : Nat → Prop} {g : Nat} {s s' : DS}
theorem NextX.refl (h : At w base F g s) : NextX w base F X g s w := ⟨F, h, Fr.refl _ _, fun _ h => .inl h⟩
theorem NextX.of (h : Dk.Next w base F g s w') : NextX w base F X g s w' := by
  obtain ⟨F', h1, h2, h3⟩ := h
  exact ⟨F', h1, h2.more fun _ h => .inl (.inl h), h3⟩
/-- Blocks that were there and are none of the disk's are none of it behind a call. -/
theorem out_of {k : Nat} (hk : k < w.heap.size) (hF : ¬ F k) (h : ∀ k, F' k → F k ∨ w.heap.size ≤ k) : ¬ F' k := fun e => (h k e).elim hF (fun h => by omega)
theorem NextX.then (h1 : Fr (fun k => F k ∨ X k) w w') (h2 : ∀ k, F' k → F k ∨ w.heap.size ≤ k) (h : NextX w' base F' X g s w'') : NextX w base F X g s w'' := by
  obtain ⟨F'', k1, k2, k3⟩ := h
  refine ⟨F'', k1, h1.trans k2 fun k hk => ?_, fun k hk => ?_⟩
  · rcases hk with h | h
    · exact (h2 k h).imp_left .inl
    · exact .inl (.inr h)
  · rcases k3 k hk with h | h
    · exact h2 k h
    · exact .inr (Nat.le_trans h1.size h)
end

/-- The cells of a row lie in blocks of Z. -/
def RowZ (w : World) (Z : Nat → Prop) (A : Option Addr) (xs : List Value) : Prop := ∀ j (h : j < xs.length), ∃ b off, A = some ⟨b, off, none⟩ ∧ Z b ∧ w.cell? ⟨b, off + j, none⟩ = some xs[j]
def SBZ (w : World) (Z : Nat → Prop) (v : Value) (d : List UInt8) : Prop := ∃ A c, v = .slice A d.length c ∧ d.length ≤ c ∧ c ≤ maxLen ∧ RowZ w Z A (bs d)
def BRowsZ (w : World) (Z : Nat → Prop) (A : Option Addr) (ls : B) : Prop :=
  ∀ j (h : j < ls.length), ∃ b off v, A = some ⟨b, off, none⟩ ∧ Z b ∧ w.cell? ⟨b, off + j, none⟩ = some v ∧ SBZ w Z v ls[j]
def SRZ (w : World) (Z : Nat → Prop) (v : Value) (ls : B) : Prop := ∃ A c, v = .slice A ls.length c ∧ ls.length ≤ c ∧ c ≤ maxLen ∧ BRowsZ w Z A ls
def BRows3Z (w : World) (Z : Nat → Prop) (A : Option Addr) (ll : List B) : Prop :=
  ∀ j (h : j < ll.length), ∃ b off v, A = some ⟨b, off, none⟩ ∧ Z b ∧ w.cell? ⟨b, off + j, none⟩ = some v ∧ SRZ w Z v ll[j]
section
variable {w w' : World} {Z Z' G : Nat → Prop} {A : Option Addr} {xs : List Value} {v u : Value} {d : List UInt8} {ls : B} {ll : List B} {k : Nat}
/-- Blocks of Z lie as they lay. -/
def SameZ (Z : Nat → Prop) (w w' : World) : Prop := ∀ b, Z b → w'.heap[b]? = w.heap[b]?
theorem SameZ.of_fr (h : Fr G w w') (hz : ∀ b, Z b → b < w.heap.size ∧ ¬ G b) : SameZ Z w w' := fun b hb => h.block b (hz b hb).1 (hz b hb).2
theorem SameZ.cell (h : SameZ Z w w') {b : Nat} (hb : Z b) (o : Nat) : w'.cell? ⟨b, o, none⟩ = w.cell? ⟨b, o, none⟩ := World.cell?_of_block (h b hb)
theorem RowZ.keep (h : RowZ w Z A xs) (hs : SameZ Z w w') : RowZ w' Z A xs := fun j hj => by
  obtain ⟨b, off, e, hb, hc⟩ := h j hj
  exact ⟨b, off, e, hb, (hs.cell hb _).trans hc⟩
theorem RowZ.more (h : RowZ w Z A xs) (hz : ∀ b, Z b → Z' b) : RowZ w Z' A xs := fun j hj => by
  obtain ⟨b, off, e, hb, hc⟩ := h j hj
  exact ⟨b, off, e, hz b hb, hc⟩
theorem RowZ.row (h : RowZ w Z A xs) (hz : ∀ b, Z b → b < k) : Row w k A xs := fun j hj => by
  obtain ⟨b, off, e, hb, hc⟩ := h j hj
  exact ⟨b, off, e, hz b hb, hc⟩
theorem SBZ.keep (h : SBZ w Z v d) (hs : SameZ Z w w') : SBZ w' Z v d := by obtain ⟨A, c, e, h1, h2, h3⟩ := h; exact ⟨A, c, e, h1, h2, h3.keep hs⟩
theorem SBZ.more (h : SBZ w Z v d) (hz : ∀ b, Z b → Z' b) : SBZ w Z' v d := by obtain ⟨A, c, e, h1, h2, h3⟩ := h; exact ⟨A, c, e, h1, h2, h3.more hz⟩
theorem SBZ.sb (h : SBZ w Z v d) (hz : ∀ b, Z b → b < k) : SB w k v d := by obtain ⟨A, c, e, h1, h2, h3⟩ := h; exact ⟨A, c, e, h1, h2, h3.row hz⟩
theorem BRowsZ.keep (h : BRowsZ w Z A ls) (hs : SameZ Z w w') : BRowsZ w' Z A ls := fun j hj => by
  obtain ⟨b, off, v, e, hb, hc, hv⟩ := h j hj
  exact ⟨b, off, v, e, hb, (hs.cell hb _).trans hc, hv.keep hs⟩
theorem BRowsZ.more (h : BRowsZ w Z A ls) (hz : ∀ b, Z b → Z' b) : BRowsZ w Z' A ls := fun j hj => by
  obtain ⟨b, off, v, e, hb, hc, hv⟩ := h j hj
  exact ⟨b, off, v, e, hz b hb, hc, hv.more hz⟩
theorem BRowsZ.rows (h : BRowsZ w Z A ls) (hz : ∀ b, Z b → b < k) : BRows w k A ls := fun j hj => by
  obtain ⟨b, off, v, e, hb, hc, hv⟩ := h j hj
  exact ⟨b, off, v, e, hz b hb, hc, hv.sb hz⟩
theorem SRZ.keep (h : SRZ w Z v ls) (hs : SameZ Z w w') : SRZ w' Z v ls := by obtain ⟨A, c, e, h1, h2, h3⟩ := h; exact ⟨A, c, e, h1, h2, h3.keep hs⟩
theorem SRZ.more (h : SRZ w Z v ls) (hz : ∀ b, Z b → Z' b) : SRZ w Z' v ls := by obtain ⟨A, c, e, h1, h2, h3⟩ := h; exact ⟨A, c, e, h1, h2, h3.more hz⟩
theorem SRZ.sr (h : SRZ w Z v ls) (hz : ∀ b, Z b → b < k) : SR w k v ls := by obtain ⟨A, c, e, h1, h2, h3⟩ := h; exact ⟨A, c, e, h1, h2, h3.rows hz⟩
theorem BRows3Z.keep (h : BRows3Z w Z A ll) (hs : SameZ Z w w') : BRows3Z w' Z A ll := fun j hj => by
  obtain ⟨b, off, v, e, hb, hc, hv⟩ := h j hj
  exact ⟨b, off, v, e, hb, (hs.cell hb _).trans hc, hv.keep hs⟩
theorem BRows3Z.more (h : BRows3Z w Z A ll) (hz : ∀ b, Z b → Z' b) : BRows3Z w Z' A ll := fun j hj => by
  obtain ⟨b, off, v, e, hb, hc, hv⟩ := h j hj
  exact ⟨b, off, v, e, hz b hb, hc, hv.more hz⟩
theorem BRows3Z.rows (h : BRows3Z w Z A ll) (hz : ∀ b, Z b → b < k) : BRows3 w k A ll := fun j hj => by
  obtain ⟨b, off, v, e, hb, hc, hv⟩ := h j hj
  exact ⟨b, off, v, e, hz b hb, hc, hv.sr hz⟩
/-- Rows of the call's own lie in blocks of the call's own. -/
def Since (a b : Nat) (k : Nat) : Prop := a ≤ k ∧ k < b
theorem own_rowz {base : Nat} {e : TypeId} {n c : Nat} (h : w.ownsRow base e 1 (.slice A n c) n xs) : RowZ w (Since base w.heap.size) A xs := by
  obtain ⟨A', c', e', hr⟩ := own_slice h
  cases e'
  intro j hj
  obtain ⟨b, off, rfl, hb, hc⟩ := hr j hj
  refine ⟨b, off, rfl, ⟨?_, hb⟩, hc⟩
  rcases h.2 with ⟨h1, _⟩ | ⟨g, cap, cur, h1, hg, _⟩
  · cases h1
  · simp only [Value.slice.injEq, Option.some.injEq] at h1
    have := h1.1
    cases this
    exact hg
theorem sbz_own {base : Nat} (h : w.ownsRow base 5 1 v d.length (bs d)) : SBZ w (Since base w.heap.size) v d := by
  obtain ⟨A, c, rfl, h1, h2, h3⟩ := SB.of_own h
  exact ⟨A, c, rfl, h1, h2, own_rowz h⟩
theorem srz_kept {base : Nat} (h : Kept w base v ls) : SRZ w (Since base w.heap.size) v ls := by
  obtain ⟨A, c, rfl, h1, h2, -⟩ := h.reads
  obtain ⟨xs, ho, hx⟩ := h
  have hr := own_rowz ho
  refine ⟨A, c, rfl, h1, h2, fun j hj => ?_⟩
  obtain ⟨v, e1, hv⟩ := hx.2 j hj
  have hxj : j < xs.length := by rw [hx.1]; exact hj
  obtain ⟨b, off, e, hb, hc⟩ := hr j hxj
  rw [List.getElem?_eq_getElem hxj] at e1
  cases e1
  exact ⟨b, off, _, e, hb, hc, sbz_own hv⟩
theorem rows3z_outs {base c : Nat} (h : Outs w base (.slice A ll.length c) ll u) : BRows3Z w (Since base w.heap.size) A ll := by
  obtain ⟨xs, ho, hx⟩ := h
  have hl := ho.1
  rw [Nat.mul_one] at hl
  have hr := own_rowz ho
  intro j hj
  obtain ⟨v, e1, hv, -⟩ := hx j hj
  have hxj : j < xs.length := by omega
  obtain ⟨b, off, e, hb, hc⟩ := hr j hxj
  rw [List.getElem?_eq_getElem hxj] at e1
  cases e1
  exact ⟨b, off, _, e, hb, hc, srz_kept hv⟩
end
end Go.Proofs.Ytmkijkkddoamgaa.Jo
