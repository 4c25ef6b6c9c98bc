/-
  The document's disk, a struct by value: what it reads as.
-/
import Derived.Test.YtpohefpiidlnjaaDiskWalks4
import Derived.Test.YtpohefpiidlnjaaDiskWalks5
import Derived.Test.YtpohefpiidlnjaaDiskWalks7
import Derived.Test.YtpohefpiidlnjaaDiskWalks8
import Derived.Test.YtpohefpiidlnjaaDiskWalks9
namespace Go.Proofs.Ytpohefpiidlnjaa.Dr
set_option linter.unusedVariables false
open Go Go.RowKit Go.Proofs Go.Proofs.Ytpohefpiidlnjaa Go.Proofs.Ytpohefpiidlnjaa.Wd
open Go.Proofs.Ytpohefpiidlnjaa.Dk (DS upd upd_eq upd_ne)

/-- A slice: its address, its length, its capacity. -/
abbrev Sl := Option Addr × Nat × Nat
/-- A slice of bytes that lies outside of F's blocks. -/
structure Ref (w : World) (F : Nat → Prop) (x : Sl) (l : List UInt8) : Prop where
  len : x.2.1 = l.length
  le : x.2.1 ≤ x.2.2
  max : x.2.2 ≤ maxLen
  bytes : Bytes w w.heap.size x.1 l
  far : l ≠ [] → ∀ b o, x.1 = some ⟨b, o, none⟩ → ¬ F b
section
variable {w w' : World} {F G : Nat → Prop} {x : Sl} {l : List UInt8}
theorem Ref.at_ (h : Ref w F x l) (hne : l ≠ []) {b o : Nat} (e : x.1 = some ⟨b, o, none⟩) : b < w.heap.size := by
  obtain ⟨b', off, e', hb, _⟩ := h.bytes.at_ (j := 0) (List.length_pos_iff.2 hne)
  rw [e] at e'
  cases e'
  exact hb
theorem Ref.fr (h : Ref w F x l) (hf : Fr G w w') (hG : ∀ k, G k → F k ∨ w.heap.size ≤ k) : Ref w' F x l :=
  ⟨h.len, h.le, h.max, Bytes.fr h.bytes hf (fun hne b o e hg => (hG b hg).elim (h.far hne b o e) (fun h0 => by have := h.at_ hne e; omega)), h.far⟩
theorem Ref.below (h : Ref w F x l) (hb : Below w.heap.size w w') : Ref w' F x l := h.fr (Fr.of_below hb (fun _ => False)) (fun _ h => h.elim)
theorem Ref.less (h : Ref w F x l) (hG : ∀ k, G k → F k ∨ w.heap.size ≤ k) : Ref w G x l :=
  ⟨h.len, h.le, h.max, h.bytes, fun hne b o e hg => (hG b hg).elim (h.far hne b o e) (fun h0 => by have := h.at_ hne e; omega)⟩
theorem Ref.nil (w : World) (F : Nat → Prop) : Ref w F (none, 0, 0) [] := ⟨rfl, Nat.le_refl _, by simp [maxLen], Row.nil, fun h => absurd rfl h⟩
/-- Bytes of the call's own: new. -/
theorem Ref.of_own {base n c : Nat} {A : Option Addr} (h : w.ownsRow base 5 1 (.slice A n c) n (bs l)) (hF : ∀ k, F k → k < base) : Ref w F (A, n, c) l := by
  obtain ⟨A', c', e, h1, h2, h3⟩ := own_bytes h
  cases e
  refine ⟨h2, h1, own_cap' h, h3, fun hne b o e => ?_⟩
  cases e
  rcases h.2 with ⟨h4, -⟩ | ⟨g, cap, cur, h4, hg, -⟩
  · cases h4
  · cases h4
    intro hf
    have := hF _ hf
    omega
end
/-- The struct's cells. -/
def rcells (s : DS) (v : Nat → Sl) (cl k : Int) : Array Value := #[.int .i64 (s.cap : Nat), .slice (v 1).1 (v 1).2.1 (v 1).2.2, .slice (v 2).1 (v 2).2.1 (v 2).2.2, .slice (v 3).1 (v 3).2.1 (v 3).2.2, .slice (v 4).1 (v 4).2.1 (v 4).2.2, .slice (v 5).1 (v 5).2.1 (v 5).2.2, .slice (v 6).1 (v 6).2.1 (v 6).2.2, .slice (v 7).1 (v 7).2.1 (v 7).2.2, .slice (v 8).1 (v 8).2.1 (v 8).2.2, .bool s.fuse.isSome, .int .i64 cl, .int .i64 k, .bool s.dead]
def rval (s : DS) (v : Nat → Sl) (cl k : Int) : Value := .agg (rcells s v cl k)
/-- It reads as the disk s. -/
structure RV (w : World) (F : Nat → Prop) (s : DS) (v : Nat → Sl) (cl k : Int) : Prop where
  a0 : Ref w F (v 1) ((s.all 0).take (s.safe 0))
  b0 : Ref w F (v 2) ((s.all 0).drop (s.safe 0))
  a1 : Ref w F (v 3) ((s.all 1).take (s.safe 1))
  b1 : Ref w F (v 4) ((s.all 1).drop (s.safe 1))
  c0 : Ref w F (v 5) (s.sl 0)
  d0 : Ref w F (v 6) (if s.wr 0 then s.lo 0 else [])
  c1 : Ref w F (v 7) (s.sl 1)
  d1 : Ref w F (v 8) (if s.wr 1 then s.lo 1 else [])
  fu : ∀ a b, s.fuse = some (a, b) → cl = a ∧ k = b
section
variable {w w' : World} {F G : Nat → Prop} {s : DS} {v : Nat → Sl} {cl k : Int}
theorem RV.fr (h : RV w F s v cl k) (hf : Fr G w w') (hG : ∀ k, G k → F k ∨ w.heap.size ≤ k) : RV w' F s v cl k :=
  ⟨h.a0.fr hf hG, h.b0.fr hf hG, h.a1.fr hf hG, h.b1.fr hf hG, h.c0.fr hf hG, h.d0.fr hf hG, h.c1.fr hf hG, h.d1.fr hf hG, h.fu⟩
theorem RV.below (h : RV w F s v cl k) (hb : Below w.heap.size w w') : RV w' F s v cl k := h.fr (Fr.of_below hb (fun _ => False)) (fun _ h => h.elim)
theorem RV.less (h : RV w F s v cl k) (hG : ∀ k, G k → F k ∨ w.heap.size ≤ k) : RV w G s v cl k :=
  ⟨h.a0.less hG, h.b0.less hG, h.a1.less hG, h.b1.less hG, h.c0.less hG, h.d0.less hG, h.c1.less hG, h.d1.less hG, h.fu⟩
end
/-- Is the disk killed by a call? -/
def kb (s : DS) : Bool := match s.fuse with | some (0, _) => true | _ => false
/-- The disk behind that question. -/
def killed (s : DS) : DS := match s.fuse with
  | none => s
  | some (0, _) => Dk.died s
  | some (c + 1, p) => Dk.fused s (some (c, p))
def kpart (s : DS) : Nat := match s.fuse with | some (_, p) => p | none => 0
theorem after_r {s : DS} {f : DS → DS} {fl : Nat → DS → DS} (hf : ∀ o, f (Dk.fused s o) = Dk.fused (f s) o) (hl : ∀ p, fl p (Dk.died s) = Dk.died (fl p s)) :
    Dk.after s f fl = if kb s then (3, fl (kpart s) (killed s)) else (0, f (killed s)) := by
  unfold Dk.after kb killed kpart
  rcases h : s.fuse with _ | ⟨_ | c, p⟩
  · simp
  · simp [hl]
  · simp [hf]
theorem killed_all (s : DS) : (killed s).all = s.all ∧ (killed s).safe = s.safe ∧ (killed s).sl = s.sl ∧ (killed s).lo = s.lo ∧ (killed s).wr = s.wr ∧ (killed s).cap = s.cap := by
  unfold killed
  rcases h : s.fuse with _ | ⟨_ | c, p⟩ <;> exact ⟨rfl, rfl, rfl, rfl, rfl, rfl⟩
theorem killed_dead (s : DS) : (killed s).dead = (kb s || s.dead) := by
  unfold killed kb
  rcases h : s.fuse with _ | ⟨_ | c, p⟩ <;> simp [Dk.died, Dk.fused]
end Go.Proofs.Ytpohefpiidlnjaa.Dr
