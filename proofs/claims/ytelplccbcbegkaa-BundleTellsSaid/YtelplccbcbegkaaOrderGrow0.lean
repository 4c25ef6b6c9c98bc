/-
  Vertices more, at the end of an order: plainly; and while both rows are appended to.
-/
import Derived.Test.YtelplccbcbegkaaOrderWalks1
namespace Go.Proofs.Ytelplccbcbegkaa.Ord
set_option linter.unusedVariables false
open Go.Proofs.Ytelplccbcbegkaa.Gr (E Path Inside OK outs intos Cyc putL)
open Go.Proofs.Ytelplccbcbegkaa.GrW (growL)

/-- So many numbers more, from n on. -/
def gro (P : List Nat) (n m : Nat) : List Nat := P ++ (List.range m).map fun i => n + i
theorem gro_zero (P : List Nat) (n : Nat) : gro P n 0 = P := by simp [gro]
theorem gro_succ (P : List Nat) (n m : Nat) : gro P n (m + 1) = gro P n m ++ [n + m] := by simp [gro, List.range_succ]
theorem gro_length (P : List Nat) (n m : Nat) : (gro P n m).length = P.length + m := by simp [gro]
theorem Perm.gro {n : Nat} {P A : List Nat} (h : Perm n P A) : ∀ m, Perm (n + m) (gro P n m) (gro A n m)
  | 0 => by rw [gro_zero, gro_zero]; exact h
  | m + 1 => by rw [gro_succ, gro_succ]; exact (Perm.gro h m).more
theorem gro_old {P : List Nat} {n m v : Nat} (hv : v < P.length) : (gro P n m).getD v 0 = P.getD v 0 := by
  unfold gro
  simp only [List.getD]
  rw [List.getElem?_append_left hv]
theorem grow_edge {n m : Nat} {L : List (List Int)} (ok : OK n L) {x y : Nat} : E (growL L m) x y ↔ E L x y := by
  unfold E growL
  have e : (L ++ List.replicate (2 * m) []).getD (2 * x) [] = L.getD (2 * x) [] := by
    simp only [List.getD]
    by_cases h : 2 * x < L.length
    · rw [List.getElem?_append_left h]
    · rw [List.getElem?_append_right (by omega), List.getElem?_eq_none (Nat.le_of_not_lt h)]
      by_cases h2 : 2 * x - L.length < 2 * m
      · simp [h2]
      · rw [List.getElem?_eq_none (by simp; omega)]
  rw [e]
theorem Up.gro {n : Nat} {L : List (List Int)} {P A : List Nat} (h : Up L P) (ok : OK n L) (hP : Perm n P A) (m : Nat) : Up (growL L m) (gro P n m) := fun x y he => by
  have h1 := (grow_edge ok).1 he
  obtain ⟨hx, hy⟩ := ok.edge_lt h1
  rw [gro_old (by rw [hP.lp]; exact hx), gro_old (by rw [hP.lp]; exact hy)]
  exact h x y h1
end Go.Proofs.Ytelplccbcbegkaa.Ord
namespace Go.Proofs.Ytelplccbcbegkaa.OrW
set_option linter.unusedVariables false
open Go Go.RowKit Go.Proofs Go.Proofs.Ytelplccbcbegkaa Go.Proofs.Ytelplccbcbegkaa.Wd Go.Proofs.Ytelplccbcbegkaa.GrW Go.Proofs.Ytelplccbcbegkaa.Ord
open Go.Proofs.Ytelplccbcbegkaa.Gr (OK putL)

/-- While both rows are appended to: the rows as they stand, the numbers' boxes. -/
structure GS (w W : World) (base : Nat) (F : Nat → Prop) (o n : Nat) (L : List (List Int)) (g : Nat) (Fg : Nat → Prop) (vp va pv av : Value) (P A : List Nat) (x : Nat) (ls : List Nat) : Prop where
  blk : Blk W o 70 #[.pointer (some ⟨g, 0, none⟩), vp, va]
  gr : GAt W base Fg g n L
  rp : ORow W base pv (zs P)
  ra : ORow W base av (zs A)
  fp : ∀ b, pv.ownBlock = some b → (F b ∨ w.heap.size ≤ b) ∧ ¬ Fg b
  fa : ∀ b, av.ownBlock = some b → (F b ∨ w.heap.size ≤ b) ∧ ¬ Fg b
  pa : ∀ b, pv.ownBlock = some b → av.ownBlock ≠ some b
  fg : ∀ k, Fg k → F k ∧ k < w.heap.size
  fo : F o
  far : base ≤ o
  og : ¬ Fg o
  lits : ∀ b ∈ ls, Blk W b 3 #[.int .i64 (x : Nat)] ∧ pv.ownBlock ≠ some b ∧ av.ownBlock ≠ some b
  fr : Fr F w W
section
variable {w W W' : World} {base o n g x : Nat} {F Fg : Nat → Prop} {L : List (List Int)} {P A ls : List Nat} {vp va pv av : Value}
theorem GS.start (h : OParts w base F o n L P A g vp va Fg) (hf : ∀ k, Fg k → k < w.heap.size) (x : Nat) : GS w w base F o n L g Fg vp va vp va P A x [] where
  blk := h.blk
  gr := h.gr
  rp := h.rp
  ra := h.ra
  fp := fun b e => ⟨.inl (h.fp b e).1, (h.fp b e).2⟩
  fa := fun b e => ⟨.inl (h.fa b e).1, (h.fa b e).2⟩
  pa := h.pa
  fg := fun k e => ⟨h.fg k e, hf k e⟩
  fo := h.fo
  far := h.far
  og := h.og
  lits := fun b hb => by simp at hb
  fr := Fr.refl _ _
theorem GS.below (h : GS w W base F o n L g Fg vp va pv av P A x ls) (hb : Below W.heap.size W W') : GS w W' base F o n L g Fg vp va pv av P A x ls :=
  { h with
    blk := h.blk.below hb h.blk.lt
    gr := h.gr.below hb
    rp := h.rp.below hb
    ra := h.ra.below hb
    lits := fun b hl => ⟨(h.lits b hl).1.below hb (h.lits b hl).1.lt, (h.lits b hl).2⟩
    fr := h.fr.trans (Fr.of_below (F := F) hb) (fun _ _ e => e) }
theorem GS.lit (h : GS w W base F o n L g Fg vp va pv av P A x ls) : GS w (W.alloc (.cells #[.int .i64 (x : Nat)] 3)) base F o n L g Fg vp va pv av P A x (ls ++ [W.heap.size]) := by
  have h1 := h.below ((Below.refl W.heap.size W).alloc (Nat.le_refl _) (.cells #[.int .i64 (x : Nat)] 3))
  exact { h1 with
    lits := fun b hl => by
      rcases List.mem_append.1 hl with hl | hl
      · exact h1.lits b hl
      · have : b = W.heap.size := by simpa using hl
        subst this
        refine ⟨Blk.new_ W _ _ rfl, fun e => ?_, fun e => ?_⟩
        · have := ORow.lt h.rp e; omega
        · have := ORow.lt h.ra e; omega }
theorem GS.pushP (h : GS w W base F o n L g Fg vp va pv av P A x ls) {v' : Value} {y : Nat} (hr : ORow W' base v' (zs (P ++ [y]))) (hg : W.grownBy W' pv.ownBlock) (hob : v'.ownBlock = pv.ownBlock ∨ v'.ownBlock = some W.heap.size) : GS w W' base F o n L g Fg vp va v' av (P ++ [y]) A x ls := by
  have hws := h.fr.size
  have nb : ∀ {b : Nat}, v'.ownBlock = some b → pv.ownBlock = some b ∨ b = W.heap.size := fun {b} e => by
    rcases hob with e2 | e2
    · exact .inl (by rw [← e2]; exact e)
    · rw [e2] at e; cases e; exact .inr rfl
  exact { h with
    blk := h.blk.grown hg (fun e => own_blk_ne h.rp h.blk (by decide) e.symm)
    gr := h.gr.fr (Fr.of_grown (F := fun k => pv.ownBlock = some k) hg (fun _ e => e)) (fun k e1 e2 => (h.fp k e2).2 e1)
    rp := hr
    ra := h.ra.keep fun k hk => hg.block k (ORow.lt h.ra hk) (fun e => h.pa k e.symm hk)
    fp := fun b e => by
      rcases nb e with e | rfl
      · exact h.fp b e
      · exact ⟨.inr hws, fun e2 => by have := (h.fg _ e2).2; omega⟩
    pa := fun b e => by
      rcases nb e with e | rfl
      · exact h.pa b e
      · intro e2; have := ORow.lt h.ra e2; omega
    lits := fun b hl => ⟨(h.lits b hl).1.grown hg (fun e => (h.lits b hl).2.1 e.symm), fun e => by
      rcases nb e with e | rfl
      · exact (h.lits b hl).2.1 e
      · have := (h.lits _ hl).1.lt; omega, (h.lits b hl).2.2⟩
    fr := ⟨hg.os.trans h.fr.os, hg.tape.trans h.fr.tape, hg.output.trans h.fr.output, Nat.le_trans hws hg.size, fun k hk hf => (hg.block k (by omega) (fun e => by
      rcases (h.fp k e.symm).1 with e2 | e2
      · exact hf e2
      · omega)).trans (h.fr.block k hk hf)⟩ }
theorem GS.pushA (h : GS w W base F o n L g Fg vp va pv av P A x ls) {v' : Value} {y : Nat} (hr : ORow W' base v' (zs (A ++ [y]))) (hg : W.grownBy W' av.ownBlock) (hob : v'.ownBlock = av.ownBlock ∨ v'.ownBlock = some W.heap.size) : GS w W' base F o n L g Fg vp va pv v' P (A ++ [y]) x ls := by
  have hws := h.fr.size
  have nb : ∀ {b : Nat}, v'.ownBlock = some b → av.ownBlock = some b ∨ b = W.heap.size := fun {b} e => by
    rcases hob with e2 | e2
    · exact .inl (by rw [← e2]; exact e)
    · rw [e2] at e; cases e; exact .inr rfl
  exact { h with
    blk := h.blk.grown hg (fun e => own_blk_ne h.ra h.blk (by decide) e.symm)
    gr := h.gr.fr (Fr.of_grown (F := fun k => av.ownBlock = some k) hg (fun _ e => e)) (fun k e1 e2 => (h.fa k e2).2 e1)
    ra := hr
    rp := h.rp.keep fun k hk => hg.block k (ORow.lt h.rp hk) (fun e => h.pa k hk e.symm)
    fa := fun b e => by
      rcases nb e with e | rfl
      · exact h.fa b e
      · exact ⟨.inr hws, fun e2 => by have := (h.fg _ e2).2; omega⟩
    pa := fun b e e2 => by
      rcases nb e2 with e2 | rfl
      · exact h.pa b e e2
      · have := ORow.lt h.rp e; omega
    lits := fun b hl => ⟨(h.lits b hl).1.grown hg (fun e => (h.lits b hl).2.2 e.symm), (h.lits b hl).2.1, fun e => by
      rcases nb e with e | rfl
      · exact (h.lits b hl).2.2 e
      · have := (h.lits _ hl).1.lt; omega⟩
    fr := ⟨hg.os.trans h.fr.os, hg.tape.trans h.fr.tape, hg.output.trans h.fr.output, Nat.le_trans hws hg.size, fun k hk hf => (hg.block k (by omega) (fun e => by
      rcases (h.fa k e.symm).1 with e2 | e2
      · exact hf e2
      · omega)).trans (h.fr.block k hk hf)⟩ }
/-- Both slices are stored. -/
theorem GS.done (h : GS w W base F o n L g Fg vp va pv av P A x ls) : OParts ((W.setCell ⟨o, 1, none⟩ pv).setCell ⟨o, 2, none⟩ av) base (fun k => F k ∨ w.heap.size ≤ k) o n L P A g pv av Fg ∧ Fr F w ((W.setCell ⟨o, 1, none⟩ pv).setCell ⟨o, 2, none⟩ av) := by
  have other : ∀ k, k ≠ o → ((W.setCell ⟨o, 1, none⟩ pv).setCell ⟨o, 2, none⟩ av).heap[k]? = W.heap[k]? := fun k hk => (heap_setCell_other _ ⟨o, 2, none⟩ k _ hk).trans (heap_setCell_other W ⟨o, 1, none⟩ k _ hk)
  refine ⟨{ 
    blk := (h.blk.set_ 1 pv).set_ 2 av
    far := h.far
    gr := h.gr.fr (F := fun k => k = o) ⟨rfl, rfl, rfl, by simp, fun k _ hk => other k hk⟩ (fun k e1 e2 => h.og (e2 ▸ e1))
    rp := h.rp.keep fun k hk => other k fun e => own_blk_ne h.rp h.blk (by decide) (e ▸ hk)
    ra := h.ra.keep fun k hk => other k fun e => own_blk_ne h.ra h.blk (by decide) (e ▸ hk)
    fo := .inl h.fo
    og := h.og
    fg := fun k e => .inl (h.fg k e).1
    fp := h.fp
    fa := h.fa
    pa := h.pa }, (h.fr.set_ h.fo 1 pv).set_ h.fo 2 av⟩
end
end Go.Proofs.Ytelplccbcbegkaa.OrW
