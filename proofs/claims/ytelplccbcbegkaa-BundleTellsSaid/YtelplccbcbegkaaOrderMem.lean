/-
  An order in memory: its struct, its graph, the rows of its places and of its vertices.
-/
import Derived.Test.YtelplccbcbegkaaOrdG2
import Derived.Test.YtelplccbcbegkaaOrderPl3
import Derived.Test.YtelplccbcbegkaaOrderLay
namespace Go.Proofs.Ytelplccbcbegkaa.OrW
set_option linter.unusedVariables false
open Go Go.RowKit Go.Proofs Go.Proofs.Ytelplccbcbegkaa Go.Proofs.Ytelplccbcbegkaa.Wd Go.Proofs.Ytelplccbcbegkaa.GrW Go.Proofs.Ytelplccbcbegkaa.Ord
open Go.Proofs.Ytelplccbcbegkaa.Gr (OK putL)

/-- A row of numbers of the call's own: a whole block. -/
def ORow (w : World) (base : Nat) (v : Value) (l : List Int) : Prop := w.ownsRow base 3 1 v l.length (iv l)
theorem ORow.keep {w w' : World} {base : Nat} {v : Value} {l : List Int} (h : ORow w base v l) (hk : ∀ g, v.ownBlock = some g → w'.heap[g]? = w.heap[g]?) : ORow w' base v l := own_keep h hk
theorem ORow.below {w w' : World} {base : Nat} {v : Value} {l : List Int} (h : ORow w base v l) (hb : Below w.heap.size w w') : ORow w' base v l := own_belowW h hb
theorem ORow.blk {w : World} {base : Nat} {v : Value} {l : List Int} (h : ORow w base v l) {g : Nat} (hg : v.ownBlock = some g) : base ≤ g ∧ ∃ cs, Blk w g 3 cs := own_row h hg
theorem ORow.lies {w : World} {base : Nat} {v : Value} {l : List Int} (h : ORow w base v l) : ∃ A c, v = .slice A l.length c := own_form h
theorem ORow.set_ {w : World} {base : Nat} {v : Value} {l : List Int} (h : ORow w base v l) {i : Nat} (hi : i < l.length) (x : Int) : ∃ b off c, v = .slice (some ⟨b, off, none⟩) l.length c ∧ w.cell? ⟨b, off + i, none⟩ = some (.int .i64 l[i]) ∧ w.frozen? ⟨b, off + i, none⟩ = false ∧ b < w.heap.size ∧ ORow (w.setCell ⟨b, off + i, none⟩ (.int .i64 x)) base v (l.set i x) := by
  rcases h.2 with ⟨h1, h2⟩ | ⟨g, cap, cur, hv, hg, hh, h1, h2, h3, h4⟩
  · rw [h2] at hi; cases hi
  · have hb : Blk w g 3 cur := hh
    rw [Nat.mul_one] at h4
    refine ⟨g, 0, cap, hv, ?_, hb.frozen _, hb.lt, ?_⟩
    · rw [getD_at (off := 0) hb (by rw [List.drop_zero]; exact h4) i hi]
      simp [List.getD, hi]
    · unfold ORow
      rw [List.length_set, Nat.zero_add]
      refine ⟨by simp [iv], .inr ⟨g, cap, _, hv, hg, hb.set_ i (.int .i64 x), h1, h2, by rw [Array.size_setIfInBounds]; exact h3, ?_⟩⟩
      rw [Nat.mul_one, Array.toList_setIfInBounds, List.take_set, h4]
      simp [iv, List.map_set]
/-- An order and its parts. -/
structure OParts (w : World) (base : Nat) (F : Nat → Prop) (o n : Nat) (L : List (List Int)) (P A : List Nat) (g : Nat) (vp va : Value) (Fg : Nat → Prop) : Prop where
  blk : Blk w o 70 #[.pointer (some ⟨g, 0, none⟩), vp, va]
  far : base ≤ o
  gr : GAt w base Fg g n L
  rp : ORow w base vp (zs P)
  ra : ORow w base va (zs A)
  fo : F o
  og : ¬ Fg o
  fg : ∀ k, Fg k → F k
  fp : ∀ b, vp.ownBlock = some b → F b ∧ ¬ Fg b
  fa : ∀ b, va.ownBlock = some b → F b ∧ ¬ Fg b
  pa : ∀ b, vp.ownBlock = some b → va.ownBlock ≠ some b
def OAt (w : World) (base : Nat) (F : Nat → Prop) (o n : Nat) (L : List (List Int)) (P A : List Nat) : Prop := ∃ g vp va Fg, OParts w base F o n L P A g vp va Fg
/-- Between two calls: an order that is another, whose blocks were its own or are new. -/
def OUpd (base : Nat) (F : Nat → Prop) (o n : Nat) (L : List (List Int)) (P A : List Nat) (w w' : World) : Prop := ∃ F', OAt w' base F' o n L P A ∧ Fr F w w' ∧ ∀ j, F' j → F j ∨ w.heap.size ≤ j
theorem ORow.lt {w : World} {base : Nat} {v : Value} {l : List Int} (h : ORow w base v l) {b : Nat} (hb : v.ownBlock = some b) : b < w.heap.size := by
  obtain ⟨_, cs, hc⟩ := h.blk hb
  exact hc.lt
section
variable {w w' : World} {base o n g : Nat} {F Fg : Nat → Prop} {L : List (List Int)} {P A : List Nat} {vp va : Value}
theorem OParts.below (h : OParts w base F o n L P A g vp va Fg) (hb : Below w.heap.size w w') : OParts w' base F o n L P A g vp va Fg :=
  { h with blk := h.blk.below hb h.blk.lt, gr := h.gr.below hb, rp := h.rp.below hb, ra := h.ra.below hb }
theorem OAt.below (h : OAt w base F o n L P A) (hb : Below w.heap.size w w') : OAt w' base F o n L P A := by
  obtain ⟨g, vp, va, Fg, h⟩ := h
  exact ⟨g, vp, va, Fg, h.below hb⟩
theorem OParts.exist (h : OParts w base F o n L P A g vp va Fg) : OParts w base (fun k => F k ∧ k < w.heap.size) o n L P A g vp va (fun k => Fg k ∧ k < w.heap.size) :=
  { h with
    gr := h.gr.exist
    fo := ⟨h.fo, h.blk.lt⟩
    og := fun e => h.og e.1
    fg := fun k e => ⟨h.fg k e.1, e.2⟩
    fp := fun b e => ⟨⟨(h.fp b e).1, ORow.lt h.rp e⟩, fun e2 => (h.fp b e).2 e2.1⟩
    fa := fun b e => ⟨⟨(h.fa b e).1, ORow.lt h.ra e⟩, fun e2 => (h.fa b e).2 e2.1⟩ }
theorem OAt.exist (h : OAt w base F o n L P A) : OAt w base (fun k => F k ∧ k < w.heap.size) o n L P A := by
  obtain ⟨g, vp, va, Fg, h⟩ := h
  exact ⟨g, vp, va, _, h.exist⟩
theorem OParts.wide {F' : Nat → Prop} (h : OParts w base F o n L P A g vp va Fg) (hF : ∀ k, F k → F' k) : OParts w base F' o n L P A g vp va Fg :=
  { h with fo := hF _ h.fo, fg := fun k e => hF _ (h.fg k e), fp := fun b e => ⟨hF _ (h.fp b e).1, (h.fp b e).2⟩, fa := fun b e => ⟨hF _ (h.fa b e).1, (h.fa b e).2⟩ }
theorem OAt.wide {F' : Nat → Prop} (h : OAt w base F o n L P A) (hF : ∀ k, F k → F' k) : OAt w base F' o n L P A := by
  obtain ⟨g, vp, va, Fg, h⟩ := h
  exact ⟨g, vp, va, _, h.wide hF⟩
/-- Another order stays where its blocks are none of F. -/
theorem OAt.fr {F2 : Nat → Prop} (h : OAt w base F o n L P A) (hf : Fr F2 w w') (hd : ∀ k, F k → ¬ F2 k) : OAt w' base F o n L P A := by
  obtain ⟨g, vp, va, Fg, h⟩ := h
  exact ⟨g, vp, va, Fg, { h with
    blk := (hf.block _ h.blk.lt (hd _ h.fo)).trans h.blk
    gr := h.gr.fr hf (fun k e => hd _ (h.fg k e))
    rp := h.rp.keep fun b e => hf.block b (ORow.lt h.rp e) (hd _ (h.fp b e).1)
    ra := h.ra.keep fun b e => hf.block b (ORow.lt h.ra e) (hd _ (h.fa b e).1) }⟩
theorem OUpd.refl (h : OAt w base F o n L P A) : OUpd base F o n L P A w w := ⟨F, h, Fr.refl _ _, fun j e => .inl e⟩
theorem OUpd.below (h : OAt w base F o n L P A) (hb : Below w.heap.size w w') : OUpd base F o n L P A w w' := ⟨F, h.below hb, Fr.of_below hb, fun j e => .inl e⟩
/-- The graph of an order is another. -/
theorem OParts.graph {L' : List (List Int)} {n' : Nat} (h : OParts w base F o n L P A g vp va Fg) (hu : Upd base Fg g n' L' w w') : ∃ Fg', OParts w' base (fun k => F k ∨ w.heap.size ≤ k) o n' L' P A g vp va Fg' ∧ Fr F w w' := by
  obtain ⟨F', h1, h2, h3⟩ := hu
  refine ⟨F', { h with
    blk := (h2.block _ h.blk.lt h.og).trans h.blk
    gr := h1
    rp := h.rp.keep fun b e => h2.block b (ORow.lt h.rp e) (h.fp b e).2
    ra := h.ra.keep fun b e => h2.block b (ORow.lt h.ra e) (h.fa b e).2
    fo := .inl h.fo
    og := fun e => ?_
    fg := fun k e => ?_
    fp := fun b e => ⟨.inl (h.fp b e).1, fun e2 => ?_⟩
    fa := fun b e => ⟨.inl (h.fa b e).1, fun e2 => ?_⟩ }, ⟨h2.os, h2.tape, h2.output, h2.size, fun k hk hf => h2.block k hk fun e => hf (h.fg k e)⟩⟩
  · rcases h3 o e with e | e
    · exact h.og e
    · have := h.blk.lt; omega
  · rcases h3 k e with e | e
    · exact .inl (h.fg k e)
    · exact .inr e
  · rcases h3 b e2 with e3 | e3
    · exact (h.fp b e).2 e3
    · have := ORow.lt h.rp e; omega
  · rcases h3 b e2 with e3 | e3
    · exact (h.fa b e).2 e3
    · have := ORow.lt h.ra e; omega
theorem OParts.upd {L' : List (List Int)} {n' : Nat} (h : OParts w base F o n L P A g vp va Fg) (hu : Upd base Fg g n' L' w w') : OUpd base F o n' L' P A w w' := by
  obtain ⟨Fg', h1, h2⟩ := h.graph hu
  exact ⟨_, ⟨g, vp, va, Fg', h1⟩, h2, fun j e => e⟩
theorem OUpd.trans {w2 : World} {n2 n3 : Nat} {L2 L3 : List (List Int)} {P2 A2 P3 A3 : List Nat} (h : OUpd base F o n2 L2 P2 A2 w w') (k : ∀ F', OAt w' base F' o n2 L2 P2 A2 → OUpd base F' o n3 L3 P3 A3 w' w2) : OUpd base F o n3 L3 P3 A3 w w2 := by
  obtain ⟨F', h1, h2, h3⟩ := h
  obtain ⟨F2, k1, k2, k3⟩ := k F' h1
  refine ⟨F2, k1, h2.trans k2 (fun j hj e => ?_), fun j e => ?_⟩
  · rcases h3 j e with e | e
    · exact e
    · omega
  · rcases k3 j e with e | e
    · exact h3 j e
    · have := h2.size; exact .inr (by omega)
theorem OParts.cells (h : OParts w base F o n L P A g vp va Fg) : w.cell? ⟨o, 0, none⟩ = some (.pointer (some ⟨g, 0, none⟩)) ∧ w.cell? ⟨o, 1, none⟩ = some vp ∧ w.cell? ⟨o, 2, none⟩ = some va := ⟨h.blk.at_ 0 rfl, h.blk.at_ 1 rfl, h.blk.at_ 2 rfl⟩
/-- A place, told and set. -/
theorem OParts.place (h : OParts w base F o n L P A g vp va Fg) {i : Nat} (hi : i < P.length) (x : Nat) : ∃ b off c, vp = .slice (some ⟨b, off, none⟩) P.length c ∧ w.cell? ⟨b, off + i, none⟩ = some (.int .i64 (P.getD i 0 : Nat)) ∧ w.frozen? ⟨b, off + i, none⟩ = false ∧ F b ∧ OParts (w.setCell ⟨b, off + i, none⟩ (.int .i64 (x : Nat))) base F o n L (P.set i x) A g vp va Fg := by
  obtain ⟨b, off, c, e, h1, h2, hlt, h3⟩ := ORow.set_ h.rp (i := i) (by rw [zs_length]; exact hi) (x : Nat)
  rw [zs_length] at e
  rw [zs_getD hi] at h1
  have hb : vp.ownBlock = some b := by rw [e]; rfl
  have hbF := h.fp b hb
  have ho : o ≠ b := fun e2 => by
    obtain ⟨_, cs, hc⟩ := h.rp.blk hb
    rw [← e2] at hc
    exact h.blk.ne_ hc (by decide) rfl
  have other : ∀ k, k ≠ b → (w.setCell ⟨b, off + i, none⟩ (.int .i64 (x : Nat))).heap[k]? = w.heap[k]? := fun k hk => heap_setCell_other w ⟨b, off + i, none⟩ k _ hk
  have hfr : Fr (fun k => k = b) w (w.setCell ⟨b, off + i, none⟩ (.int .i64 (x : Nat))) := ⟨rfl, rfl, rfl, by simp, fun k _ hk => other k hk⟩
  refine ⟨b, off, c, e, h1, h2, hbF.1, { h with
    blk := (other o ho).trans h.blk
    gr := h.gr.fr hfr (fun k e1 e2 => hbF.2 (e2 ▸ e1))
    rp := by rw [zs_set] at h3; exact h3
    ra := h.ra.keep fun k hk => other k fun e2 => h.pa b hb (e2 ▸ hk) }⟩
theorem OParts.at_ (h : OParts w base F o n L P A g vp va Fg) {i : Nat} (hi : i < A.length) (x : Nat) : ∃ b off c, va = .slice (some ⟨b, off, none⟩) A.length c ∧ w.cell? ⟨b, off + i, none⟩ = some (.int .i64 (A.getD i 0 : Nat)) ∧ w.frozen? ⟨b, off + i, none⟩ = false ∧ F b ∧ OParts (w.setCell ⟨b, off + i, none⟩ (.int .i64 (x : Nat))) base F o n L P (A.set i x) g vp va Fg := by
  obtain ⟨b, off, c, e, h1, h2, hlt, h3⟩ := ORow.set_ h.ra (i := i) (by rw [zs_length]; exact hi) (x : Nat)
  rw [zs_length] at e
  rw [zs_getD hi] at h1
  have hb : va.ownBlock = some b := by rw [e]; rfl
  have hbF := h.fa b hb
  have ho : o ≠ b := fun e2 => by
    obtain ⟨_, cs, hc⟩ := h.ra.blk hb
    rw [← e2] at hc
    exact h.blk.ne_ hc (by decide) rfl
  have other : ∀ k, k ≠ b → (w.setCell ⟨b, off + i, none⟩ (.int .i64 (x : Nat))).heap[k]? = w.heap[k]? := fun k hk => heap_setCell_other w ⟨b, off + i, none⟩ k _ hk
  have hfr : Fr (fun k => k = b) w (w.setCell ⟨b, off + i, none⟩ (.int .i64 (x : Nat))) := ⟨rfl, rfl, rfl, by simp, fun k _ hk => other k hk⟩
  refine ⟨b, off, c, e, h1, h2, hbF.1, { h with
    blk := (other o ho).trans h.blk
    gr := h.gr.fr hfr (fun k e1 e2 => hbF.2 (e2 ▸ e1))
    rp := h.rp.keep fun k hk => other k fun e2 => h.pa k hk (by rw [e2]; exact hb)
    ra := by rw [zs_set] at h3; exact h3 }⟩
theorem OParts.rowp (h : OParts w base F o n L P A g vp va Fg) : ∃ Ap c, vp = .slice Ap P.length c := by
  have := h.rp.lies
  rw [zs_length] at this
  exact this
theorem OParts.rowa (h : OParts w base F o n L P A g vp va Fg) : ∃ Aa c, va = .slice Aa A.length c := by
  have := h.ra.lies
  rw [zs_length] at this
  exact this
end
end Go.Proofs.Ytelplccbcbegkaa.OrW
