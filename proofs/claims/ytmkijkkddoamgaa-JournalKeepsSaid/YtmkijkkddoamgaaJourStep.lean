/-
  A journal from call to call; rows that are literals; plain facts of the chapter's examples.
-/
import Derived.Test.YtmkijkkddoamgaaJourMade
import Derived.Test.YtmkijkkddoamgaaJS
import Derived.Lib.SlBytesConst
namespace Go.Proofs.Ytmkijkkddoamgaa.Jo
set_option linter.unusedVariables false
open Go Go.RowKit Go.Shelf Go.Proofs Go.Proofs.Ytmkijkkddoamgaa Go.Proofs.Ytmkijkkddoamgaa.Wd Go.Proofs.Ytmkijkkddoamgaa.Dk Go.Proofs.Ytmkijkkddoamgaa.Hd Go.Proofs.Ytmkijkkddoamgaa.HdW Go.Proofs.Ytmkijkkddoamgaa.BatW
open Go.Proofs.Ytmkijkkddoamgaa.Bat (B)
section
variable {w w' w2 : World} {base : Nat} {F : Nat → Prop} {g jb cap : Nat} {s s' : DS} {y : H} {al : Nat → List UInt8}
theorem JAt.below (h : JAt w base F g jb s y) (hb : Below w.heap.size w w') : JAt w' base F g jb s y := ⟨h.at_.below hb, h.bj.next (Fr.of_below hb F) fun _ h => .inl h, h.wf, h.lv⟩
theorem JAt.next (h : JAt w base F g jb s y) (hn : Dk.Next w base F g s' w') : ∃ F', JAt w' base F' g jb s' y ∧ Below base w w' ∧ ∀ k, F' k → F k ∨ w.heap.size ≤ k := by
  obtain ⟨F', h1, h2, h3⟩ := hn
  exact ⟨F', ⟨h1, h.bj.next h2 h3, h.wf, h.lv⟩, h2.below (by have := h.at_.lt h.at_.fg; omega) fun k hk => (h.at_.lt hk).1, h3⟩
theorem JAt.saved (h : JAt w base F g jb s y) {x : DS × H} (hw : Wf x.2) (hl : x.2.live < 2) (hj : base ≤ jb) (hn : SavedJ w base F g jb x w') : ∃ F', JAt w' base F' g jb x.1 x.2 ∧ Below base w w' ∧ ∀ k, F' k → F k ∨ w.heap.size ≤ k := by
  obtain ⟨F', h1, h2, h3, h4⟩ := hn
  exact ⟨F', ⟨h1, ⟨h2, out_of h.bj.1.lt h.bj.2 h4⟩, hw, hl⟩, h3.below (by have := h.at_.lt h.at_.fg; omega) (fun k hk => hk.elim (fun h' => (h.at_.lt h').1) fun e => e ▸ hj), h4⟩
/-- A literal row of one row of bytes. -/
def litw (w : World) (cs : Array Value) (fr : Nat × Nat) (n : Nat) : World := (w.alloc (.cells cs 5 fr)).alloc (.cells #[.slice (some ⟨w.heap.size, 0, none⟩) n n] 23)
theorem lit_rows (w : World) (cs : Array Value) (fr : Nat × Nat) (l : List UInt8) (hl : cs.toList = bs l) (n : Nat) (hn : n = l.length) (hm : n ≤ maxLen) :
    BRows (litw w cs fr n) (litw w cs fr n).heap.size (some ⟨w.heap.size + 1, 0, none⟩) [l] ∧ Below w.heap.size w (litw w cs fr n) := by
  subst hn
  have hs0 : (w.alloc (.cells cs 5 fr)).heap.size = w.heap.size + 1 := by simp
  have y0 : Bytes (w.alloc (.cells cs 5 fr)) (w.heap.size + 1) (some ⟨w.heap.size, 0, none⟩) l := Bytes.new_ w 5 _ fr l hl rfl (by omega)
  have hb : Below (w.heap.size + 1) (w.alloc (.cells cs 5 fr)) (litw w cs fr l.length) := (Below.refl _ _).alloc (by omega) _
  have y1 := (Row.below y0 hb).more (B' := (litw w cs fr l.length).heap.size) (by unfold litw; simp)
  have z1 : Blk (litw w cs fr l.length) (w.heap.size + 1) 23 #[.slice (some ⟨w.heap.size, 0, none⟩) l.length l.length] := Blk.new_ (w.alloc (.cells cs 5 fr)) 23 _ hs0.symm
  refine ⟨BRows.of_row (xs := [.slice (some ⟨w.heap.size, 0, none⟩) l.length l.length]) (Row.blk z1 z1.lt) (Reads.one ⟨some ⟨w.heap.size, 0, none⟩, l.length, rfl, Nat.le_refl _, hm, y1⟩), ?_⟩
  exact ((Below.refl _ w).alloc (Nat.le_refl _) _).alloc (by simp) _
end
/-- The examples' rows. -/
def rab : B := [[97, 98]]
def rc : B := [[99]]
def r60 : B := [List.replicate 60 0]
def r1 : B := [[1]]
theorem rab_w : Bat.wrong rab = 0 := by decide
theorem rc_w : Bat.wrong rc = 0 := by decide
theorem r1_w : Bat.wrong r1 = 0 := by decide
theorem r60_w : Bat.wrong r60 = 0 := by decide
theorem rab_l : (Bat.put rab).length = 22 := by rw [Bat.put_length]; decide
theorem rc_l : (Bat.put rc).length = 21 := by rw [Bat.put_length]; decide
theorem r60_l : (Bat.put r60).length = 80 := by rw [Bat.put_length]; decide
theorem rc_scan : Bat.scan (Bat.put rc) = ([rc], 21, 0) := by
  have := Bat.scan_put rc_w []
  rw [List.append_nil, Bat.scan_nil, rc_l] at this
  exact this
/-- The example's journal, step by step. -/
theorem ex_steps {s0 : DS} (h : JN s0 ⟨2, 1, 0⟩ 100 (fun _ => [])) :
    ∃ s1 s2 s3, appendJ s0 ⟨2, 1, 0⟩ rab = (0, s1) ∧ (rd s1 (0 : Nat)).length = 22 ∧ Dk.free s1 = 78 ∧ appendJ s1 ⟨2, 1, 0⟩ r60 = (5, s1) ∧ switchJ s1 ⟨2, 1, 0⟩ rc = (0, s2, ⟨3, 1, 1⟩) ∧
      (rd s2 (1 : Nat)).length = 21 ∧ Dk.free s2 = 79 ∧ openD s2 = (0, s3, ⟨4, 2, 1⟩) ∧ openB s2 = ([rc], 21, 0) := by
  obtain ⟨s1, e1, h1⟩ := h.append rab rab_w (by rw [rab_l]; decide)
  have a0 : (upd (fun _ : Nat => ([] : List UInt8)) (⟨2, 1, 0⟩ : H).live ([] ++ Bat.put rab)) 0 = Bat.put rab := by rw [upd_eq]; rfl
  have a1 : (upd (fun _ : Nat => ([] : List UInt8)) (⟨2, 1, 0⟩ : H).live ([] ++ Bat.put rab)) 1 = [] := upd_ne (by decide)
  have f1 : Dk.free s1 = 78 := by rw [h1.free]; dsimp only; rw [a0, a1, rab_l]; rfl
  obtain ⟨s2, e2, h2⟩ := h1.switch rc rc_w (by rw [a0, a1, rab_l, rc_l]; decide) (by decide)
  have b1 : s2.all 1 = Bat.put rc := (h2.all 1 (by decide)).trans (by show (if 1 = 0 then _ else _) = _; rw [if_neg (by decide)]; show (upd _ _ _) 1 ++ _ = _; rw [a1]; rfl)
  have b0 : s2.all 0 = [] := (h2.all 0 (by decide)).trans rfl
  have r2 : rd s2 (1 : Nat) = Bat.put rc := (h2.rd (i := 1) (by decide)).trans ((h2.all 1 (by decide)).symm.trans b1)
  obtain ⟨s3, e3, h3, e4⟩ := h2.opened (by decide)
  refine ⟨s1, s2, s3, e1, ?_, f1, h1.append_full r60 r60_w (by rw [a0, a1, rab_l, r60_l]; decide), e2, by rw [r2, rc_l], ?_, e3, ?_⟩
  · rw [h1.rd (i := 0) (by decide), a0, rab_l]
  · rw [h2.free, ← h2.all 0 (by decide), ← h2.all 1 (by decide), b0, b1, rc_l]; rfl
  · rw [e4, ← h2.all _ h2.lv]
    show Bat.scan (s2.all 1) = _
    rw [b1, rc_scan]
end Go.Proofs.Ytmkijkkddoamgaa.Jo
