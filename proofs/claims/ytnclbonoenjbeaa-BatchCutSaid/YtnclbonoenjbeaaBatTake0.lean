/-
  What a scan holds: its two rows; a record more; a batch more.
-/
import Derived.Test.YtnclbonoenjbeaaBatWalks1
import Derived.Test.YtnclbonoenjbeaaWordsEqual
namespace Go.Proofs.Ytnclbonoenjbeaa.BatW
set_option linter.unusedVariables false
open Go.RowKit Go.Proofs Go.Proofs.Ytnclbonoenjbeaa Go.Proofs.Ytnclbonoenjbeaa.Wd Go.Proofs.Ytnclbonoenjbeaa.RecW
open Go.Proofs.Ytnclbonoenjbeaa.Rec (R)
open Go.Proofs.Ytnclbonoenjbeaa.Bat (B cnt St)

structure TS (w : World) (base gs : Nat) (vo vk : Value) (s : St) : Prop where
  lo : base ≤ gs
  blk : Blk w gs 57 #[vo, vk]
  kept : Kept w base vk s.2
  outs : Outs w base vo s.1 vk
section
variable {w w' w2 : World} {base gs : Nat} {vo vk : Value} {s : St}
theorem TS.below (h : TS w base gs vo vk s) (hb : Below w.heap.size w w') : TS w' base gs vo vk s := ⟨h.lo, h.blk.below hb h.blk.lt, h.kept.below hb, h.outs.below hb⟩
theorem row_other {e t : TypeId} {v : Value} {n : Nat} {xs : List Value} (ho : w.ownsRow base e 1 v n xs) (hne : e ≠ t) : ∀ g, v.ownBlock = some g → ∃ t' cs, Blk w g t' cs ∧ t' ≠ t := fun g hg => by
  obtain ⟨_, cs, hc⟩ := own_row ho hg
  exact ⟨_, cs, hc, hne⟩
theorem TS.app (h : TS w base gs vo vk s) {vd : Value} {d : List UInt8} (hd : w.ownsRow base 5 1 vd d.length (bs d)) {n : Nat} {xs : List Value} (ho : w.ownsRow base 24 1 vk n xs) (hx : RowsAt w base xs s.2) (hg : w.grownBy w2 vk.ownBlock)
    {v' : Value} {m : Nat} (hm : m = s.2.length + 1) (hn : w2.ownsRow base 24 1 v' m (xs ++ [vd])) (hv : v'.ownBlock = vk.ownBlock ∨ v'.ownBlock = some w.heap.size) : TS (w2.setCell ⟨gs, 1, none⟩ v') base gs vo v' (s.1, s.2 ++ [d]) ∧ Below base w2 (w2.setCell ⟨gs, 1, none⟩ v') := by
  subst hm
  have hne : ∀ g, vk.ownBlock = some g → g ≠ gs := fun g hg e => by
    obtain ⟨_, cs, hc⟩ := own_row ho hg
    exact Blk.ne_ hc h.blk (by decide) e
  have b2 : Blk w2 gs 57 #[vo, vk] := h.blk.grown hg (fun e => hne gs e.symm rfl)
  have k8 : KeepT 5 none w2 (w2.setCell ⟨gs, 1, none⟩ v') := KeepT.set_ b2 (by decide) _ _
  have kS : ∀ row, KeepT 24 row w2 (w2.setCell ⟨gs, 1, none⟩ v') := fun row => KeepT.set_ b2 (by decide) _ _
  have kSS : KeepT 37 none w2 (w2.setCell ⟨gs, 1, none⟩ v') := KeepT.set_ b2 (by decide) _ _
  have j8 : KeepT 5 none w w2 := KeepT.grownOther hg (row_other ho (by decide))
  have jSS : KeepT 37 none w w2 := KeepT.grownOther hg (row_other ho (by decide))
  have o2 : Outs w2 base vo s.1 vk := h.outs.keep j8 (KeepT.grown hg) jSS
  refine ⟨⟨h.lo, b2.set_ 1 v', ⟨xs ++ [vd], ?_, ?_⟩, ?_⟩, (Below.refl base w2).setCell (p := ⟨gs, 1, none⟩) h.lo v'⟩
  · have := own_T hn (kS none) (fun _ _ => by simp)
    simpa using this
  · exact ((hx.keep j8).snoc (own_T hd j8 (fun _ _ => by simp))).keep k8
  · refine (h.outs.grow j8 (KeepT.grown hg) jSS (u' := v') ?_).keep k8 (kS _) kSS
    rcases hv with e | e
    · exact .inl e
    · exact .inr (.inr ⟨_, e, Nat.le_refl _⟩)
theorem TS.end_ (h : TS w base gs vo vk s) {n : Nat} {xs : List Value} (ho : w.ownsRow base 37 1 vo n xs) (hx : ∀ j (hj : j < s.1.length), ∃ v, xs[j]? = some v ∧ Kept w base v s.1[j] ∧ ∀ g, v.ownBlock = some g → vk.ownBlock ≠ some g) (hxl : xs.length = s.1.length) (hg : w.grownBy w2 vo.ownBlock)
    {v' : Value} {m : Nat} (hm : m = s.1.length + 1) (hn : w2.ownsRow base 37 1 v' m (xs ++ [vk])) :
    TS ((w2.setCell ⟨gs, 0, none⟩ v').setCell ⟨gs, 1, none⟩ (.slice none 0 0)) base gs v' (.slice none 0 0) (s.1 ++ [s.2], []) ∧ Below base w2 ((w2.setCell ⟨gs, 0, none⟩ v').setCell ⟨gs, 1, none⟩ (.slice none 0 0)) := by
  subst hm
  have hne : ∀ g, vo.ownBlock = some g → g ≠ gs := fun g hg e => by
    obtain ⟨_, cs, hc⟩ := own_row ho hg
    exact Blk.ne_ hc h.blk (by decide) e
  have b2 : Blk w2 gs 57 #[vo, vk] := h.blk.grown hg (fun e => hne gs e.symm rfl)
  have b3 := b2.set_ 0 v'
  have j8 : KeepT 5 none w w2 := KeepT.grownOther hg (row_other ho (by decide))
  have jS : KeepT 24 none w w2 := KeepT.grownOther hg (row_other ho (by decide))
  have k8 : KeepT 5 none w2 ((w2.setCell ⟨gs, 0, none⟩ v').setCell ⟨gs, 1, none⟩ (.slice none 0 0)) := (KeepT.set_ b2 (by decide) _ _).trans (KeepT.set_ b3 (by decide) _ _)
  have kS : ∀ row, KeepT 24 row w2 ((w2.setCell ⟨gs, 0, none⟩ v').setCell ⟨gs, 1, none⟩ (.slice none 0 0)) := fun row => (KeepT.set_ b2 (by decide) _ _).trans (KeepT.set_ b3 (by decide) _ _)
  have kSS : KeepT 37 none w2 ((w2.setCell ⟨gs, 0, none⟩ v').setCell ⟨gs, 1, none⟩ (.slice none 0 0)) := (KeepT.set_ b2 (by decide) _ _).trans (KeepT.set_ b3 (by decide) _ _)
  have keep : ∀ {v : Value} {ls : B}, Kept w base v ls → Kept ((w2.setCell ⟨gs, 0, none⟩ v').setCell ⟨gs, 1, none⟩ (.slice none 0 0)) base v ls := fun hv => (hv.keep j8 jS (fun _ _ => by simp)).keep k8 (kS none) (fun _ _ => by simp)
  refine ⟨⟨h.lo, b3.set_ 1 _, Kept.nil _ _, ⟨xs ++ [vk], ?_, fun j hj => ?_⟩⟩, ((Below.refl base w2).setCell (p := ⟨gs, 0, none⟩) h.lo v').setCell (p := ⟨gs, 1, none⟩) h.lo _⟩
  · have := own_T hn kSS (fun _ _ => by simp)
    simpa using this
  · by_cases hlt : j < s.1.length
    · obtain ⟨v, e, hv, _⟩ := hx j hlt
      exact ⟨v, by rw [List.getElem?_append_left (by omega)]; exact e, by rw [List.getElem_append_left hlt]; exact keep hv, fun g hg => by simp [Value.ownBlock]⟩
    · have : j = s.1.length := by simp at hj; omega
      subst this
      exact ⟨vk, by rw [List.getElem?_append_right (by omega), hxl]; simp, by simpa using keep h.kept, fun g hg => by simp [Value.ownBlock]⟩
end
end Go.Proofs.Ytnclbonoenjbeaa.BatW
