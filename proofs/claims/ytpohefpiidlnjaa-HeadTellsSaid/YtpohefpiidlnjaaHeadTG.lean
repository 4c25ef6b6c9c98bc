/-
  A disk beside the document's, with three boxes of the law's.
-/
import Derived.Test.YtpohefpiidlnjaaHeadCalls
namespace Go.Proofs.Ytpohefpiidlnjaa.Hr
set_option linter.unusedVariables false
open Go Go.RowKit Go.Proofs Go.Proofs.Ytpohefpiidlnjaa Go.Proofs.Ytpohefpiidlnjaa.Wd
open Go.Proofs.Ytpohefpiidlnjaa.Hd (H Wf)
open Go.Proofs.Ytpohefpiidlnjaa.HdW (hv)
open Go.Proofs.Ytpohefpiidlnjaa.Dk (DS Ok At)
open Go.Proofs.Ytpohefpiidlnjaa.Dr (Sl RV rval rcells Ref)
structure TG (w wr : World) (F : Nat → Prop) (g : Nat) (sp sr : DS) (bm : Nat) (v : Nat → Sl) (cl k : Int) (b5 b6 b7 : Nat) (c5 : Array Value) (h6 h7 : H) : Prop where
  at_ : At wr w.heap.size F g sp
  box : Blk wr bm 69 (rcells sr v cl k)
  boxL : w.heap.size ≤ bm
  boxF : ¬ F bm
  rv : RV wr (fun j => F j ∨ j = bm ∨ j = b6 ∨ j = b7) sr v cl k
  low : Below w.heap.size w wr
  x5 : Blk wr b5 72 c5 ∧ ¬ F b5 ∧ b5 ≠ bm ∧ b5 ≠ b6 ∧ b5 ≠ b7
  x6 : Blk wr b6 24 (hv h6) ∧ ¬ F b6 ∧ b6 ≠ bm ∧ w.heap.size ≤ b6
  x7 : Blk wr b7 24 (hv h7) ∧ ¬ F b7 ∧ b7 ≠ bm ∧ w.heap.size ≤ b7 ∧ b7 ≠ b6
section
variable {w wr w2 : World} {F : Nat → Prop} {g bm : Nat} {sp sr : DS} {v : Nat → Sl} {cl k : Int} {b5 b6 b7 : Nat} {c5 : Array Value} {h6 h7 : H}
theorem TG.below (h : TG w wr F g sp sr bm v cl k b5 b6 b7 c5 h6 h7) (hb : Below wr.heap.size wr w2) : TG w w2 F g sp sr bm v cl k b5 b6 b7 c5 h6 h7 :=
  ⟨h.at_.below hb, h.box.below hb h.box.lt, h.boxL, h.boxF, h.rv.below hb, h.low.trans (hb.mono h.low.size), ⟨h.x5.1.below hb h.x5.1.lt, h.x5.2⟩, ⟨h.x6.1.below hb h.x6.1.lt, h.x6.2⟩, ⟨h.x7.1.below hb h.x7.1.lt, h.x7.2⟩⟩
theorem TG.lt (h : TG w wr F g sp sr bm v cl k b5 b6 b7 c5 h6 h7) : ∀ j, (F j ∨ j = bm ∨ j = b6 ∨ j = b7) → j < wr.heap.size := fun j hj => by
  rcases hj with hj | rfl | rfl | rfl
  · exact (h.at_.lt hj).2
  · exact h.box.lt
  · exact h.x6.1.lt
  · exact h.x7.1.lt
theorem TG.prog (h : TG w wr F g sp sr bm v cl k b5 b6 b7 c5 h6 h7) {sp' : DS} (hn : Dk.Next wr w.heap.size F g sp' w2) : ∃ F', TG w w2 F' g sp' sr bm v cl k b5 b6 b7 c5 h6 h7 := by
  obtain ⟨F', h1, h2, h3⟩ := hn
  have hnf : ∀ {b : Nat}, b < wr.heap.size → ¬ F b → ¬ F' b := fun hb hf hf' => (h3 _ hf').elim hf (fun e => by omega)
  refine ⟨F', h1, h.box.fr h2 h.boxF, h.boxL, hnf h.box.lt h.boxF, ((h.rv.less (G := fun j => F j ∨ F' j ∨ j = bm ∨ j = b6 ∨ j = b7) ?_).fr h2 (fun j hj => .inl (.inl hj))).less (fun j hj => .inl (.inr hj)), h.low.trans (h2.below h.low.size fun j hj => (h.at_.lt hj).1), ⟨h.x5.1.fr h2 h.x5.2.1, hnf h.x5.1.lt h.x5.2.1, h.x5.2.2⟩, ⟨h.x6.1.fr h2 h.x6.2.1, hnf h.x6.1.lt h.x6.2.1, h.x6.2.2⟩, ⟨h.x7.1.fr h2 h.x7.2.1, hnf h.x7.1.lt h.x7.2.1, h.x7.2.2⟩⟩
  intro j hj
  rcases hj with hj | hj | hj
  · exact .inl (.inl hj)
  · rcases h3 j hj with h4 | h4
    · exact .inl (.inl h4)
    · exact .inr h4
  · exact .inl (.inr hj)
theorem TG.ref (h : TG w wr F g sp sr bm v cl k b5 b6 b7 c5 h6 h7) (hb : Below wr.heap.size wr w2) {sr' : DS} {v' : Nat → Sl} {cl' k' : Int} (hr : RV w2 (fun j => F j ∨ j = bm ∨ j = b6 ∨ j = b7) sr' v' cl' k') {X : Array Value} (hX : X = rcells sr' v' cl' k') : TG w (w2.setRow bm X) F g sp sr' bm v' cl' k' b5 b6 b7 c5 h6 h7 := by
  subst hX
  have h2 := h.below hb
  have hf : Fr (fun j => j = bm) w2 (w2.setRow bm (rcells sr' v' cl' k')) := ⟨rfl, rfl, rfl, by simp, fun j hj hne => setRow_other w2 _ j _ hne⟩
  exact ⟨h2.at_.fr hf (fun j hj e => h2.boxF (e ▸ hj)), h2.box.row _, h2.boxL, h2.boxF, hr.fr hf (fun j hj => .inl (.inr (.inl hj))), Dr.below_row h2.low h2.boxL _, ⟨h2.x5.1.rowFar h2.x5.2.2.1 _, h2.x5.2⟩, ⟨h2.x6.1.rowFar h2.x6.2.2.1 _, h2.x6.2⟩, ⟨h2.x7.1.rowFar h2.x7.2.2.1 _, h2.x7.2⟩⟩
theorem TG.set6 (h : TG w wr F g sp sr bm v cl k b5 b6 b7 c5 h6 h7) (x : H) : TG w (wr.setRow b6 (hv x)) F g sp sr bm v cl k b5 b6 b7 c5 x h7 := by
  have hf : Fr (fun j => j = b6) wr (wr.setRow b6 (hv x)) := ⟨rfl, rfl, rfl, by simp, fun j hj hne => setRow_other wr _ j _ hne⟩
  exact ⟨h.at_.fr hf (fun j hj e => h.x6.2.1 (e ▸ hj)), h.box.rowFar (fun e => h.x6.2.2.1 e.symm) _, h.boxL, h.boxF, h.rv.fr hf (fun j hj => .inl (.inr (.inr (.inl hj)))), Dr.below_row h.low h.x6.2.2.2 _, ⟨h.x5.1.rowFar h.x5.2.2.2.1 _, h.x5.2⟩, ⟨h.x6.1.row _, h.x6.2⟩, ⟨h.x7.1.rowFar h.x7.2.2.2.2 _, h.x7.2⟩⟩
theorem TG.set7 (h : TG w wr F g sp sr bm v cl k b5 b6 b7 c5 h6 h7) (x : H) : TG w (wr.setRow b7 (hv x)) F g sp sr bm v cl k b5 b6 b7 c5 h6 x := by
  have hf : Fr (fun j => j = b7) wr (wr.setRow b7 (hv x)) := ⟨rfl, rfl, rfl, by simp, fun j hj hne => setRow_other wr _ j _ hne⟩
  exact ⟨h.at_.fr hf (fun j hj e => h.x7.2.1 (e ▸ hj)), h.box.rowFar (fun e => h.x7.2.2.1 e.symm) _, h.boxL, h.boxF, h.rv.fr hf (fun j hj => .inl (.inr (.inr (.inr hj)))), Dr.below_row h.low h.x7.2.2.2.1 _, ⟨h.x5.1.rowFar h.x5.2.2.2.2 _, h.x5.2⟩, ⟨h.x6.1.rowFar (fun e => h.x7.2.2.2.2 e.symm) _, h.x6.2⟩, ⟨h.x7.1.row _, h.x7.2⟩⟩
end
/-- Both disks between two rounds. -/
structure TR (w wr : World) (F : Nat → Prop) (g : Nat) (s : DS) (bm : Nat) (v : Nat → Sl) (cl k : Int) : Prop where
  at_ : At wr w.heap.size F g s
  box : Blk wr bm 69 (rcells s v cl k)
  boxL : w.heap.size ≤ bm
  boxF : ¬ F bm
  rv : RV wr (fun j => F j ∨ j = bm) s v cl k
  low : Below w.heap.size w wr
theorem TR.open_ {w wr : World} {F : Nat → Prop} {g bm : Nat} {s : DS} {v : Nat → Sl} {cl k : Int} (h : TR w wr F g s bm v cl k) (c5 : Array Value) :
    TG w (((wr.alloc (.cells c5 72)).alloc (.cells #[.int .u64 0, .int .u64 0, .int .u8 0] 24)).alloc (.cells #[.int .u64 0, .int .u64 0, .int .u8 0] 24)) F g s s bm v cl k wr.heap.size (wr.heap.size + 1) (wr.heap.size + 1 + 1) c5 Hd.none_ Hd.none_ := by
  have hb : Below wr.heap.size wr (((wr.alloc (.cells c5 72)).alloc (.cells #[.int .u64 0, .int .u64 0, .int .u8 0] 24)).alloc (.cells #[.int .u64 0, .int .u64 0, .int .u8 0] 24)) := (((Below.refl _ wr).alloc (Nat.le_refl _) _).alloc (by simp) _).alloc (by simp; omega) _
  have hF : ∀ b, wr.heap.size ≤ b → ¬ F b := fun b hb hf => by have := (h.at_.lt hf).2; omega
  have hl := h.box.lt
  have hw := h.low.size
  refine ⟨h.at_.below hb, h.box.below hb hl, h.boxL, h.boxF, (h.rv.less ?_).below hb, h.low.trans (hb.mono hw), ⟨((Blk.new_ wr _ _ rfl).alloc _).alloc _, hF _ (Nat.le_refl _), by omega, by omega, by omega⟩, ⟨(Blk.new_ (wr.alloc _) _ _ (n := wr.heap.size + 1) (by simp)).alloc _, hF _ (by omega), by omega, by omega⟩, ⟨Blk.new_ ((wr.alloc _).alloc _) _ _ (n := wr.heap.size + 1 + 1) (by simp), hF _ (by omega), by omega, by omega, by omega⟩⟩
  intro j hj
  rcases hj with hj | hj | hj | hj
  · exact .inl (.inl hj)
  · exact .inl (.inr hj)
  · exact .inr (by omega)
  · exact .inr (by omega)
theorem TG.shut {w wr : World} {F : Nat → Prop} {g bm : Nat} {s : DS} {v : Nat → Sl} {cl k : Int} {b5 b6 b7 : Nat} {c5 : Array Value} {h6 h7 : H} (h : TG w wr F g s s bm v cl k b5 b6 b7 c5 h6 h7) : TR w wr F g s bm v cl k :=
  ⟨h.at_, h.box, h.boxL, h.boxF, h.rv.less (fun j hj => .inl (hj.elim .inl (fun e => .inr (.inl e)))), h.low⟩
theorem TR.below {w wr w2 : World} {F : Nat → Prop} {g bm : Nat} {s : DS} {v : Nat → Sl} {cl k : Int} (h : TR w wr F g s bm v cl k) (hb : Below wr.heap.size wr w2) : TR w w2 F g s bm v cl k :=
  ⟨h.at_.below hb, h.box.below hb h.box.lt, h.boxL, h.boxF, h.rv.below hb, h.low.trans (hb.mono h.low.size)⟩
/-- Behind a call: both tell the same, and the disks are alike. -/
def Mid (w : World) (g bm b5 b6 b7 : Nat) (c5 : Array Value) (v8 v9 : Value) (wx : World) : Prop := ∃ w2, w2 = wx ∧ ∃ (c : Nat) (p : H) (F : Nat → Prop) (s : DS) (v : Nat → Sl) (cl k : Int), v8 = .int .i64 c ∧ v9 = .int .i64 c ∧ TG w w2 F g s s bm v cl k b5 b6 b7 c5 p p
end Go.Proofs.Ytpohefpiidlnjaa.Hr
