/-
  A range over a function whose iterator brings evidence along with what it yields (a fresh block of memory, say).
-/
import Derived.Test.YtpohefpiidlnjaaWordsRound
import Derived.RangeFuncLeaves
namespace Go.Proofs.Ytpohefpiidlnjaa.Wd
open Go Go.RowKit

/-- From B on blocks that hold no cells may turn; and there may be more blocks. -/
structure Turns (B : Nat) (W W' : World) : Prop where
  below : Below B W W'
  cells : ∀ (k : Nat) (o : Obj), W.heap[k]? = some o → o.isCells = true → W'.heap[k]? = some o
theorem Turns.of_below {B : Nat} {W W' : World} (h : Below W.heap.size W W') (hB : B ≤ W.heap.size) : Turns B W W' :=
  ⟨h.mono hB, fun k _ hk _ => (h.block k (Array.getElem?_eq_some_iff.1 hk).1).trans hk⟩
theorem Turns.trans {B : Nat} {X Y Z : World} (h : Turns B X Y) (k : Turns B Y Z) : Turns B X Z := ⟨h.below.trans k.below, fun i o hi ho => k.cells i o (h.cells i o hi ho) ho⟩
theorem Turns.putObj {B : Nat} {W : World} {l : Nat} {o : Obj} (o' : Obj) (hl : B ≤ l) (h : W.heap[l]? = some o) (ho : o.isCells = false) : Turns B W (W.putObj l o') :=
  ⟨(Below.refl B W).grown (grownBy_putObj' W l o') (by have := (Array.getElem?_eq_some_iff.1 h).1; omega) (fun k e => by cases e; omega), fun k u hk hu => by
    have hne : k ≠ l := by rintro rfl; rw [h] at hk; cases hk; rw [ho] at hu; cases hu
    exact (World.putObj_heap_other hne).trans hk⟩

/-- How a round may end: on it goes, or the loop's function returns. -/
def roundEnds {σ α : Type} (Kp : World → World → Prop) (go : α → Bool) (I : σ → World → Prop) (Ix : σ → α → World → Prop) (s s' : σ) (x : α) (W : World) : Exit → Act → World → Prop
  | .normal, _, W' => KeepsOthers W W' ∧ Kp W W' ∧ go x = true ∧ I s' W'
  | .ret, _, W' => KeepsOthers W W' ∧ go x = false ∧ Ix s x W'
  | _, _, _ => False

theorem range_ev {P : Program} {σ α : Type} {g : Operand} {ps : Array Tmp} {assign body : Code} {Q : Exit → Act → World → Prop} {a : Act} {w : World}
    {gf : Nat} {lb : Array Value} (hg : a.eval g = .func (.func gf) #[] lb) (eg : ∀ args w, (callFunc gf args).run P w = .ok (.enter gf args) w)
    (encs : α → Array Value) (hps : ∀ x, (encs x).size = ps.size) (step : σ → α → σ) (s₀ : σ) (E : σ → α → World → Prop) (go : α → Bool)
    (Kp : World → World → Prop) (hKt : ∀ {A B C : World}, Kp A B → Kp B C → Kp A C) (hKb : ∀ (W : World) (l : Nat) (o o' : Obj), w.heap.size ≤ l → W.heap[l]? = some o → o.isCells = false → Kp W (W.putObj l o'))
    (S : σ → Prop) (Sx : σ → α → Prop)
    (hseq : ∀ (l : Nat) (J : σ → World → Prop) (Jx : σ → α → World → Prop) (W : World), Turns w.heap.size w W →
      (∀ s W W', J s W → Below W.heap.size W W' → J s W') →
      (∀ s x W, J s W → E s x W → YieldAt Fence.wide 8 P l (encs x) W fun e W' => (e = .returned (.bool true) ∧ go x = true ∧ J (step s x) W' ∧ Kp W W') ∨ (e = .returned (.bool false) ∧ go x = false ∧ Jx s x W')) →
      J s₀ W → CallsIn Fence.wide 9 P gf (#[.func (.yield l) #[] #[]] ++ lb) W fun e W' => (∃ v, e = .returned v) ∧ ((∃ s, S s ∧ J s W') ∨ ∃ s x, Sx s x ∧ Jx s x W'))
    (I : σ → World → Prop) (Ix : σ → α → World → Prop) (hI : ∀ s W W', I s W → Turns w.heap.size W W' → I s W') (hIx : ∀ s x W W', Ix s x W → Turns w.heap.size W W' → Ix s x W') (hE : ∀ s x W W', E s x W → Turns w.heap.size W W' → E s x W')
    (h0 : I s₀ w) (Ax : σ → α → Act → World → Prop) (hAx : ∀ s x a' W W', Ax s x a' W → Turns w.heap.size W W' → Ax s x a' W')
    (hassign : ∀ (l : Nat) (s : σ) (x : α) (W : World) (K : Act → World → Prop), I s W → E s x W → (∀ a' W', KeepsOthers W W' → Kp W W' → I s W' → E s x W' → Ax s x a' W' → K a' W') →
      assign.wpIn (Fence.wide.inRound l) 8 P (Exit.then K (fun _ _ _ => False)) { tmps := (ps.zip (encs x)).foldl (fun t (p, v) => t.setIfInBounds p v) a.tmps, defers := [] } W)
    (hbody : ∀ (l : Nat) (s : σ) (x : α) (a' : Act) (W : World), I s W → E s x W → Ax s x a' W → body.wpIn (Fence.wide.inRound l) 8 P (roundEnds Kp go I Ix s (step s x) x W) a' W)
    (hdone : ∀ (D : Nat) (s : σ) (W : World), w.heap.size ≤ D → S s → I s W → W.heap[D]? = some (.deferred (some [])) → Q .normal { a with defers := { target := .collected D, args := #[] } :: a.defers } W)
    (hstop : ∀ (D : Nat) (s : σ) (x : α) (W : World), w.heap.size ≤ D → Sx s x → Ix s x W → W.heap[D]? = some (.deferred (some [])) → Code.ret.wpIn Fence.wide 10 P Q { a with defers := { target := .collected D, args := #[] } :: a.defers } W) :
    (Code.rangeFunc g ps assign body).wpIn Fence.wide 10 P Q a w := by
  refine wpIn_rangeFunc ?_
  intro fn hfn
  obtain ⟨rc, hrc⟩ : ∃ rc : LoopState → Option Code → Loop, rc = fun st pe => { state := st, pending := pe, fn, tmps := a.tmps, params := ps, assign, body, defers := w.heap.size } := ⟨_, rfl⟩
  obtain ⟨W1, hW1⟩ : ∃ W1, (w.alloc (.deferred (some []))).alloc (.loop (rc .ready none)) = W1 := ⟨_, rfl⟩
  have hb1 : Below w.heap.size w W1 := by rw [← hW1]; exact ((Below.refl _ w).alloc (Nat.le_refl _) _).alloc (by simp) _
  have hL1 : W1.heap[w.heap.size + 1]? = some (.loop (rc .ready none)) := by
    rw [← hW1]; have := World.alloc_heap_new (w.alloc (.deferred (some []))) (.loop (rc .ready none)); rwa [World.size_alloc] at this
  have hD1 : W1.heap[w.heap.size]? = some (.deferred (some [])) := by
    rw [← hW1]; exact (Below.heap_alloc _ _ _ (by simp)).trans (World.alloc_heap_new w _)
  have hT1 : Turns w.heap.size w W1 := Turns.of_below hb1 (Nat.le_refl _)
  refine ⟨w.heap.size + 1, [{ target := .collected w.heap.size, args := #[] }], W1, { target := .fn (.func gf) lb, args := #[.func (.yield (w.heap.size + 1)) #[] #[]] }, W1, gf,
    #[.func (.yield (w.heap.size + 1)) #[] #[]] ++ lb, W1, ?_, ?_, fun _ _ => trivial, ?_, fun _ => by omega, ?_⟩
  · rw [← hW1, hrc]; exact run_enterLoop_outer _ _ _ _ _
  · simp only [resolve, hg]
    simp [go_sem]
  · simp [invoke, go_sem, eg]
  refine (hseq (w.heap.size + 1)
    (fun s W => I s W ∧ W.heap[w.heap.size + 1]? = some (.loop (rc .ready none)) ∧ W.heap[w.heap.size]? = some (.deferred (some [])))
    (fun s x W => Ix s x W ∧ W.heap[w.heap.size + 1]? = some (.loop (rc .done (some .ret))) ∧ W.heap[w.heap.size]? = some (.deferred (some []))) W1 hT1 ?_ ?_ ⟨hI _ _ _ h0 hT1, hL1, hD1⟩).mono ?_
  · rintro s W W' ⟨hi, hl, hd⟩ hb
    have hlt := (Array.getElem?_eq_some_iff.1 hl).1
    exact ⟨hI _ _ _ hi (Turns.of_below hb (by omega)), (hb.block _ hlt).trans hl, (hb.block _ (by omega)).trans hd⟩
  · rintro s x W ⟨hi, hl, hd⟩ he
    have hy := run_yield (P := P) (args := encs x) hl (by rw [hrc]; exact hps x)
    rw [hrc] at hy
    refine ⟨fn, _, assign, body, hy, roundIn_of_wpIn hfn (hassign _ s x W _ hi he ?_)⟩
    clear hy
    intro a' Wa hka hkp hia hea hax
    have hla := hka.same _ _ hl rfl
    have hda := hka.same _ _ hd rfl
    have hlt : w.heap.size + 1 < Wa.heap.size := (Array.getElem?_eq_some_iff.1 hla).1
    refine ⟨_, run_beginRound hla (by rw [hrc]), ?_⟩
    have hT2 : Turns w.heap.size Wa (Wa.putObj (w.heap.size + 1) (.loop { rc .ready none with state := .busy })) := Turns.putObj _ (by omega) hla rfl
    have hl2 : (Wa.putObj (w.heap.size + 1) (.loop { rc .ready none with state := .busy })).heap[w.heap.size + 1]? = some (.loop { rc .ready none with state := .busy }) := World.putObj_heap_same hlt
    have hd2 : (Wa.putObj (w.heap.size + 1) (.loop { rc .ready none with state := .busy })).heap[w.heap.size]? = some (.deferred (some [])) := (World.putObj_heap_other (by omega)).trans hda
    have hk2 : Kp Wa (Wa.putObj (w.heap.size + 1) (.loop { rc .ready none with state := .busy })) := hKb _ _ _ _ (by omega) hla rfl
    refine wpIn_mono (hbody _ s x a' _ (hI _ _ _ hia hT2) (hE _ _ _ _ hea hT2) (hAx _ _ _ _ _ hax hT2)) ?_
    have fin : ∀ (jump : Option Code) (W3 : World), KeepsOthers (Wa.putObj (w.heap.size + 1) (.loop { rc .ready none with state := .busy })) W3 →
        (Instr.endRound (w.heap.size + 1) jump).run P W3 = .ok (.bool jump.isNone) (W3.putObj (w.heap.size + 1) (.loop (rc (if jump.isNone then .ready else .done) jump))) ∧
        Turns w.heap.size W3 (W3.putObj (w.heap.size + 1) (.loop (rc (if jump.isNone then .ready else .done) jump))) ∧
        Kp W3 (W3.putObj (w.heap.size + 1) (.loop (rc (if jump.isNone then .ready else .done) jump))) ∧
        (W3.putObj (w.heap.size + 1) (.loop (rc (if jump.isNone then .ready else .done) jump))).heap[w.heap.size + 1]? = some (.loop (rc (if jump.isNone then .ready else .done) jump)) ∧
        (W3.putObj (w.heap.size + 1) (.loop (rc (if jump.isNone then .ready else .done) jump))).heap[w.heap.size]? = some (.deferred (some [])) := fun jump W3 hk3 => by
      have hl3 := hk3.same _ _ hl2 rfl
      have hd3 := hk3.same _ _ hd2 rfl
      have := run_endRound (P := P) jump hl3
      refine ⟨by rw [hrc] at this ⊢; exact this, Turns.putObj _ (by omega) hl3 rfl, hKb _ _ _ _ (by omega) hl3 rfl, World.putObj_heap_same (Array.getElem?_eq_some_iff.1 hl3).1, (World.putObj_heap_other (by omega)).trans hd3⟩
    rintro e a3 W3 hp
    cases e with
    | normal =>
      obtain ⟨hk3, hkp3, hgo, hi3⟩ := hp
      obtain ⟨hr, hT, hkb, hl4, hd4⟩ := fin none W3 hk3
      exact ⟨_, _, hr, .inl ⟨rfl, hgo, ⟨hI _ _ _ hi3 hT, hl4, hd4⟩, hKt hkp (hKt (hKt hk2 hkp3) hkb)⟩⟩
    | ret =>
      obtain ⟨hk3, hgo, hi3⟩ := hp
      obtain ⟨hr, hT, hkb, hl4, hd4⟩ := fin (some .ret) W3 hk3
      exact ⟨_, _, hr, .inr ⟨rfl, hgo, hIx _ _ _ _ hi3 hT, hl4, hd4⟩⟩
    | exit id => exact hp.elim
    | goto t => exact hp.elim
    | panic ch => exact hp.elim
    | outgrown => exact hp.elim
  · rintro e W2 ⟨⟨v, rfl⟩, (⟨s, hS, hi, hl, hd⟩ | ⟨s, x, hSx, hi, hl, hd⟩)⟩
    · have hT := Turns.putObj (B := w.heap.size) (.loop (rc .exhausted none)) (by omega) hl rfl
      exact ⟨none, _, by have := run_endLoop (P := P) hl (by rw [hrc]; simp); rw [hrc] at this ⊢; exact this, hdone _ s _ (Nat.le_refl _) hS (hI _ _ _ hi hT) ((World.putObj_heap_other (by omega)).trans hd)⟩
    · have hT := Turns.putObj (B := w.heap.size) (.loop (rc .exhausted (some .ret))) (by omega) hl rfl
      exact ⟨some .ret, _, by have := run_endLoop (P := P) hl (by rw [hrc]; simp); rw [hrc] at this ⊢; exact this, hstop _ s x _ (Nat.le_refl _) hSx (hIx _ _ _ _ hi hT) ((World.putObj_heap_other (by omega)).trans hd)⟩
end Go.Proofs.Ytpohefpiidlnjaa.Wd
