/-
  The boxes of a part: what is met, in a map; its places, in a row.
-/
import Derived.Test.YtelplccbcbegkaaOrderWalks1
namespace Go.Proofs.Ytelplccbcbegkaa.OrW
set_option linter.unusedVariables false
open Go Go.RowKit Go.Maps Go.Proofs Go.Proofs.Ytelplccbcbegkaa Go.Proofs.Ytelplccbcbegkaa.Wd Go.Proofs.Ytelplccbcbegkaa.GrW Go.Proofs.Ytelplccbcbegkaa.Ord
open Go.Proofs.Ytelplccbcbegkaa.Gr (OK putL)

theorem law : Keyed Try.prog 3 := int_keyed Try.underlying3
theorem zeroI (w : World) : (zeroValue 3).run Try.prog w = .ok (.int .i64 0) w := by kernel_rfl
abbrev OM (W : World) (mb n : Nat) (D : DataW Unit) : Prop := W.ownsMap Try.prog 3 (plainElem Try.prog 3) mb n D
/-- The places of vertices. -/
def pls (P K : List Nat) : List Nat := K.map fun y => P.getD y 0
theorem pls_length (P K : List Nat) : (pls P K).length = K.length := by simp [pls]
def fromV (bm bu bo bx bf bq : Nat) : Value := .func (.func 76) #[] #[.pointer (some ⟨bm, 0, none⟩), .pointer (some ⟨bu, 0, none⟩), .pointer (some ⟨bo, 0, none⟩), .pointer (some ⟨bx, 0, none⟩), .pointer (some ⟨bf, 0, none⟩), .pointer (some ⟨bq, 0, none⟩)]
/-- Between two operations: K is in the map, the places of U in the row. -/
structure PS (w0 W : World) (o bm bu bo bx bf bq mb : Nat) (nv mv : Value) (P K U : List Nat) : Prop where
  low : Below w0.heap.size w0 W
  hm : Blk W bm 31 #[.map (some mb)]
  ho : Blk W bo 23 #[.pointer (some ⟨o, 0, none⟩)]
  hx : Blk W bx 97 #[nv]
  hf : Blk W bf 82 #[mv]
  hq : Blk W bq 114 #[fromV bm bu bo bx bf bq]
  hu : ∃ v, Blk W bu 27 #[v] ∧ W.ownsRow w0.heap.size 3 1 v (pls P U).length (iv (zs (pls P U)))
  hmap : ∃ D, OM W mb K.length D ∧ InMap D (zs K)
  farU : w0.heap.size ≤ bu
  farM : w0.heap.size ≤ mb
/-- The blocks that may be another: the map, the row's box, the row. -/
def Fo (mb bu : Nat) (W : World) (k : Nat) : Prop := k = mb ∨ k = bu ∨ ∃ v, W.cell? ⟨bu, 0, none⟩ = some v ∧ v.ownBlock = some k
def PFr (mb bu : Nat) (W W' : World) : Prop := Fr (Fo mb bu W) W W' ∧ ∀ k, Fo mb bu W' k → Fo mb bu W k ∨ W.heap.size ≤ k
theorem PFr.refl (mb bu : Nat) (W : World) : PFr mb bu W W := ⟨Fr.refl _ _, fun k h => .inl h⟩
theorem PFr.trans {mb bu : Nat} {a b c : World} (h : PFr mb bu a b) (k : PFr mb bu b c) : PFr mb bu a c :=
  ⟨h.1.trans k.1 fun j hj e => by
    rcases h.2 j e with e | e
    · exact e
    · omega, fun j e => by
    rcases k.2 j e with e | e
    · exact h.2 j e
    · have := h.1.size; exact .inr (by omega)⟩
theorem om_blk {W : World} {mb n : Nat} {D : DataW Unit} (h : OM W mb n D) : ∃ es clock, W.heap[mb]? = some (.map es clock) := by
  obtain ⟨es, clock, h1, -⟩ := h
  exact ⟨es, clock, h1⟩
theorem om_keep {W W' : World} {mb n : Nat} {D : DataW Unit} (h : OM W mb n D) (hk : W'.heap[mb]? = W.heap[mb]?) : OM W' mb n D := by
  obtain ⟨es, clock, h1, h2⟩ := h
  exact ⟨es, clock, hk.trans h1, h2⟩
theorem om_ne {W : World} {mb n b : Nat} {D : DataW Unit} (h : OM W mb n D) {t : TypeId} {cs : Array Value} (hb : Blk W b t cs) : b ≠ mb := fun e => by
  obtain ⟨es, clock, h1⟩ := om_blk h
  rw [e] at hb
  have := hb.out.symm.trans h1
  cases this
theorem om_lt {W : World} {mb n : Nat} {D : DataW Unit} (h : OM W mb n D) : mb < W.heap.size := by
  obtain ⟨es, clock, h1⟩ := om_blk h
  exact (Array.getElem?_eq_some_iff.1 h1).1
section
variable {w0 W W' : World} {o bm bu bo bx bf bq mb : Nat} {nv mv : Value} {P K U : List Nat}
theorem PS.below (h : PS w0 W o bm bu bo bx bf bq mb nv mv P K U) (hb : Below W.heap.size W W') : PS w0 W' o bm bu bo bx bf bq mb nv mv P K U := by
  obtain ⟨v, u1, u2⟩ := h.hu
  obtain ⟨D, d1, d2⟩ := h.hmap
  exact { h with
    low := h.low.trans (hb.mono h.low.size)
    hm := h.hm.below hb h.hm.lt
    ho := h.ho.below hb h.ho.lt
    hx := h.hx.below hb h.hx.lt
    hf := h.hf.below hb h.hf.lt
    hq := h.hq.below hb h.hq.lt
    hu := ⟨v, u1.below hb u1.lt, own_belowW u2 hb⟩
    hmap := ⟨D, om_keep d1 (hb.block _ (om_lt d1)), d2⟩ }
theorem PFr.below (h : PS w0 W o bm bu bo bx bf bq mb nv mv P K U) (hb : Below W.heap.size W W') : PFr mb bu W W' := by
  obtain ⟨v, u1, u2⟩ := h.hu
  have e := u1.at_ 0 rfl
  have e' := (u1.below hb u1.lt).at_ 0 rfl
  refine ⟨Fr.of_below hb, fun k hk => .inl ?_⟩
  rcases hk with hk | hk | ⟨v', h1, h2⟩
  · exact .inl hk
  · exact .inr (.inl hk)
  · rw [e'] at h1
    cases h1
    exact .inr (.inr ⟨_, e, h2⟩)
/-- A vertex is met. -/
theorem PS.meet (h : PS w0 W o bm bu bo bx bf bq mb nv mv P K U) {x : Nat} (hx : x ∉ K) {D : DataW Unit} (hD : InMap D (zs K)) (ho : OM W' mb (K.length + 1) (D.put (.int .i64 (x : Nat)) (.lit (.int .i64 1)))) (hg : W.grownBy W' (some mb)) :
    PS w0 W' o bm bu bo bx bf bq mb nv mv P (K ++ [x]) U ∧ PFr mb bu W W' := by
  obtain ⟨v, u1, u2⟩ := h.hu
  obtain ⟨D0, d1, d2⟩ := h.hmap
  have stay : ∀ {b : Nat} {t : TypeId} {cs : Array Value}, Blk W b t cs → Blk W' b t cs := fun hb => hb.grown hg (fun e => om_ne d1 hb (by simpa using e))
  have e := u1.at_ 0 rfl
  have e' := (stay u1).at_ 0 rfl
  refine ⟨{ h with
    low := h.low.grown hg h.low.size (fun j hj => by cases hj; exact h.farM)
    hm := stay h.hm
    ho := stay h.ho
    hx := stay h.hx
    hf := stay h.hf
    hq := stay h.hq
    hu := ⟨v, stay u1, own_keep u2 fun g hv => by
      obtain ⟨_, cs, hc⟩ := own_row u2 hv
      exact (stay hc).trans hc.symm⟩
    hmap := ⟨_, by rw [List.length_append]; exact ho, by rw [zs_append]; exact hD.put (fun e => hx (mem_zs.1 e))⟩ }, Fr.of_grown hg (fun b hb => by cases hb; exact .inl rfl), fun k hk => .inl ?_⟩
  rcases hk with hk | hk | ⟨v', h1, h2⟩
  · exact .inl hk
  · exact .inr (.inl hk)
  · rw [e'] at h1
    cases h1
    exact .inr (.inr ⟨_, e, h2⟩)
/-- A place is told. -/
theorem PS.tell (h : PS w0 W o bm bu bo bx bf bq mb nv mv P K U) {v : Value} (hv : W.cell? ⟨bu, 0, none⟩ = some v) {x : Nat} {v' : Value} (hr : W'.ownsRow w0.heap.size 3 1 v' ((pls P U).length + 1) (iv (zs (pls P U) ++ [((P.getD x 0 : Nat) : Int)]))) (hg : W.grownBy W' v.ownBlock) (hob : v'.ownBlock = v.ownBlock ∨ ∃ g, v'.ownBlock = some g ∧ W.heap.size ≤ g) :
    PS w0 (W'.setCell ⟨bu, 0, none⟩ v') o bm bu bo bx bf bq mb nv mv P K (U ++ [x]) ∧ PFr mb bu W (W'.setCell ⟨bu, 0, none⟩ v') ∧ W'.cell? ⟨bu, 0, none⟩ = some v ∧ W'.frozen? ⟨bu, 0, none⟩ = false ∧ Blk W' bo 23 #[.pointer (some ⟨o, 0, none⟩)] ∧ Below w0.heap.size w0 W' := by
  obtain ⟨v0, u1, u2⟩ := h.hu
  have e := u1.at_ 0 rfl
  have ev : v0 = v := by rw [e] at hv; cases hv; rfl
  subst ev
  obtain ⟨D0, d1, d2⟩ := h.hmap
  have notInt : ∀ {b : Nat} {t : TypeId} {cs : Array Value}, Blk W b t cs → 3 ≠ t → some b ≠ v0.ownBlock := fun hb hne e2 => own_blk_ne u2 hb hne e2.symm
  have u1' : Blk W' bu 27 #[v0] := u1.grown hg (notInt u1 (by decide))
  have stay : ∀ {b : Nat} {t : TypeId} {cs : Array Value}, Blk W b t cs → 3 ≠ t → b ≠ bu → Blk (W'.setCell ⟨bu, 0, none⟩ v') b t cs := fun hb hne h2 => (hb.grown hg (notInt hb hne)).farN h2 _
  have hne : v'.ownBlock ≠ some bu := own_blk_ne hr u1' (by decide)
  have hmbv : v0.ownBlock ≠ some mb := fun e2 => by
    obtain ⟨_, cs, hc⟩ := own_row u2 e2
    exact om_ne d1 hc rfl
  have hmbu : mb ≠ bu := (om_ne d1 u1).symm
  refine ⟨{ h with
    low := (h.low.grown hg h.low.size (fun j hj => (own_row u2 hj).1)).setCell h.farU _
    hm := stay h.hm (by decide) (h.hm.ne_ u1 (by decide))
    ho := stay h.ho (by decide) (h.ho.ne_ u1 (by decide))
    hx := stay h.hx (by decide) (h.hx.ne_ u1 (by decide))
    hf := stay h.hf (by decide) (h.hf.ne_ u1 (by decide))
    hq := stay h.hq (by decide) (h.hq.ne_ u1 (by decide))
    hu := ⟨v', u1'.set_ 0 _, ?_⟩
    hmap := ⟨D0, om_keep d1 ?_, d2⟩ }, ⟨(Fr.of_grown hg (fun b hb => .inr (.inr ⟨v0, e, hb⟩))).set_ (.inr (.inl rfl)) 0 _, fun k hk => ?_⟩, u1'.at_ 0 rfl, u1'.frozen 0, h.ho.grown hg (notInt h.ho (by decide)), h.low.grown hg h.low.size (fun j hj => (own_row u2 hj).1)⟩
  · have e3 : pls P (U ++ [x]) = pls P U ++ [P.getD x 0] := by simp [pls]
    have e4 : zs (pls P (U ++ [x])) = zs (pls P U) ++ [((P.getD x 0 : Nat) : Int)] := by rw [e3, zs_append]; rfl
    rw [e4, e3, List.length_append]
    exact own_far hr hne _
  · exact (heap_setCell_other W' ⟨bu, 0, none⟩ mb _ hmbu).trans (hg.block mb (om_lt d1) hmbv.symm)
  · rcases hk with hk | hk | ⟨v2, h1, h2⟩
    · exact .inl (.inl hk)
    · exact .inl (.inr (.inl hk))
    · have e5 := (u1'.set_ 0 v').at_ 0 rfl
      rw [e5] at h1
      have h3 : v'.ownBlock = some k := by
        have : v' = v2 := Option.some.inj h1
        rw [this]; exact h2
      rcases hob with hob | ⟨g, hob, hlt⟩
      · exact .inl (.inr (.inr ⟨v0, e, by rw [← hob]; exact h3⟩))
      · rw [hob] at h3
        cases h3
        exact .inr hlt
end
theorem nodup_le {n : Nat} {K : List Nat} (h : K.Nodup) (hn : ∀ y ∈ K, y < n) : K.length ≤ n := by
  have h2 := List.Nodup.length_le_of_subset h (l₂ := List.range n) (fun y hy => List.mem_range.2 (hn y hy))
  rwa [List.length_range] at h2
end Go.Proofs.Ytelplccbcbegkaa.OrW
