/-
  What a way holds while it is looked for.
-/
import Derived.Test.YtelplccbcbegkaaBundleNear
import Derived.Deep.LoopGhost
namespace Go.Proofs.Ytelplccbcbegkaa.OrW
set_option linter.unusedVariables false
open Go Go.RowKit Go.Maps Go.Proofs Go.Proofs.Ytelplccbcbegkaa Go.Proofs.Ytelplccbcbegkaa.Wd Go.Proofs.Ytelplccbcbegkaa.GrW Go.Proofs.Ytelplccbcbegkaa.Ord
open Go.Proofs.Ytelplccbcbegkaa.Gr (OK putL outs intos Path E)

/-- While the layers are gone through: the map in its box, what is next, and rows that lie aside. -/
structure BS (w0 W : World) (bm mb : Nat) (K : List Nat) (f : Nat → Nat) (nv : Value) (next : List Nat) (rs : List (Value × List Int)) : Prop where
  low : Below w0.heap.size w0 W
  hm : Blk W bm 31 #[.map (some mb)]
  farM : w0.heap.size ≤ bm
  farB : w0.heap.size ≤ mb
  hmap : OF W mb K.length f
  hnext : W.ownsRow w0.heap.size 3 1 nv next.length (iv (zs next))
  rows : ∀ p ∈ rs, W.ownsRow w0.heap.size 3 1 p.1 p.2.length (iv p.2) ∧ ∀ g, p.1.ownBlock = some g → nv.ownBlock ≠ some g
section
variable {w0 W W' : World} {bm mb : Nat} {K : List Nat} {f : Nat → Nat} {nv : Value} {next : List Nat} {rs : List (Value × List Int)}
theorem BS.below (h : BS w0 W bm mb K f nv next rs) (hb : Below W.heap.size W W') : BS w0 W' bm mb K f nv next rs :=
  { h with
    low := h.low.trans (hb.mono h.low.size)
    hm := h.hm.below hb h.hm.lt
    hmap := h.hmap.keep (hb.block _ h.hmap.lt)
    hnext := own_belowW h.hnext hb
    rows := fun p hp => ⟨own_belowW (h.rows p hp).1 hb, (h.rows p hp).2⟩ }
theorem BS.row (h : BS w0 W bm mb K f nv next rs) (hb : Below W.heap.size W W') {v : Value} {l : List Int} (hr : W'.ownsRow W.heap.size 3 1 v l.length (iv l)) : BS w0 W' bm mb K f nv next ((v, l) :: rs) :=
  { h.below hb with
    rows := fun p hp => by
      rcases List.mem_cons.1 hp with rfl | hp
      · refine ⟨own_base hr h.low.size, fun g e e2 => ?_⟩
        have h1 := (own_row hr e).1
        obtain ⟨-, cs, h2⟩ := own_row h.hnext e2
        have := h2.lt
        omega
      · exact (h.below hb).rows p hp }
theorem BS.drop {p : Value × List Int} (h : BS w0 W bm mb K f nv next (p :: rs)) : BS w0 W bm mb K f nv next rs := { h with rows := fun q hq => h.rows q (List.mem_cons_of_mem _ hq) }
theorem OF.ne {n b : Nat} (h : OF W mb n f) {t : TypeId} {cs : Array Value} (hb : Blk W b t cs) : b ≠ mb := by
  obtain ⟨D, h1, h2⟩ := h
  exact om_ne h1 hb
theorem own_grown {base n : Nat} {v : Value} {xs : List Value} (h : W.ownsRow base 3 1 v n xs) {r : Option Nat} (hg : W.grownBy W' r) (hr : ∀ g, v.ownBlock = some g → r ≠ some g) : W'.ownsRow base 3 1 v n xs :=
  own_keep h fun g e => by
    obtain ⟨-, cs, hb⟩ := own_row h e
    exact hg.block g hb.lt (fun e2 => hr g e e2.symm)
theorem BS.meet (h : BS w0 W bm mb K f nv next rs) {u k : Nat} (ho : OF W' mb (K.length + 1) (up f u k)) (hg : W.grownBy W' (some mb)) : BS w0 W' bm mb (K ++ [u]) (up f u k) nv next rs :=
  have hne : ∀ {v : Value} {n : Nat} {xs : List Value}, W.ownsRow w0.heap.size 3 1 v n xs → ∀ g, v.ownBlock = some g → some mb ≠ some g := fun hv g e e2 => by
    obtain ⟨-, cs, hb⟩ := own_row hv e
    cases e2
    exact h.hmap.ne hb rfl
  { h with
    low := h.low.grown hg h.low.size (fun j hj => by cases hj; exact h.farB)
    hm := h.hm.grown hg (fun e => h.hmap.ne h.hm (by simpa using e))
    hmap := by rw [List.length_append]; exact ho
    hnext := own_grown h.hnext hg (hne h.hnext)
    rows := fun p hp => ⟨own_grown (h.rows p hp).1 hg (hne (h.rows p hp).1), (h.rows p hp).2⟩ }
theorem BS.push (h : BS w0 W bm mb K f nv next rs) {u : Nat} {v' : Value} (ho : W'.ownsRow w0.heap.size 3 1 v' (next.length + 1) (iv (zs next ++ [((u : Nat) : Int)]))) (hg : W.grownBy W' nv.ownBlock) (hv : v'.ownBlock = nv.ownBlock ∨ ∃ g, v'.ownBlock = some g ∧ W.heap.size ≤ g) : BS w0 W' bm mb K f v' (next ++ [u]) rs :=
  { h with
    low := h.low.grown hg h.low.size (fun j hj => (own_row h.hnext hj).1)
    hm := h.hm.grown hg (fun e => own_blk_ne h.hnext h.hm (by decide) e.symm)
    hmap := h.hmap.keep (hg.block mb h.hmap.lt (fun e => by
      obtain ⟨-, cs, hb⟩ := own_row h.hnext e.symm
      exact h.hmap.ne hb rfl))
    hnext := by
      have e4 : zs (next ++ [u]) = zs next ++ [((u : Nat) : Int)] := by rw [zs_append]; rfl
      rw [e4, List.length_append]
      exact ho
    rows := fun p hp => ⟨own_grown (h.rows p hp).1 hg (h.rows p hp).2, fun g e => by
      rcases hv with hv | ⟨g', hv, hlt⟩
      · rw [hv]; exact (h.rows p hp).2 g e
      · rw [hv]
        intro e2
        cases e2
        obtain ⟨-, cs, hb⟩ := own_row (h.rows p hp).1 e
        have := hb.lt
        omega⟩ }
theorem BS.turn (h : BS w0 W bm mb K f nv next rs) : BS w0 W bm mb K f (.slice none 0 0) [] [(nv, zs next)] :=
  { h with
    hnext := own_nil _ _ _
    rows := fun p hp => by
      have : p = (nv, zs next) := by simpa using hp
      subst this
      refine ⟨by rw [zs_length]; exact h.hnext, fun g e e2 => by simp [Value.ownBlock] at e2⟩ }
end
/-- Those whose distance is known. -/
def KS (n : Nat) (K : List Nat) (f : Nat → Nat) : Prop := K.Nodup ∧ (∀ y ∈ K, y < n) ∧ ∀ y, y ∈ K ↔ f y ≠ 0
theorem KS.few {n : Nat} {K : List Nat} {f : Nat → Nat} (h : KS n K f) : K.length ≤ n := nodup_le h.1 h.2.1
theorem KS.put {n : Nat} {K : List Nat} {f : Nat → Nat} (h : KS n K f) {u k : Nat} (hu : u < n) (h0 : f u = 0) (hk : k ≠ 0) : KS n (K ++ [u]) (up f u k) := by
  have hn : u ∉ K := fun e => (h.2.2 u).1 e h0
  refine ⟨?_, fun y hy => ?_, fun y => ?_⟩
  · rw [List.nodup_append]
    exact ⟨h.1, by simp, fun a ha b hb e => by
      have : b = u := by simpa using hb
      subst this
      exact hn (e ▸ ha)⟩
  · rcases List.mem_append.1 hy with hy | hy
    · exact h.2.1 y hy
    · have : y = u := by simpa using hy
      omega
  · rw [List.mem_append, h.2.2, List.mem_singleton]
    unfold up
    by_cases e : y = u
    · simp [e, hk]
    · simp [e]
theorem way_start (w : World) (b : Nat) (hb : b ≤ 1000000) : ∃ w1, (Instr.mapUpdate 31 (.map (some w.heap.size)) (.int .i64 (b : Nat)) (.int .i64 1)).run Try.prog (w.alloc (.map #[] 0)) = .ok () w1 ∧
    BS w ((w1.alloc (.cells #[.map (some w.heap.size)] 31)).alloc (.cells #[.int .i64 (b : Nat)] 3)) w1.heap.size w.heap.size [b] (up (fun _ => 0) b 1) (.slice none 0 0) [] [(.slice (some ⟨w1.heap.size + 1, 0, none⟩) 1 1, zs [b])] := by
  have hkey : keyOf Try.prog 3 (.int .i64 (b : Int)) = some (.int .i64 (b : Int)) := keyOf_int_mk Try.underlying3 (WalkArith.wf_i64 (by omega))
  have h0 := World.ownsMap_made (H := Unit) w Try.prog 3 (plainElem Try.prog 3)
  obtain ⟨w1, hrun, hown, hg⟩ := h0.update law Try.underlying31 (by decide) hkey (plainElem_int Try.underlying3 (by decide) : plainElem Try.prog 3 (.int .i64 1) = _)
  have hs : w.heap.size < w1.heap.size := by have := hg.size; simp at this; omega
  refine ⟨w1, hrun, ?_⟩
  have hof : OF w1 w.heap.size 1 (up (fun _ => 0) b 1) := ⟨_, hown, FMap.nil.put b 1⟩
  have hlow : Below w.heap.size w w1 := ((Below.refl _ w).alloc (Nat.le_refl _) (.map #[] 0)).grown hg (by simp) (fun j hj => by cases hj; exact Nat.le_refl _)
  have e2 : w1.heap.size + 1 = (w1.alloc (.cells #[.map (some w.heap.size)] 31)).heap.size := by simp
  refine ⟨(hlow.alloc (by omega) _).alloc (by simp; omega) _, ?_, by omega, Nat.le_refl _, ?_, own_nil _ _ _, fun p hp => ?_⟩
  · exact (Blk.new_ w1 31 _ rfl).alloc _
  · exact (hof.keep (Below.heap_alloc _ _ _ (by omega))).keep (Below.heap_alloc _ _ _ (by simp; omega))
  · have : p = (.slice (some ⟨w1.heap.size + 1, 0, none⟩) 1 1, zs [b]) := by simpa using hp
    subst this
    refine ⟨?_, fun g e e3 => by simp [Value.ownBlock] at e3⟩
    rw [e2]
    have hB := Blk.new_ (w1.alloc (.cells #[.map (some w.heap.size)] 31)) 3 #[.int .i64 (b : Nat)] rfl
    exact hB.ownS (by simp; omega) 1 1 rfl (by decide)
/-- On the way down. -/
structure DS (w0 W : World) (bm mb c bx a : Nat) (f : Nat → Nat) (ov : Value) (out : List Nat) : Prop where
  low : Below w0.heap.size w0 W
  hm : Blk W bm 31 #[.map (some mb)]
  hx : Blk W bx 3 #[.int .i64 (a : Nat)]
  farX : w0.heap.size ≤ bx
  hmap : OF W mb c f
  hout : W.ownsRow w0.heap.size 3 1 ov out.length (iv (zs out))
  sep : ov.ownBlock ≠ some bx
section
variable {w0 W W' : World} {bm mb c bx a : Nat} {f : Nat → Nat} {ov : Value} {out : List Nat}
theorem DS.below (h : DS w0 W bm mb c bx a f ov out) (hb : Below W.heap.size W W') : DS w0 W' bm mb c bx a f ov out :=
  { h with
    low := h.low.trans (hb.mono h.low.size)
    hm := h.hm.below hb h.hm.lt
    hx := h.hx.below hb h.hx.lt
    hmap := h.hmap.keep (hb.block _ h.hmap.lt)
    hout := own_belowW h.hout hb }
theorem DS.set (h : DS w0 W bm mb c bx a f ov out) (v : Nat) : DS w0 (W.setCell ⟨bx, 0, none⟩ (.int .i64 (v : Nat))) bm mb c bx v f ov out :=
  { h with
    low := h.low.setCell h.farX _
    hm := h.hm.farN (h.hm.ne_ h.hx (by decide)) _
    hx := h.hx.set_ 0 _
    hmap := h.hmap.keep (heap_setCell_other W ⟨bx, 0, none⟩ mb _ (h.hmap.ne h.hx).symm)
    hout := own_far h.hout h.sep _ }
theorem DS.push (h : DS w0 W bm mb c bx a f ov out) {u : Nat} {v' : Value} (ho : W'.ownsRow w0.heap.size 3 1 v' (out.length + 1) (iv (zs out ++ [((u : Nat) : Int)]))) (hg : W.grownBy W' ov.ownBlock) (hv : v'.ownBlock = ov.ownBlock ∨ ∃ g, v'.ownBlock = some g ∧ W.heap.size ≤ g) : DS w0 W' bm mb c bx a f v' (out ++ [u]) :=
  { h with
    low := h.low.grown hg h.low.size (fun j hj => (own_row h.hout hj).1)
    hm := h.hm.grown hg (fun e => own_blk_ne h.hout h.hm (by decide) e.symm)
    hx := h.hx.grown hg (fun e => h.sep e.symm)
    hmap := h.hmap.keep (hg.block mb h.hmap.lt (fun e => by
      obtain ⟨-, cs, hb⟩ := own_row h.hout e.symm
      exact h.hmap.ne hb rfl))
    hout := by
      have e4 : zs (out ++ [u]) = zs out ++ [((u : Nat) : Int)] := by rw [zs_append]; rfl
      rw [e4, List.length_append]
      exact ho
    sep := by
      rcases hv with hv | ⟨g', hv, hlt⟩
      · rw [hv]; exact h.sep
      · rw [hv]
        intro e2
        cases e2
        have := h.hx.lt
        omega }
/-- The box is another one. -/
theorem DS.box (h : DS w0 W bm mb c bx a f ov out) : DS w0 (W.alloc (.cells #[.int .i64 (a : Nat)] 3)) bm mb c W.heap.size a f ov out :=
  { h.below ((Below.refl _ W).alloc (Nat.le_refl _) _) with
    hx := Blk.new_ W 3 _ rfl
    farX := h.low.size
    sep := fun e => by
      obtain ⟨-, cs, hb⟩ := own_row h.hout e
      have := hb.lt
      omega }
end
end Go.Proofs.Ytelplccbcbegkaa.OrW
