/-
  Words and walks, one behind the other: GraphLay, GraphRow, GraphPut, GraphMem, GraphWalks1, GraphNew, GraphHas, GraphStore, GraphPutE, GraphCutE, GraphReachPl, GraphReach1, GraphReach, GraphReachNon, GraphSortPl, GraphSort.
-/
import Derived.Test.YtelplccbcbegkaaProg
import Derived.Shelf.Slices.SearchI
import Derived.Shelf.Slices.Clone
import Derived.Shelf.Slices.Cells
import Derived.Shelf.Slices.Empties
import Derived.Shelf.Spec.SlicesInsertGrow
import Derived.Test.YtelplccbcbegkaaOrdW
import Derived.Lib.AppendZerosOnto
import Derived.Lib.LazyBuf
import Derived.WalkKit
import Derived.Lib.Hide
namespace Go.Proofs.Ytelplccbcbegkaa.GrL
open Go.Proofs Go.Proofs.Ytelplccbcbegkaa Go.Shelf

def ren : Go.Shelf.Ren := ⟨fun | 15 => 38 | 21 => 72 | 25 => 58 | 27 => 81 | 28 => 82 | 31 => 73 | 32 => 74 | 35 => 87 | 37 => 83 | 39 => 98 | n => n, fun | 0 => 0 | 3 => 3 | 4 => 4 | 22 => 27 | 40 => 111 | n => n, fun n => n⟩
theorem lays25 : Lays2.n25 Try.prog ren where
  mixed := by kernel_rfl
  f25 := Try.func58.trans (congrArg some (by kernel_rfl))
  f31 := Try.func73.trans (congrArg some (by kernel_rfl))
  f32 := Try.func74.trans (congrArg some (by kernel_rfl))
  f37 := Try.func83.trans (congrArg some (by kernel_rfl))
  t0 := Try.underlying0
  a0 := Try.isAgg0
  z0 := Try.sizeOf0
  v0 := Try.zeroValue0
  t3 := Try.underlying3
  a3 := Try.isAgg3
  z3 := Try.sizeOf3
  v3 := Try.zeroValue3
  t4 := Try.underlying4
  a4 := Try.isAgg4
  z4 := Try.sizeOf4
  v4 := Try.zeroValue4
  t22 := Try.underlying27
  a22 := Try.isAgg27
  z22 := Try.sizeOf27
  v22 := Try.zeroValue27
  t40 := Try.underlying111
  a40 := Try.isAgg111
  z40 := Try.sizeOf111
  v40 := Try.zeroValue111
theorem lays15 : Lays2.n15 Try.prog ren where
  mixed := by kernel_rfl
  f15 := Try.func38.trans (congrArg some (by kernel_rfl))
  t3 := Try.underlying3
  a3 := Try.isAgg3
  z3 := Try.sizeOf3
  v3 := Try.zeroValue3
  t4 := Try.underlying4
  a4 := Try.isAgg4
  z4 := Try.sizeOf4
  v4 := Try.zeroValue4
  t22 := Try.underlying27
  a22 := Try.isAgg27
  z22 := Try.sizeOf27
  v22 := Try.zeroValue27
  i3 := by kernel_rfl
theorem lays21 : Lays2.n21 Try.prog ren where
  mixed := by kernel_rfl
  f21 := Try.func72.trans (congrArg some (by kernel_rfl))
  f27 := Try.func81.trans (congrArg some (by kernel_rfl))
  f28 := Try.func82.trans (congrArg some (by kernel_rfl))
  f35 := Try.func87.trans (congrArg some (by kernel_rfl))
  f39 := Try.func98.trans (congrArg some (by kernel_rfl))
  t0 := Try.underlying0
  a0 := Try.isAgg0
  z0 := Try.sizeOf0
  v0 := Try.zeroValue0
  t3 := Try.underlying3
  a3 := Try.isAgg3
  z3 := Try.sizeOf3
  v3 := Try.zeroValue3
  t4 := Try.underlying4
  a4 := Try.isAgg4
  z4 := Try.sizeOf4
  v4 := Try.zeroValue4
  t22 := Try.underlying27
  a22 := Try.isAgg27
  z22 := Try.sizeOf27
  v22 := Try.zeroValue27
  i3 := by kernel_rfl
end Go.Proofs.Ytelplccbcbegkaa.GrL

namespace Go.Proofs.Ytelplccbcbegkaa.GrW
set_option linter.unusedVariables false
open Go Go.RowKit Go.Proofs Go.Proofs.Ytelplccbcbegkaa Go.Proofs.Ytelplccbcbegkaa.Wd

/-- A row of numbers of the call's own: all of a block from a place on. -/
def IRow (w : World) (base : Nat) (v : Value) (l : List Int) : Prop :=
  (v = .slice none 0 0 ∧ l = []) ∨ ∃ g off cap cur, v = .slice (some ⟨g, off, none⟩) l.length cap ∧ base ≤ g ∧ Blk w g 3 cur ∧ l.length ≤ cap ∧ off + cap ≤ maxLen ∧ off + cap ≤ cur.size ∧ (cur.toList.drop off).take l.length = iv l
theorem IRow.of_own {w : World} {base : Nat} {v : Value} {l : List Int} (h : w.ownsRow base 3 1 v l.length (iv l)) : IRow w base v l := by
  rcases h.2 with ⟨h1, h2⟩ | ⟨g, cap, cur, hv, hg, hh, h1, h2, h3, h4⟩
  · exact .inl ⟨h1, List.eq_nil_of_length_eq_zero (by omega)⟩
  · exact .inr ⟨g, 0, cap, cur, hv, hg, hh, h1, by omega, by omega, by rw [Nat.mul_one] at h4; exact h4⟩
theorem IRow.mk_ {w : World} {base g off cap : Nat} {cur : Array Value} {l : List Int} {N : Nat} (hN : l.length = N) (hg : base ≤ g) (hb : Blk w g 3 cur) (hn : N ≤ cap) (hm : off + cap ≤ maxLen) (hc : off + cap ≤ cur.size) (ht : (cur.toList.drop off).take N = iv l) : IRow w base (.slice (some ⟨g, off, none⟩) N cap) l := by
  subst hN
  exact .inr ⟨g, off, cap, cur, rfl, hg, hb, hn, hm, hc, ht⟩
theorem IRow.lies {w : World} {base : Nat} {v : Value} {l : List Int} (h : IRow w base v l) : ∃ A c, v = .slice A l.length c := by
  rcases h with ⟨rfl, rfl⟩ | ⟨g, off, cap, cur, rfl, _⟩
  · exact ⟨_, _, rfl⟩
  · exact ⟨_, _, rfl⟩
theorem IRow.blk {w : World} {base : Nat} {v : Value} {l : List Int} (h : IRow w base v l) {g : Nat} (hg : v.ownBlock = some g) : base ≤ g ∧ ∃ cs, Blk w g 3 cs := by
  rcases h with ⟨rfl, rfl⟩ | ⟨g', off, cap, cur, rfl, h1, h2, _⟩
  · simp [Value.ownBlock] at hg
  · have : g' = g := by simpa [Value.ownBlock] using hg
    subst this
    exact ⟨h1, cur, h2⟩
theorem IRow.keep {w w' : World} {base : Nat} {v : Value} {l : List Int} (h : IRow w base v l) (hk : ∀ g, v.ownBlock = some g → w'.heap[g]? = w.heap[g]?) : IRow w' base v l := by
  rcases h with h | ⟨g, off, cap, cur, rfl, h1, h2, h3⟩
  · exact .inl h
  · exact .inr ⟨g, off, cap, cur, rfl, h1, (hk g rfl).trans h2, h3⟩
theorem IRow.below {w w' : World} {base : Nat} {v : Value} {l : List Int} (h : IRow w base v l) (hb : Below w.heap.size w w') : IRow w' base v l :=
  h.keep fun g hg => by obtain ⟨_, cs, hc⟩ := h.blk hg; exact hb.block g hc.lt
theorem IRow.more {w : World} {base base' : Nat} {v : Value} {l : List Int} (h : IRow w base v l) (hb : base' ≤ base) : IRow w base' v l := by
  rcases h with h | ⟨g, off, cap, cur, rfl, h1, h3⟩
  · exact .inl h
  · exact .inr ⟨g, off, cap, cur, rfl, by omega, h3⟩
theorem grown_setCells (r : Nat) : ∀ (vs : List Value) (o : Nat) {w w' : World} {row : Option Nat}, w.grownBy w' row → (row = some r ∨ w.heap.size ≤ r) → w.grownBy (w'.setCells r o vs) row
  | [], o, w, w', row, h, _ => h
  | v :: vs, o, w, w', row, h, hr => by
    refine grown_setCells r vs (o + 1) (w' := w'.setCell ⟨r, o, none⟩ v) ⟨h.os, h.tape, h.output, by simpa using h.size, fun k hk hne => (heap_setCell_other w' ⟨r, o, none⟩ k v (fun e => ?_)).trans (h.block k hk hne)⟩ hr
    have e' : k = r := e
    rcases hr with hr | hr
    · exact hne (by rw [hr, e'])
    · omega
theorem Blk.setCells {r : Nat} {t : TypeId} : ∀ (vs : List Value) (o : Nat) {w : World} {cur : Array Value}, Blk w r t cur → o + vs.length ≤ cur.size →
    ∃ cur', Blk (w.setCells r o vs) r t cur' ∧ cur'.size = cur.size ∧ cur'.toList = cur.toList.take o ++ vs ++ cur.toList.drop (o + vs.length)
  | [], o, w, cur, h, _ => ⟨cur, h, rfl, by simp⟩
  | v :: vs, o, w, cur, h, hl => by
    rw [List.length_cons] at hl
    obtain ⟨cur', h1, h2, h3⟩ := Blk.setCells vs (o + 1) (h.set_ o v) (by rw [Array.size_setIfInBounds]; omega)
    refine ⟨cur', h1, by rw [h2, Array.size_setIfInBounds], ?_⟩
    rw [h3, Array.toList_setIfInBounds, List.take_set, List.drop_set_of_lt (by omega), List.take_succ_eq_append_getElem (by simpa using (by omega : o < cur.size)), List.set_append_right _ _ (by simp; omega)]
    have e : min o cur.toList.length = o := by simp; omega
    simp only [List.length_take, e, Nat.sub_self, List.set_cons_zero, List.append_assoc, List.cons_append, List.nil_append, List.length_cons]
    rw [show o + 1 + vs.length = o + (vs.length + 1) by omega]
theorem grown_ahead {w w' : World} {row : Option Nat} (h : w.drew.grownBy w' row) : w.grownBy w' row := ⟨h.os, h.tape, h.output, h.size, h.block⟩
theorem grown_drew {w w' : World} {row : Option Nat} (h : w.grownBy w' row) : w.grownBy w'.drew row := ⟨h.os, h.tape, h.output, h.size, h.block⟩
/-- A number more, at a place. -/
def ins (l : List Int) (i : Nat) (x : Int) : List Int := l.take i ++ x :: l.drop i
theorem ins_length {l : List Int} {i : Nat} (x : Int) (h : i ≤ l.length) : (ins l i x).length = l.length + 1 := by
  unfold ins; simp; omega
theorem iv_ins (l : List Int) (i : Nat) (x : Int) : iv (ins l i x) = (iv l).take i ++ .int .i64 x :: (iv l).drop i := by
  unfold ins iv; simp
/-- What is behind both copies: what was ahead of the place, the number, what was behind. -/
theorem shifted (C : List Value) (L : List Value) (i : Nat) (x : Value) (hp : C.take i = L.take i) (hi : i ≤ L.length) (hC : L.length + 1 ≤ C.length) (C1 C2 : List Value)
    (h1 : C1 = C.take (i + 1) ++ L.drop i ++ C.drop (i + 1 + (L.drop i).length)) (h2 : C2 = C1.take i ++ [x] ++ C1.drop (i + [x].length)) : C2.take (L.length + 1) = L.take i ++ x :: L.drop i := by
  have e1 : C1.take i = L.take i := by
    rw [h1, List.append_assoc, List.take_append_of_le_length (by simp; omega), List.take_take, Nat.min_eq_left (by omega), hp]
  have e2 : C1.drop (i + 1) = L.drop i ++ C.drop (i + 1 + (L.drop i).length) := by
    rw [h1, List.append_assoc]
    exact List.drop_left' (by simp; omega)
  rw [h2, List.length_singleton, e1, e2, List.append_assoc, List.singleton_append, ← List.cons_append, ← List.append_assoc]
  rw [List.take_append_of_le_length (by simp; omega), List.take_of_length_le (by simp; omega)]
/-- The other way about: first the number, then what was behind. -/
theorem shifted2 (C : List Value) (L : List Value) (i : Nat) (x : Value) (hp : C.take i = L.take i) (hi : i ≤ L.length) (hC : L.length + 1 ≤ C.length) (C1 C2 : List Value)
    (h1 : C1 = C.take i ++ [x] ++ C.drop (i + [x].length)) (h2 : C2 = C1.take (i + 1) ++ L.drop i ++ C1.drop (i + 1 + (L.drop i).length)) : C2.take (L.length + 1) = L.take i ++ x :: L.drop i := by
  have e1 : C1.take (i + 1) = L.take i ++ [x] := by
    rw [h1, List.take_left' (by simp; omega), hp]
  rw [h2, e1, List.take_append_of_le_length (by simp; omega), List.take_of_length_le (by simp; omega)]
  simp
theorem shape_of {w : World} {g : Nat} {t : TypeId} {cs : Array Value} (h : Blk w g t cs) : w.shape? g = some (t, cs.size) := by
  unfold World.shape?; rw [h.out]
theorem cells_at {w : World} {g off : Nat} {cur : Array Value} {L : List Value} (h : Blk w g 3 cur) (ht : (cur.toList.drop off).take L.length = L) (j : Nat) (v : Value) (hv : L[j]? = some v) : w.cell? ⟨g, off + j, none⟩ = some v := by
  refine (h.cell (off + j)).trans ?_
  have hj := (List.getElem?_eq_some_iff.1 hv).1
  rw [← ht, List.getElem?_take_of_lt hj, List.getElem?_drop] at hv
  simpa using hv
theorem drop_mid (A : List Value) (off k m : Nat) (vs : List Value) (h : off + k ≤ A.length) : (A.take (off + k) ++ vs ++ A.drop (off + k + m)).drop off = (A.drop off).take k ++ vs ++ (A.drop off).drop (k + m) := by
  rw [List.append_assoc, List.drop_append_of_le_length (by simp; omega), List.drop_take, List.append_assoc, List.drop_drop, show off + k - off = k by omega, Nat.add_assoc]
theorem Blk.setCellsO {r : Nat} {t : TypeId} (vs : List Value) (off k : Nat) {w : World} {cur : Array Value} (h : Blk w r t cur) (hl : off + k + vs.length ≤ cur.size) :
    ∃ cur', Blk (w.setCells r (off + k) vs) r t cur' ∧ cur'.size = cur.size ∧ cur'.toList.drop off = (cur.toList.drop off).take k ++ vs ++ (cur.toList.drop off).drop (k + vs.length) := by
  obtain ⟨c1, b1, s1, t1⟩ := Blk.setCells vs (off + k) h hl
  exact ⟨c1, b1, s1, by rw [t1]; exact drop_mid _ _ _ _ _ (by simp; omega)⟩
/-- What one more leaves: the row, where its block was or anew. -/
def Put1 (w : World) (base : Nat) (v : Value) (l : List Int) (e : Ending) (w' : World) : Prop :=
  ∃ v', e = .returned v' ∧ IRow w' base v' l ∧ w.grownBy w' v.ownBlock ∧ (v'.ownBlock = v.ownBlock ∨ v'.ownBlock = some w.heap.size)
set_option maxRecDepth 100000 in
theorem insert_any (w : World) (base : Nat) (hbase : base ≤ w.heap.size) (v : Value) (l : List Int) (h : IRow w base v l) (hl : l.length ≤ 1000000) (i : Nat) (hi : i ≤ l.length) (x : Int) (vb : Nat) (hvb : Blk w vb 3 #[.int .i64 x]) (hne : v.ownBlock ≠ some vb) :
    Calls Try.prog 72 #[v, .int .i64 i, .slice (some ⟨vb, 0, none⟩) 1 1] w (Put1 w base v (ins l i x)) := by
  have hvs : ∀ j u, ([.int .i64 x] : List Value)[j]? = some u → w.cell? ⟨vb, 0 + j, none⟩ = some u := cells_at (off := 0) hvb rfl
  have h1v : ∀ u ∈ ([.int .i64 x] : List Value), u.oneCell' = true := by simp [Value.oneCell']
  have hlen := ins_length x hi
  have h1c := iv_one l
  have hzc : (Value.int .i64 0).cells = #[.int .i64 0] := rfl
  rcases h with ⟨rfl, rfl⟩ | ⟨g, off, cap, cur, rfl, hg, hb, hn, hm, hc, ht⟩
  · have hi0 : i = 0 := by simpa using hi
    subst hi0
    refine (Any2.slices_Insert_int_end_grow GrL.lays21 none 0 0 vb 0 1 1 [] [.int .i64 x] w (by omega) (by omega) (by omega) (by omega) rfl rfl (fun _ => rfl) (fun a h => by cases h) hvs h1v).mono ?_
    rintro e w' ⟨rfl, rfl⟩
    have hge := grownCap_ge w (0 + 1) 0 3
    have hle := grownCap_le_maxLen w (0 + 1) 0 3 (by unfold maxLen; omega)
    refine ⟨_, rfl, ?_, grown_ahead (World.grownBy_alloc w.drew _ _), .inr rfl⟩
    refine IRow.mk_ (l := ins [] 0 x) rfl hbase (Blk.new_ w.drew 3 _ rfl) hge (by rw [Nat.zero_add]; exact hle) ?_ ?_
    · have hge' : 1 ≤ grownCap w (0 + 1) 0 (GrL.ren.t 3) := hge
      simp [size_zeroCells, hzc] at hge' ⊢
      omega
    · simp [ins, iv]
  · have hcl : (iv l).length = l.length := iv_length l
    have hcs := cells_at hb (L := iv l) (by rw [hcl]; exact ht)
    have hsz : (iv l).length + 1 = l.length + 1 := by rw [hcl]
    have hvg : vb ≠ g := fun e => hne (by simp [Value.ownBlock, e])
    have htk : ∀ k, k ≤ l.length → (cur.toList.drop off).take k = (iv l).take k := fun k hk => by rw [← ht, List.take_take, Nat.min_eq_left hk]
    by_cases hroom : l.length + 1 ≤ cap
    · by_cases hlt : i < l.length
      · refine (Any2.slices_Insert_int_shift GrL.lays21 g off l.length cap i vb 0 1 1 (iv l) [.int .i64 x] w hlt (by omega) hroom (by unfold maxLen at hm; omega) hvg hcl rfl hcs (fun j hj => by rw [hb.cell]; simp; omega) (fun j hj => hb.frozen _) hvs h1c h1v _ _ _ _ (shape_of hvb) (shape_of hb) (by omega) (hvb.frozen 0) (hvb.frozen _)).mono ?_
        rintro e w' ⟨rfl, rfl⟩
        obtain ⟨c1, b1, s1, t1⟩ := Blk.setCellsO ((iv l).drop i) off (i + 1) hb.drew (by simp [hcl]; omega)
        obtain ⟨c2, b2, s2, t2⟩ := Blk.setCellsO [.int .i64 x] off i b1 (by simp; omega)
        refine ⟨_, rfl, ?_, grown_setCells g _ _ (grown_setCells g _ _ (⟨rfl, rfl, rfl, Nat.le_refl _, fun _ _ _ => rfl⟩ : w.grownBy w.drew _) (.inl rfl)) (.inl rfl), .inl rfl⟩
        refine IRow.mk_ hlen hg b2 hroom hm (by rw [s2, s1]; exact hc) ?_
        rw [← hsz, iv_ins]
        refine shifted (cur.toList.drop off) (iv l) i _ (htk i hi) (by rw [hcl]; exact hi) (by rw [hcl]; simp; omega) (c1.toList.drop off) _ t1 t2
      · obtain rfl : i = l.length := by omega
        refine (Any2.slices_Insert_int_end_room GrL.lays21 g off l.length cap vb 0 1 1 [.int .i64 x] w (by omega) hroom (by unfold maxLen at hm; omega) rfl (fun j hj => by rw [hb.cell]; simp; omega) (fun j hj => hb.frozen _) hvs h1v).mono ?_
        rintro e w' ⟨rfl, rfl⟩
        obtain ⟨c2, b2, s2, t2⟩ := Blk.setCellsO [.int .i64 x] off l.length hb (by simp; omega)
        refine ⟨_, rfl, ?_, grown_setCells g _ _ (World.grownBy.refl w _) (.inl rfl), .inl rfl⟩
        refine IRow.mk_ hlen hg b2 hroom hm (by rw [s2]; exact hc) ?_
        rw [iv_ins, t2, ht, List.take_append_of_le_length (by simp [hcl]), List.take_of_length_le (by simp [hcl])]
        rw [List.take_of_length_le (by rw [hcl]; exact Nat.le_refl _), List.drop_of_length_le (by rw [hcl]; exact Nat.le_refl _)]
    · have hge := grownCap_ge w (l.length + 1) cap 3
      have hle := grownCap_le_maxLen w (l.length + 1) cap 3 (by unfold maxLen; omega)
      by_cases hlt : i < l.length
      · refine (Any2.slices_Insert_int_grow GrL.lays21 g off l.length cap i vb 0 1 1 (iv l) [.int .i64 x] w hlt (by omega) hn (by omega) (by omega) hcl rfl hcs hvs h1c h1v).mono ?_
        rintro e w' ⟨rfl, rfl⟩
        have b0 := Blk.new_ w 3 (((iv l).take i).toArray ++ Builtin.zeroCells (Value.int .i64 0).cells (l.length + 1 - i) ++ Builtin.zeroCells (Value.int .i64 0).cells (grownCap w (l.length + 1) cap 3 - (l.length + 1))) rfl
        have s0 : (((iv l).take i).toArray ++ Builtin.zeroCells (Value.int .i64 0).cells (l.length + 1 - i) ++ Builtin.zeroCells (Value.int .i64 0).cells (grownCap w (l.length + 1) cap 3 - (l.length + 1))).size = grownCap w (l.length + 1) cap 3 := by
          simp [size_zeroCells, hzc, hcl]; omega
        obtain ⟨c1, b1, s1, t1⟩ := Blk.setCells [.int .i64 x] i b0.drew (by rw [s0]; simp; omega)
        obtain ⟨c2, b2, s2, t2⟩ := Blk.setCells ((iv l).drop i) (i + 1) b1.drew (by rw [s1, s0]; simp [hcl]; omega)
        refine ⟨_, rfl, ?_, grown_setCells _ _ _ (grown_drew (grown_setCells _ _ _ (grown_drew (World.grownBy_alloc w _ _)) (.inr (Nat.le_refl _)))) (.inr (Nat.le_refl _)), .inr rfl⟩
        refine IRow.mk_ hlen hbase b2 hge (by rw [Nat.zero_add]; exact hle) (by rw [s2, s1, s0, Nat.zero_add]; exact Nat.le_refl _) ?_
        rw [← hsz, iv_ins, List.drop_zero]
        refine shifted2 _ (iv l) i _ ?_ (by rw [hcl]; exact hi) ?_ c1.toList c2.toList t1 t2
        · rw [Array.toList_append, Array.toList_append, List.append_assoc]
          exact List.take_left' (by simp [hcl]; omega)
        · rw [hcl]; exact Nat.le_trans hge (Nat.le_of_eq s0.symm)
      · obtain rfl : i = l.length := by omega
        refine (Any2.slices_Insert_int_end_grow GrL.lays21 (some ⟨g, off, none⟩) l.length cap vb 0 1 1 (iv l) [.int .i64 x] w (by omega) hn (by omega) (by omega) hcl rfl (fun h => by cases h) (fun a h => by cases h; exact fun j v hv => by rw [Addr.add_lit]; exact hcs j v hv) hvs h1v).mono ?_
        rintro e w' ⟨rfl, rfl⟩
        refine ⟨_, rfl, ?_, grown_ahead (World.grownBy_alloc w.drew _ _), .inr rfl⟩
        refine IRow.mk_ hlen hbase (Blk.new_ w.drew 3 _ rfl) hge (by rw [Nat.zero_add]; exact hle) ?_ ?_
        · have hge' : l.length + 1 ≤ grownCap w (l.length + 1) cap (GrL.ren.t 3) := hge
          generalize grownCap w (l.length + 1) cap (GrL.ren.t 3) = gc at *
          simp [size_zeroCells, hzc, hcl]; omega
        · rw [iv_ins, List.drop_zero, List.take_of_length_le (l := iv l) (by rw [hcl]; exact Nat.le_refl _), List.drop_of_length_le (l := iv l) (by rw [hcl]; exact Nat.le_refl _), Array.toList_append, List.take_append_of_le_length (by simp [hcl]), List.take_of_length_le (by simp [hcl])]
/-- A number less, at a place. -/
def del (l : List Int) (i : Nat) : List Int := l.take i ++ l.drop (i + 1)
theorem del_length {l : List Int} {i : Nat} (h : i < l.length) : (del l i).length = l.length - 1 := by
  unfold del; simp; omega
theorem getD_at {w : World} {g off : Nat} {cur : Array Value} {l : List Int} (h : Blk w g 3 cur) (ht : (cur.toList.drop off).take l.length = iv l) : ∀ j, j < l.length → w.cell? ⟨g, off + j, none⟩ = some (.int .i64 (l.getD j 0)) := fun j hj => by
  refine cells_at h (L := iv l) (by rw [iv_length]; exact ht) j _ ?_
  unfold iv
  rw [List.getElem?_map, List.getElem?_eq_getElem hj]
  simp [List.getD, hj]
theorem search_any (w : World) (base : Nat) (v : Value) (l : List Int) (h : IRow w base v l) (hl : l.length ≤ 1000000) (hs : l.Pairwise (· ≤ ·)) (x : Int) :
    Calls Try.prog 58 #[v, .int .i64 x] w fun e w' => e = .returned (.tuple #[.int .i64 ((l.countP (· < x)) : Nat), .bool (l.contains x)]) ∧ ∃ q, w' = w.drewN q := by
  rcases h with ⟨rfl, rfl⟩ | ⟨g, off, cap, cur, rfl, hg, hb, hn, hm, hc, ht⟩
  · refine (Any.slices_BinarySearch_int_empty GrL.lays25 none 0 x w).mono ?_
    rintro e w' ⟨rfl, rfl⟩
    exact ⟨rfl, 0, rfl⟩
  · have := Any.slices_BinarySearch_int GrL.lays25 g off l.length cap l x w (Nat.le_refl _) (by omega) (getD_at hb ht) (by rw [List.take_length]; exact hs)
    rw [List.take_length] at this
    exact this
end Go.Proofs.Ytelplccbcbegkaa.GrW

namespace Go.Proofs.Ytelplccbcbegkaa.GrW
set_option linter.unusedVariables false
open Go Go.RowKit Go.Proofs Go.Proofs.Ytelplccbcbegkaa Go.Proofs.Ytelplccbcbegkaa.Wd

def rk (l : List Int) (x : Int) : Nat := l.countP (· < x)
/-- A number more in a rising row. -/
def add (l : List Int) (x : Int) : List Int := if l.contains x then l else ins l (rk l x) x
def rem (l : List Int) (x : Int) : List Int := if l.contains x then del l (rk l x) else l
theorem rk_le (l : List Int) (x : Int) : rk l x ≤ l.length := List.countP_le_length
theorem rk_lt {l : List Int} {x : Int} (h : l.contains x = true) : rk l x < l.length := by
  unfold rk
  refine Nat.lt_of_le_of_ne List.countP_le_length (fun e => ?_)
  have := List.countP_eq_length.1 e x (by simpa using h)
  simp at this
theorem rising {l : List Int} (h : l.Pairwise (· < ·)) : l.Pairwise (· ≤ ·) := h.imp Int.le_of_lt
/-- What put and cut answer: the row, where its block was or anew; whether it is another. -/
def Put2 (w : World) (base : Nat) (v : Value) (l : List Int) (b : Bool) (e : Ending) (w' : World) : Prop :=
  ∃ v', e = .returned (.tuple #[v', .bool b]) ∧ IRow w' base v' l ∧ w.grownBy w' v.ownBlock ∧ (v'.ownBlock = v.ownBlock ∨ ∃ g, v'.ownBlock = some g ∧ w.heap.size ≤ g)
set_option maxRecDepth 100000 in
theorem put_any (w : World) (base : Nat) (hbase : base ≤ w.heap.size) (v : Value) (l : List Int) (h : IRow w base v l) (hl : l.length ≤ 1000000) (hs : l.Pairwise (· < ·)) (x : Int) :
    Calls Try.prog 53 #[v, .int .i64 x] w (Put2 w base v (add l x) (!l.contains x)) := by
  have HS := Lib.hid (search_any w base v l h hl (rising hs) x)
  have H := Lib.hid h
  obtain ⟨A, c, hv⟩ := h.lies
  subst hv
  generalize hn : l.length = n at *
  clear h hs
  go_enter Try.func53, Try.ntmps53
  go_wp2_with fail
  refine Calls.mono HS.out ?_
  rintro e w1 ⟨rfl, q, rfl⟩
  by_cases hc : l.contains x = true
  · have HF : Hid (Put2 w base (.slice A n c) (add l x) (!l.contains x) (.returned (.tuple #[.slice A n c, .bool false])) (w.drewN q)) := Lib.hid ⟨_, by rw [hc]; rfl, by unfold add; rw [if_pos hc]; exact H.out, ⟨rfl, rfl, rfl, Nat.le_refl _, fun _ _ _ => rfl⟩, .inl rfl⟩
    rw [hc]
    clear hc HS H hn
    generalize List.countP (fun y => decide (y < x)) l = k at *
    go_wp2_with fail
    go_ret2
    exact HF.out
  · have hc' : l.contains x = false := by simpa using hc
    have hrk := rk_le l x
    have HC := Lib.hid hc'
    have HI : Hid (Calls Try.prog 72 #[.slice A n c, .int .i64 (rk l x), .slice (some ⟨w.heap.size, 0, none⟩) 1 1] ((w.drewN q).alloc (.cells #[.int .i64 x] 3)) (Put1 ((w.drewN q).alloc (.cells #[.int .i64 x] 3)) base (.slice A n c) (ins l (rk l x) x))) := Lib.hid (by
      refine insert_any _ base (by simp; omega) _ l ?_ (by omega) (rk l x) hrk x w.heap.size (Blk.new_ (w.drewN q) 3 _ rfl) (fun e => ?_)
      · exact IRow.below (w := w.drewN q) H.out ((Below.refl _ (w.drewN q)).alloc (Nat.le_refl _) _)
      · obtain ⟨_, cs, hb⟩ := H.out.blk e
        exact Nat.lt_irrefl _ hb.lt)
    rw [hc']
    unfold rk at HI hrk
    have HA : Hid (add l x = ins l (rk l x) x) := Lib.hid (by unfold add; rw [if_neg hc])
    unfold rk at HA
    clear hc hc' HS hn
    generalize List.countP (fun y => decide (y < x)) l = k at *
    go_wp2_with fail
    refine Calls.mono HI.out ?_
    rintro e w2 ⟨v', rfl, hr, hg, ho⟩
    have HF : Hid (Put2 w base (.slice A n c) (add l x) (!l.contains x) (.returned (.tuple #[v', .bool true])) w2) := Lib.hid (by
      refine ⟨_, by rw [HC.out]; rfl, by rw [HA.out]; exact hr, ?_, ?_⟩
      · exact ((⟨rfl, rfl, rfl, Nat.le_refl _, fun _ _ _ => rfl⟩ : w.grownBy (w.drewN q) _).trans (World.grownBy_alloc (w.drewN q) _ _)).trans hg
      · rcases ho with ho | ho
        · exact .inl ho
        · exact .inr ⟨_, ho, by simp⟩)
    obtain ⟨A', c', hv'⟩ := hr.lies
    subst hv'
    clear HI hr hg ho HA H
    generalize (ins l k x).length = n' at *
    go_wp2_with fail
    go_ret2
    exact HF.out
end Go.Proofs.Ytelplccbcbegkaa.GrW

namespace Go.Proofs.Ytelplccbcbegkaa.GrW
set_option linter.unusedVariables false
open Go Go.RowKit Go.Proofs Go.Proofs.Ytelplccbcbegkaa Go.Proofs.Ytelplccbcbegkaa.Wd

/-- Rows of numbers, their slices in the cells of block r, one behind the other; no two of them in one block. -/
structure VRows (w : World) (base r : Nat) (cur : Array Value) (L : List (List Int)) : Prop where
  blk : Blk w r 96 cur
  far : base ≤ r
  fits : L.length ≤ cur.size
  row : ∀ i (h : i < L.length), ∃ v, cur[i]? = some v ∧ IRow w base v L[i]
  apart : ∀ i j v u g, i ≠ j → i < L.length → j < L.length → cur[i]? = some v → cur[j]? = some u → v.ownBlock = some g → u.ownBlock ≠ some g
theorem VRows.ne_row {w : World} {base r : Nat} {cur : Array Value} {L : List (List Int)} (h : VRows w base r cur L) {v : Value} {l : List Int} (hv : IRow w base v l) {g : Nat} (hg : v.ownBlock = some g) : g ≠ r := fun e => by
  obtain ⟨_, cs, hb⟩ := hv.blk hg
  rw [e] at hb
  exact hb.ne_ h.blk (by decide) rfl
theorem VRows.below {w w' : World} {base r : Nat} {cur : Array Value} {L : List (List Int)} (h : VRows w base r cur L) (hb : Below w.heap.size w w') : VRows w' base r cur L where
  blk := h.blk.below hb h.blk.lt
  far := h.far
  fits := h.fits
  row := fun i hi => by obtain ⟨v, h1, h2⟩ := h.row i hi; exact ⟨v, h1, h2.below hb⟩
  apart := h.apart
theorem VRows.put {w w' : World} {base r : Nat} {cur : Array Value} {L : List (List Int)} (h : VRows w base r cur L) {i : Nat} (hi : i < L.length) {v v' : Value} {l : List Int} (hv : cur[i]? = some v) (hr : IRow w' base v' l) (hg : w.grownBy w' v.ownBlock)
    (ho : v'.ownBlock = v.ownBlock ∨ ∃ g, v'.ownBlock = some g ∧ w.heap.size ≤ g) : VRows (w'.setCell ⟨r, i, none⟩ v') base r (cur.setIfInBounds i v') (L.set i l) := by
  have hvr : IRow w base v L[i] := by
    obtain ⟨u, h1, h2⟩ := h.row i hi
    rw [hv] at h1
    cases h1
    exact h2
  have hb' : Blk w' r 96 cur := h.blk.grown hg (fun e => h.ne_row hvr e.symm rfl)
  have hic : i < cur.size := Nat.lt_of_lt_of_le hi h.fits
  refine ⟨hb'.set_ i v', h.far, by rw [List.length_set, Array.size_setIfInBounds]; exact h.fits, fun j hj => ?_, fun j k u x g hjk hj hk hu hx hug => ?_⟩
  · have hj' : j < L.length := by rw [List.length_set] at hj; exact hj
    by_cases e : i = j
    · subst e
      refine ⟨v', Array.getElem?_setIfInBounds_self_of_lt hic, ?_⟩
      rw [List.getElem_set_self]
      refine hr.keep fun g hg2 => heap_setCell_other w' ⟨r, i, none⟩ g v' (fun e => ?_)
      obtain ⟨_, cs, hb2⟩ := hr.blk hg2
      have e' : g = r := e
      rw [e'] at hb2
      exact hb2.ne_ hb' (by decide) rfl
    · obtain ⟨u, h1, h2⟩ := h.row j hj'
      refine ⟨u, by rw [Array.getElem?_setIfInBounds_ne e]; exact h1, ?_⟩
      rw [List.getElem_set_ne e]
      refine h2.keep fun g hg2 => ?_
      obtain ⟨_, cs, hb2⟩ := h2.blk hg2
      refine (heap_setCell_other w' ⟨r, i, none⟩ g v' (fun e2 => ?_)).trans (hg.block g hb2.lt (fun e2 => h.apart i j v u g e hi hj' hv h1 e2.symm hg2))
      have e' : g = r := e2
      rw [e'] at hb2
      exact hb2.ne_ h.blk (by decide) rfl
  · rw [List.length_set] at hj hk
    have old : ∀ {m : Nat} {y : Value} {q : Nat}, m < L.length → cur[m]? = some y → y.ownBlock = some q → q < w.heap.size := fun {m y q} hm hy hq => by
      obtain ⟨y2, h1, h2⟩ := h.row m hm
      rw [hy] at h1
      cases h1
      obtain ⟨_, cs, hb2⟩ := h2.blk hq
      exact hb2.lt
    by_cases e1 : i = j
    · subst e1
      rw [Array.getElem?_setIfInBounds_self_of_lt hic] at hu
      cases hu
      rw [Array.getElem?_setIfInBounds_ne hjk] at hx
      rcases ho with ho | ⟨g', ho, hlt⟩
      · exact h.apart i k v x g hjk hi hk hv hx (by rw [← ho]; exact hug)
      · intro e
        rw [hug] at ho
        cases ho
        have := old hk hx e
        omega
    · rw [Array.getElem?_setIfInBounds_ne e1] at hu
      by_cases e2 : i = k
      · subst e2
        rw [Array.getElem?_setIfInBounds_self_of_lt hic] at hx
        cases hx
        rcases ho with ho | ⟨g', ho, hlt⟩
        · rw [ho]; exact h.apart j i u v g hjk hj hi hu hv hug
        · rw [ho]
          intro e
          cases e
          have := old hj hu hug
          omega
      · rw [Array.getElem?_setIfInBounds_ne e2] at hx
        exact h.apart j k u x g hjk hj hk hu hx hug
/-- A graph of n vertices: row 2 v is where its edges go to, row 2 v + 1 where they come from; its blocks are of F. -/
def GAt (w : World) (base : Nat) (F : Nat → Prop) (g n : Nat) (L : List (List Int)) : Prop :=
  ∃ r c cur, Blk w g 93 #[.bool true, .slice (some ⟨r, 0, none⟩) n c] ∧ base ≤ g ∧ VRows w base r cur L ∧ L.length = 2 * n ∧ n ≤ c ∧ c ≤ maxLen ∧ cur.size = c * 2 ∧ F g ∧ F r ∧ ∀ i v b, i < L.length → cur[i]? = some v → v.ownBlock = some b → F b
/-- Between two worlds: only blocks of F, and new ones, are another. -/
structure Fr (F : Nat → Prop) (w w' : World) : Prop where
  os : w'.os = w.os
  tape : w'.tape = w.tape
  output : w'.output = w.output
  size : w.heap.size ≤ w'.heap.size
  block : ∀ k, k < w.heap.size → ¬ F k → w'.heap[k]? = w.heap[k]?
theorem Fr.refl (F : Nat → Prop) (w : World) : Fr F w w := ⟨rfl, rfl, rfl, Nat.le_refl _, fun _ _ _ => rfl⟩
theorem Fr.trans {F F' : Nat → Prop} {a b c : World} (h : Fr F a b) (k : Fr F' b c) (hF : ∀ j, j < a.heap.size → F' j → F j) : Fr F a c :=
  ⟨k.os.trans h.os, k.tape.trans h.tape, k.output.trans h.output, Nat.le_trans h.size k.size, fun j hj hf => (k.block j (Nat.lt_of_lt_of_le hj h.size) (fun e => hf (hF j hj e))).trans (h.block j hj hf)⟩
theorem Fr.of_grown {F : Nat → Prop} {w w' : World} {row : Option Nat} (h : w.grownBy w' row) (hr : ∀ g, row = some g → F g) : Fr F w w' :=
  ⟨h.os, h.tape, h.output, h.size, fun k hk hf => h.block k hk (fun e => hf (hr k e.symm))⟩
theorem Fr.of_below {F : Nat → Prop} {w w' : World} (h : Below w.heap.size w w') : Fr F w w' := ⟨h.os, h.tape, h.output, h.size, fun k hk _ => h.block k hk⟩
theorem Fr.set_ {F : Nat → Prop} {w w' : World} (h : Fr F w w') {r : Nat} (hr : F r) (i : Nat) (v : Value) : Fr F w (w'.setCell ⟨r, i, none⟩ v) :=
  ⟨h.os, h.tape, h.output, by simpa using h.size, fun k hk hf => (heap_setCell_other w' ⟨r, i, none⟩ k v (fun e => hf (by have e' : k = r := e; rw [e']; exact hr))).trans (h.block k hk hf)⟩
theorem GAt.below {w w' : World} {base g n : Nat} {F : Nat → Prop} {L : List (List Int)} (h : GAt w base F g n L) (hb : Below w.heap.size w w') : GAt w' base F g n L := by
  obtain ⟨r, c, cur, h1, h2, h3, h4⟩ := h
  exact ⟨r, c, cur, h1.below hb h1.lt, h2, h3.below hb, h4⟩
/-- Another graph stays where its blocks are none of F. -/
theorem GAt.fr {w w' : World} {base g n : Nat} {F F' : Nat → Prop} {L : List (List Int)} (h : GAt w base F' g n L) (hf : Fr F w w') (hd : ∀ k, F' k → ¬ F k) : GAt w' base F' g n L := by
  obtain ⟨r, c, cur, h1, h2, h3, h4, h5, h6, h7, f1, f2, f3⟩ := h
  have keep : ∀ {k : Nat} {t : TypeId} {cs : Array Value}, Blk w k t cs → F' k → Blk w' k t cs := fun hb hk => (hf.block _ hb.lt (hd _ hk)).trans hb
  refine ⟨r, c, cur, keep h1 f1, h2, ⟨keep h3.blk f2, h3.far, h3.fits, fun i hi => ?_, h3.apart⟩, h4, h5, h6, h7, f1, f2, f3⟩
  obtain ⟨v, hv, hr⟩ := h3.row i hi
  refine ⟨v, hv, hr.keep fun b hb => ?_⟩
  obtain ⟨_, cs, hbl⟩ := hr.blk hb
  exact hf.block b hbl.lt (hd _ (f3 i v b hi hv hb))
end Go.Proofs.Ytelplccbcbegkaa.GrW

namespace Go.Proofs.Ytelplccbcbegkaa.GrW
set_option linter.unusedVariables false
open Go Go.RowKit Go.Proofs Go.Proofs.Ytelplccbcbegkaa Go.Proofs.Ytelplccbcbegkaa.Wd

/-- A receiver of n vertices: a graph, or none of these. -/
def Head (w : World) (g : Nat) (v : Value) : Prop := w.cell? ⟨g, 0, none⟩ = some (.bool true) ∧ w.cell? ⟨g, 1, none⟩ = some v
theorem GAt.head {w : World} {base g n : Nat} {F : Nat → Prop} {L : List (List Int)} (h : GAt w base F g n L) : ∃ r c, Head w g (.slice (some ⟨r, 0, none⟩) n c) ∧ n ≤ c ∧ c ≤ maxLen := by
  obtain ⟨r, c, cur, h1, h2, h3, h4, h5, h6, -⟩ := h
  exact ⟨r, c, ⟨h1.cell 0, h1.cell 1⟩, h5, h6⟩
theorem none_any (w : World) (g : Nat) (v : Value) (h : Head w g v) : Calls Try.prog 51 #[.pointer (some ⟨g, 0, none⟩)] w fun e w' => e = .returned (.bool false) ∧ w = w' := by
  obtain ⟨h0, -⟩ := h
  go_enter Try.func51, Try.ntmps51
  go_wp2_with fail
  go_ret
  exact ⟨rfl, rfl⟩
theorem none_nil (w : World) : Calls Try.prog 51 #[.pointer none] w fun e w' => e = .returned (.bool true) ∧ w = w' := by
  go_enter Try.func51, Try.ntmps51
  go_wp2_with fail
  go_ret
  exact ⟨rfl, rfl⟩
theorem none_zero (w : World) (g : Nat) (h : w.cell? ⟨g, 0, none⟩ = some (.bool false)) : Calls Try.prog 51 #[.pointer (some ⟨g, 0, none⟩)] w fun e w' => e = .returned (.bool true) ∧ w = w' := by
  go_enter Try.func51, Try.ntmps51
  go_wp2_with fail
  go_ret
  exact ⟨rfl, rfl⟩
theorem len_any (w : World) (g r n c : Nat) (h : Head w g (.slice (some ⟨r, 0, none⟩) n c)) : Calls Try.prog 37 #[.pointer (some ⟨g, 0, none⟩)] w fun e w' => e = .returned (.int .i64 n) ∧ w = w' := by
  have HN := Lib.hid (none_any w g _ h)
  obtain ⟨h0, h1⟩ := h
  go_enter Try.func37, Try.ntmps37
  go_wp2_with fail
  refine Calls.mono HN.out ?_
  rintro e w' ⟨rfl, rfl⟩
  clear HN
  go_wp2_with fail
  go_ret
  exact ⟨rfl, rfl⟩
/-- Is it a vertex? -/
def isV (n : Nat) (v : Int) : Bool := decide (0 ≤ v) && decide (v < n)
theorem is_any (w : World) (g r n c : Nat) (h : Head w g (.slice (some ⟨r, 0, none⟩) n c)) (v : Int) : Calls Try.prog 52 #[.pointer (some ⟨g, 0, none⟩), .int .i64 v] w fun e w' => e = .returned (.bool (isV n v)) ∧ w = w' := by
  have HL := Lib.hid (len_any w g r n c h)
  clear h
  by_cases h0 : 0 ≤ v
  · have HF : Hid (decide (v < (n : Int)) = isV n v) := Lib.hid (by unfold isV; simp [h0])
    go_enter Try.func52, Try.ntmps52
    go_wp2_with fail
    refine Calls.mono HL.out ?_
    rintro e w' ⟨rfl, rfl⟩
    clear HL
    go_wp2_with fail
    go_ret
    exact ⟨by rw [← HF.out]; rfl, rfl⟩
  · have HF : Hid (isV n v = false) := Lib.hid (by unfold isV; simp [h0])
    go_enter Try.func52, Try.ntmps52
    go_wp2_with fail
    go_ret
    exact ⟨by rw [HF.out]; rfl, rfl⟩
/-- A graph that is none: nil, or one that New did not answer. -/
def Non (w : World) (v : Value) : Prop := v = .pointer none ∨ ∃ g, v = .pointer (some ⟨g, 0, none⟩) ∧ w.cell? ⟨g, 0, none⟩ = some (.bool false)
theorem none_non (w : World) (v : Value) (h : Non w v) : Calls Try.prog 51 #[v] w fun e w' => e = .returned (.bool true) ∧ w = w' := by
  rcases h with rfl | ⟨g, rfl, h⟩
  · exact none_nil w
  · exact none_zero w g h
theorem len_non (w : World) (v : Value) (h : Non w v) : Calls Try.prog 37 #[v] w fun e w' => e = .returned (.int .i64 0) ∧ w = w' := by
  have HN := Lib.hid (none_non w v h)
  clear h
  go_enter Try.func37, Try.ntmps37
  go_wp2_with fail
  refine Calls.mono HN.out ?_
  rintro e w' ⟨rfl, rfl⟩
  clear HN
  go_wp2_with fail
  go_ret
  exact ⟨rfl, rfl⟩
theorem is_non (w : World) (v : Value) (h : Non w v) (x : Int) : Calls Try.prog 52 #[v, .int .i64 x] w fun e w' => e = .returned (.bool false) ∧ w = w' := by
  have HL := Lib.hid (len_non w v h)
  clear h
  by_cases h0 : 0 ≤ x
  · have h1 : ¬ x < 0 := by omega
    go_enter Try.func52, Try.ntmps52
    go_wp2_with fail
    refine Calls.mono HL.out ?_
    rintro e w' ⟨rfl, rfl⟩
    clear HL
    go_wp2_with fail
    go_ret
    exact ⟨by rw [show (false : Bool) = decide (x < 0) from (decide_eq_false (by omega)).symm]; rfl, rfl⟩
  · go_enter Try.func52, Try.ntmps52
    go_wp2_with fail
    go_ret
    exact ⟨rfl, rfl⟩
theorem has_non (w : World) (v : Value) (h : Non w v) (x y : Int) : Calls Try.prog 36 #[v, .int .i64 x, .int .i64 y] w fun e w' => e = .returned (.bool false) ∧ w = w' := by
  have HL := Lib.hid (is_non w v h x)
  clear h
  go_enter Try.func36, Try.ntmps36
  go_wp2_with fail
  refine Calls.mono HL.out ?_
  rintro e w' ⟨rfl, rfl⟩
  clear HL
  go_wp2_with fail
  go_ret
  exact ⟨rfl, rfl⟩
theorem putE_non (w : World) (v : Value) (h : Non w v) (x y : Int) : Calls Try.prog 33 #[v, .int .i64 x, .int .i64 y] w fun e w' => e = .returned (.tuple #[.bool false, .int .i64 1]) ∧ w = w' := by
  have HL := Lib.hid (none_non w v h)
  clear h
  go_enter Try.func33, Try.ntmps33
  go_wp2_with fail
  refine Calls.mono HL.out ?_
  rintro e w' ⟨rfl, rfl⟩
  clear HL
  go_wp2_with fail
  go_ret2
  exact ⟨rfl, rfl⟩
theorem grow_non (w : World) (v : Value) (h : Non w v) (x : Int) : Calls Try.prog 59 #[v, .int .i64 x] w fun e w' => e = .returned (.int .i64 1) ∧ w = w' := by
  have HL := Lib.hid (none_non w v h)
  clear h
  go_enter Try.func59, Try.ntmps59
  go_wp2_with fail
  refine Calls.mono HL.out ?_
  rintro e w' ⟨rfl, rfl⟩
  clear HL
  go_wp2_with fail
  go_ret
  exact ⟨rfl, rfl⟩
theorem out_non (w : World) (v : Value) (h : Non w v) (x : Int) : Calls Try.prog 56 #[v, .int .i64 x] w fun e w' => e = .returned (.slice none 0 0) ∧ w = w' := by
  have HL := Lib.hid (is_non w v h x)
  clear h
  go_enter Try.func56, Try.ntmps56
  go_wp2_with fail
  refine Calls.mono HL.out ?_
  rintro e w' ⟨rfl, rfl⟩
  clear HL
  go_wp2_with fail
  go_ret
  exact ⟨rfl, rfl⟩
theorem in_non (w : World) (v : Value) (h : Non w v) (x : Int) : Calls Try.prog 54 #[v, .int .i64 x] w fun e w' => e = .returned (.slice none 0 0) ∧ w = w' := by
  have HL := Lib.hid (is_non w v h x)
  clear h
  go_enter Try.func54, Try.ntmps54
  go_wp2_with fail
  refine Calls.mono HL.out ?_
  rintro e w' ⟨rfl, rfl⟩
  clear HL
  go_wp2_with fail
  go_ret
  exact ⟨rfl, rfl⟩
theorem sort_non (w : World) (v : Value) (h : Non w v) : Calls Try.prog 40 #[v] w fun e w' => e = .returned (.tuple #[.slice none 0 0, .bool false]) ∧ w = w' := by
  have HL := Lib.hid (none_non w v h)
  clear h
  go_enter Try.func40, Try.ntmps40
  go_wp2_with fail
  refine Calls.mono HL.out ?_
  rintro e w' ⟨rfl, rfl⟩
  clear HL
  go_wp2_with fail
  go_ret2
  exact ⟨rfl, rfl⟩
theorem copy_non (w : World) (v : Value) (h : Non w v) : Calls Try.prog 49 #[v] w fun e w' => e = .returned (.pointer none) ∧ w = w' := by
  have HL := Lib.hid (none_non w v h)
  clear h
  go_enter Try.func49, Try.ntmps49
  go_wp2_with fail
  refine Calls.mono HL.out ?_
  rintro e w' ⟨rfl, rfl⟩
  clear HL
  go_wp2_with fail
  go_ret
  exact ⟨rfl, rfl⟩
theorem edges_non (w : World) (v : Value) (h : Non w v) : Calls Try.prog 39 #[v] w fun e w' => e = .returned (.slice none 0 0) ∧ w = w' := by
  have HL := Lib.hid (len_non w v h)
  clear h
  go_enter Try.func39, Try.ntmps39
  go_wp2_with fail
  refine Calls.mono HL.out ?_
  rintro e w' ⟨rfl, rfl⟩
  clear HL
  go_wp2_with fail
  go_loop [3, 9] (fun v i => v = .slice none 0 0 ∧ i = .int .i64 0) (fun _ _ => 0)
  case atStart => exact ⟨rfl, rfl⟩
  case round =>
    obtain ⟨rfl, rfl⟩ := hrel
    go_wp2_with fail
    go_ret
    exact ⟨rfl, rfl⟩
end Go.Proofs.Ytelplccbcbegkaa.GrW

namespace Go.Proofs.Ytelplccbcbegkaa.GrW
set_option linter.unusedVariables false
open Go Go.RowKit Go.Proofs Go.Proofs.Ytelplccbcbegkaa Go.Proofs.Ytelplccbcbegkaa.Wd

theorem infoVertex : (Try.prog.info? 96).map (fun i => (i.zero, i.size, i.bytes)) = some (some (.agg #[.slice none 0 0, .slice none 0 0]), 2, 48) := by kernel_rfl
def noRows (k : Nat) : Array Value := ((List.range k).map fun _ => Value.slice none 0 0).toArray
theorem made_rows (k : Nat) : madeCells #[Value.slice none 0 0, .slice none 0 0] k = noRows k := by
  apply Array.ext
  · simp [madeCells, noRows]
  · intro i h1 h2
    simp only [madeCells, noRows, Array.getElem_map, List.getElem_toArray, List.getElem_map]
    have : i % 2 = 0 ∨ i % 2 = 1 := by omega
    rcases this with h | h <;> simp [h]
theorem make_rows (n : Nat) (hn : n ≤ 10000) (W : World) : (Instr.makeSlice 91 (.int .i64 (n : Int)) (.int .i64 (n : Int))).run Try.prog W = .ok (.slice (some ⟨W.heap.size, 0, none⟩) n n) (W.alloc (.cells (noRows (n * 2)) 96)) := by
  obtain ⟨j0, hj0, hy0, hy1, hy2⟩ := info_parts infoVertex
  have h := run_make (P := Try.prog) W 91 96 j0 _ Try.underlying91 hj0 hy0 .i64 .i64 (n : Int) (n : Int) (by omega) (Int.le_refl _) (by rw [hy2]; omega) (by omega)
  rw [Int.toNat_natCast, hy1] at h
  rw [h, ← made_rows]; rfl
theorem GAt.new_ {w : World} {base r g n : Nat} (hb : Blk w r 96 (noRows (n * 2))) (hg : Blk w g 93 #[.bool true, .slice (some ⟨r, 0, none⟩) n n]) (h1 : base ≤ r) (h2 : base ≤ g) (hn : n ≤ maxLen) : GAt w base (fun k => base ≤ k) g n (List.replicate (2 * n) []) := by
  have hs : (noRows (n * 2)).size = n * 2 := by simp [noRows]
  have hc : ∀ i, i < n * 2 → (noRows (n * 2))[i]? = some (.slice none 0 0) := fun i hi => by simp [noRows, hi]
  refine ⟨r, n, _, hg, h2, ⟨hb, h1, by rw [hs, List.length_replicate]; omega, fun i hi => ?_, fun i j v u q hij hi hj hv hu hq => ?_⟩, List.length_replicate, Nat.le_refl _, hn, hs, h2, h1, fun i v b hi hv hb => ?_⟩
  · rw [List.length_replicate] at hi
    exact ⟨_, hc i (by omega), by rw [List.getElem_replicate]; exact .inl ⟨rfl, rfl⟩⟩
  · rw [List.length_replicate] at hi
    rw [hc i (by omega)] at hv
    cases hv
    simp [Value.ownBlock] at hq
  · rw [List.length_replicate] at hi
    rw [hc i (by omega)] at hv
    cases hv
    simp [Value.ownBlock] at hb
/-- What New answers. -/
def NewOut (w : World) (n : Int) (e : Ending) (w' : World) : Prop :=
  if 0 ≤ n ∧ n ≤ 10000 then ∃ g, e = .returned (.tuple #[.pointer (some ⟨g, 0, none⟩), .int .i64 0]) ∧ GAt w' w.heap.size (fun k => w.heap.size ≤ k) g n.toNat (List.replicate (2 * n.toNat) []) ∧ Below w.heap.size w w' else e = .returned (.tuple #[.pointer none, .int .i64 2]) ∧ w' = w
theorem new_any (n : Int) (w : World) : Calls Try.prog 32 #[.int .i64 n] w (NewOut w n) := by
  by_cases h0 : 0 ≤ n
  · by_cases h1 : n ≤ 10000
    · obtain ⟨k, rfl⟩ : ∃ k : Nat, n = k := ⟨n.toNat, by omega⟩
      have hk : k ≤ 10000 := by omega
      have hmk := make_rows k hk
      have HF : Hid (NewOut w (k : Int) (.returned (.tuple #[.pointer (some ⟨w.heap.size + 1, 0, none⟩), .int .i64 0])) ((w.alloc (.cells (noRows (k * 2)) 96)).alloc (.cells #[.bool true, .slice (some ⟨w.heap.size, 0, none⟩) k k] 93))) := Lib.hid (by
        unfold NewOut
        rw [if_pos ⟨h0, h1⟩, Int.toNat_natCast]
        refine ⟨_, rfl, GAt.new_ (r := w.heap.size) ((Blk.new_ w _ _ rfl).alloc _) (Blk.new_ _ _ _ (by simp)) (Nat.le_refl _) (by omega) (by unfold maxLen; omega), ((Below.refl _ w).alloc (Nat.le_refl _) _).alloc (by simp) _⟩)
      have u0 : ¬ (k : Int) < 0 := by omega
      have u1 : ¬ (10000 : Int) < (k : Int) := by omega
      clear h0 h1
      go_enter Try.func32, Try.ntmps32
      go_wp2_with fail
      go_ret2
      exact HF.out
    · have u0 : ¬ n < 0 := by omega
      have u1 : (10000 : Int) < n := by omega
      have HF : Hid (NewOut w n (.returned (.tuple #[.pointer none, .int .i64 2])) w) := Lib.hid (by unfold NewOut; rw [if_neg (by omega)]; exact ⟨rfl, rfl⟩)
      clear h0 h1
      go_enter Try.func32, Try.ntmps32
      go_wp2_with fail
      go_ret2
      exact HF.out
  · have u0 : n < 0 := by omega
    have HF : Hid (NewOut w n (.returned (.tuple #[.pointer none, .int .i64 2])) w) := Lib.hid (by unfold NewOut; rw [if_neg (by omega)]; exact ⟨rfl, rfl⟩)
    clear h0
    go_enter Try.func32, Try.ntmps32
    go_wp2_with fail
    go_ret2
    exact HF.out
end Go.Proofs.Ytelplccbcbegkaa.GrW

namespace Go.Proofs.Ytelplccbcbegkaa.GrW
set_option linter.unusedVariables false
open Go Go.RowKit Go.Proofs Go.Proofs.Ytelplccbcbegkaa Go.Proofs.Ytelplccbcbegkaa.Wd

/-- Rising rows, none too long. -/
def Rises (L : List (List Int)) : Prop := ∀ l ∈ L, l.Pairwise (· < ·) ∧ l.length ≤ 1000000
theorem GAt.row_at {w : World} {base g n : Nat} {F : Nat → Prop} {L : List (List Int)} (h : GAt w base F g n L) : ∃ r c, Head w g (.slice (some ⟨r, 0, none⟩) n c) ∧ ∀ i, i < 2 * n → ∃ A d, w.cell? ⟨r, i, none⟩ = some (.slice A (L.getD i []).length d) ∧ IRow w base (.slice A (L.getD i []).length d) (L.getD i []) := by
  obtain ⟨r, c, cur, h1, h2, h3, h4, h5, h6, -⟩ := h
  refine ⟨r, c, ⟨h1.cell 0, h1.cell 1⟩, fun i hi => ?_⟩
  obtain ⟨v, hv, hr⟩ := h3.row i (by omega)
  have e : L.getD i [] = L[i]'(by omega) := by simp [List.getD, h4, hi]
  obtain ⟨A, d, rfl⟩ := hr.lies
  rw [e]
  exact ⟨A, d, (h3.blk.cell i).trans hv, hr⟩
theorem Rises.at_ {L : List (List Int)} (h : Rises L) (i : Nat) : (L.getD i []).Pairwise (· < ·) ∧ (L.getD i []).length ≤ 1000000 := by
  by_cases hi : i < L.length
  · have e : L.getD i [] = L[i] := by simp [List.getD, hi]
    rw [e]; exact h _ (List.getElem_mem hi)
  · have e : L.getD i [] = [] := by simp [List.getD, List.getElem?_eq_none (Nat.le_of_not_lt hi)]
    rw [e]; exact ⟨List.Pairwise.nil, Nat.zero_le _⟩
def hasE (n : Nat) (L : List (List Int)) (u v : Int) : Bool := isV n u && (L.getD (2 * u.toNat) []).contains v
theorem has_any (w : World) (base g n : Nat) (F : Nat → Prop) (L : List (List Int)) (h : GAt w base F g n L) (hr : Rises L) (u v : Int) :
    Calls Try.prog 36 #[.pointer (some ⟨g, 0, none⟩), .int .i64 u, .int .i64 v] w fun e w' => e = .returned (.bool (hasE n L u v)) ∧ ∃ q, w' = w.drewN q := by
  obtain ⟨r, c, hH, hrow⟩ := h.row_at
  have HI := Lib.hid (is_any w g r n c hH u)
  by_cases hu : isV n u = true
  · obtain ⟨k, rfl, hk⟩ : ∃ k : Nat, u = k ∧ k < n := by
      unfold isV at hu
      simp only [Bool.and_eq_true, decide_eq_true_eq] at hu
      exact ⟨u.toNat, by omega, by omega⟩
    obtain ⟨A, d, hc, hi⟩ := hrow (2 * k) (by omega)
    have hcell : w.cell? ⟨r, k * 2, none⟩ = some (.slice A (L.getD (2 * k) []).length d) := by rw [Nat.mul_comm k 2]; exact hc
    have HS := Lib.hid (search_any w base _ _ hi (hr.at_ (2 * k)).2 (rising (hr.at_ (2 * k)).1) v)
    have HF : Hid (hasE n L (k : Int) v = (L.getD (2 * k) []).contains v) := Lib.hid (by unfold hasE; rw [hu, Int.toNat_natCast]; rfl)
    obtain ⟨h0, h1⟩ := hH
    have i1 : (0 : Int) ≤ (k : Int) := by omega
    have i2 : (k : Int) < (n : Int) := by omega
    rw [hu] at HI
    generalize L.getD (2 * k) [] = l at *
    clear hu hc hi hrow hr h
    go_enter Try.func36, Try.ntmps36
    go_wp2_with fail
    refine Calls.mono HI.out ?_
    rintro e w' ⟨rfl, rfl⟩
    clear HI
    go_wp2_with fail
    refine Calls.mono HS.out ?_
    rintro e w' ⟨rfl, q, rfl⟩
    clear HS
    generalize l.contains v = b at *
    go_wp2_with fail
    go_ret
    exact ⟨by rw [HF.out]; rfl, q, rfl⟩
  · have HF : Hid (hasE n L u v = false) := Lib.hid (by unfold hasE; rw [Bool.eq_false_iff.2 hu]; rfl)
    rw [Bool.eq_false_iff.2 hu] at HI
    clear hu hrow hr h hH
    go_enter Try.func36, Try.ntmps36
    go_wp2_with fail
    refine Calls.mono HI.out ?_
    rintro e w' ⟨rfl, rfl⟩
    clear HI
    go_wp2_with fail
    go_ret
    exact ⟨by rw [HF.out]; rfl, 0, rfl⟩
/-- Numbers that a call made. -/
def NumsOut (w : World) (l : List Int) (e : Ending) (w' : World) : Prop := ∃ v', e = .returned v' ∧ w'.ownsRow w.heap.size 3 1 v' l.length (iv l) ∧ Below w.heap.size w w'
theorem clone_row (w : World) (base : Nat) (v : Value) (l : List Int) (h : IRow w base v l) (hl : l.length ≤ 1000000) : Calls Try.prog 38 #[v] w (NumsOut w l) := by
  rcases h with ⟨rfl, rfl⟩ | ⟨g, off, cap, cur, rfl, hg, hb, hn, hm, hc, ht⟩
  · refine (Any.slices_Clone_int_nil GrL.lays15 0 0 w).mono ?_
    rintro e w' ⟨rfl, rfl⟩
    exact ⟨_, rfl, own_nil _ _ _, Below.refl _ _⟩
  · refine (Any.slices_Clone_int GrL.lays15 g off l.length cap l w (Nat.le_refl _) (by omega) (getD_at hb ht)).mono ?_
    rintro e w' ⟨v', rfl, ho, -, hb'⟩
    rw [List.take_length] at ho
    exact ⟨v', rfl, ho, hb'⟩
def outE (n : Nat) (L : List (List Int)) (u : Int) : List Int := if isV n u = true then L.getD (2 * u.toNat) [] else []
def intoE (n : Nat) (L : List (List Int)) (u : Int) : List Int := if isV n u = true then L.getD (2 * u.toNat + 1) [] else []
theorem out_any (w : World) (base g n : Nat) (F : Nat → Prop) (L : List (List Int)) (h : GAt w base F g n L) (hr : Rises L) (u : Int) :
    Calls Try.prog 56 #[.pointer (some ⟨g, 0, none⟩), .int .i64 u] w (NumsOut w (outE n L u)) := by
  obtain ⟨r, c, hH, hrow⟩ := h.row_at
  have HI := Lib.hid (is_any w g r n c hH u)
  by_cases hu : isV n u = true
  · obtain ⟨k, rfl, hk⟩ : ∃ k : Nat, u = k ∧ k < n := by
      unfold isV at hu
      simp only [Bool.and_eq_true, decide_eq_true_eq] at hu
      exact ⟨u.toNat, by omega, by omega⟩
    obtain ⟨A, d, hc, hi⟩ := hrow (2 * k) (by omega)
    have hcell : w.cell? ⟨r, k * 2, none⟩ = some (.slice A (L.getD (2 * k) []).length d) := by rw [Nat.mul_comm k 2]; exact hc
    have HS := Lib.hid (clone_row w base _ _ hi (hr.at_ (2 * k)).2)
    have HF : Hid (outE n L (k : Int) = L.getD (2 * k) []) := Lib.hid (by unfold outE; rw [if_pos hu, Int.toNat_natCast])
    obtain ⟨h0, h1⟩ := hH
    have i1 : (0 : Int) ≤ (k : Int) := by omega
    have i2 : (k : Int) < (n : Int) := by omega
    rw [hu] at HI
    generalize L.getD (2 * k) [] = l at *
    clear hu hc hi hrow hr h
    go_enter Try.func56, Try.ntmps56
    go_wp2_with fail
    refine Calls.mono HI.out ?_
    rintro e w' ⟨rfl, rfl⟩
    clear HI
    go_wp2_with fail
    refine Calls.mono HS.out ?_
    rintro e w2 ⟨v', rfl, ho, hb⟩
    obtain ⟨A2, c2, hv2⟩ := own_form ho
    subst hv2
    have HE : Hid (NumsOut w (outE n L (k : Int)) (.returned (.slice A2 l.length c2)) w2) := Lib.hid (by rw [HF.out]; exact ⟨_, rfl, ho, hb⟩)
    clear HS ho hb HF
    generalize l.length = m at *
    go_wp2_with fail
    go_ret
    exact HE.out
  · have HF : Hid (NumsOut w (outE n L u) (.returned (.slice none 0 0)) w) := Lib.hid (by unfold outE; rw [if_neg hu]; exact ⟨_, rfl, own_nil _ _ _, Below.refl _ _⟩)
    rw [Bool.eq_false_iff.2 hu] at HI
    clear hu hrow hr h hH
    go_enter Try.func56, Try.ntmps56
    go_wp2_with fail
    refine Calls.mono HI.out ?_
    rintro e w' ⟨rfl, rfl⟩
    clear HI
    go_wp2_with fail
    go_ret
    exact HF.out
theorem into_any (w : World) (base g n : Nat) (F : Nat → Prop) (L : List (List Int)) (h : GAt w base F g n L) (hr : Rises L) (u : Int) :
    Calls Try.prog 54 #[.pointer (some ⟨g, 0, none⟩), .int .i64 u] w (NumsOut w (intoE n L u)) := by
  obtain ⟨r, c, hH, hrow⟩ := h.row_at
  have HI := Lib.hid (is_any w g r n c hH u)
  by_cases hu : isV n u = true
  · obtain ⟨k, rfl, hk⟩ : ∃ k : Nat, u = k ∧ k < n := by
      unfold isV at hu
      simp only [Bool.and_eq_true, decide_eq_true_eq] at hu
      exact ⟨u.toNat, by omega, by omega⟩
    obtain ⟨A, d, hc, hi⟩ := hrow (2 * k + 1) (by omega)
    have hcell : w.cell? ⟨r, k * 2 + 1, none⟩ = some (.slice A (L.getD (2 * k + 1) []).length d) := by rw [Nat.mul_comm k 2]; exact hc
    have HS := Lib.hid (clone_row w base _ _ hi (hr.at_ (2 * k + 1)).2)
    have HF : Hid (intoE n L (k : Int) = L.getD (2 * k + 1) []) := Lib.hid (by unfold intoE; rw [if_pos hu, Int.toNat_natCast])
    obtain ⟨h0, h1⟩ := hH
    have i1 : (0 : Int) ≤ (k : Int) := by omega
    have i2 : (k : Int) < (n : Int) := by omega
    rw [hu] at HI
    generalize L.getD (2 * k + 1) [] = l at *
    clear hu hc hi hrow hr h
    go_enter Try.func54, Try.ntmps54
    go_wp2_with fail
    refine Calls.mono HI.out ?_
    rintro e w' ⟨rfl, rfl⟩
    clear HI
    go_wp2_with fail
    refine Calls.mono HS.out ?_
    rintro e w2 ⟨v', rfl, ho, hb⟩
    obtain ⟨A2, c2, hv2⟩ := own_form ho
    subst hv2
    have HE : Hid (NumsOut w (intoE n L (k : Int)) (.returned (.slice A2 l.length c2)) w2) := Lib.hid (by rw [HF.out]; exact ⟨_, rfl, ho, hb⟩)
    clear HS ho hb HF
    generalize l.length = m at *
    go_wp2_with fail
    go_ret
    exact HE.out
  · have HF : Hid (NumsOut w (intoE n L u) (.returned (.slice none 0 0)) w) := Lib.hid (by unfold intoE; rw [if_neg hu]; exact ⟨_, rfl, own_nil _ _ _, Below.refl _ _⟩)
    rw [Bool.eq_false_iff.2 hu] at HI
    clear hu hrow hr h hH
    go_enter Try.func54, Try.ntmps54
    go_wp2_with fail
    refine Calls.mono HI.out ?_
    rintro e w' ⟨rfl, rfl⟩
    clear HI
    go_wp2_with fail
    go_ret
    exact HF.out
end Go.Proofs.Ytelplccbcbegkaa.GrW

namespace Go.Proofs.Ytelplccbcbegkaa.GrW
set_option linter.unusedVariables false
open Go Go.RowKit Go.Proofs Go.Proofs.Ytelplccbcbegkaa Go.Proofs.Ytelplccbcbegkaa.Wd

theorem GAt.store {w : World} {base g n : Nat} {F : Nat → Prop} {L : List (List Int)} (h : GAt w base F g n L) : ∃ r c, Head w g (.slice (some ⟨r, 0, none⟩) n c) ∧ ∀ i, i < 2 * n → ∃ A d, w.cell? ⟨r, i, none⟩ = some (.slice A (L.getD i []).length d) ∧ IRow w base (.slice A (L.getD i []).length d) (L.getD i []) ∧
    ∀ w' v' l, IRow w' base v' l → w.grownBy w' (Value.slice A (L.getD i []).length d).ownBlock → (v'.ownBlock = (Value.slice A (L.getD i []).length d).ownBlock ∨ ∃ b, v'.ownBlock = some b ∧ w.heap.size ≤ b) →
      (Head w' g (.slice (some ⟨r, 0, none⟩) n c) ∧ Head (w'.setCell ⟨r, i, none⟩ v') g (.slice (some ⟨r, 0, none⟩) n c)) ∧ w'.cell? ⟨r, i, none⟩ = some (.slice A (L.getD i []).length d) ∧ w'.frozen? ⟨r, i, none⟩ = false ∧ GAt (w'.setCell ⟨r, i, none⟩ v') base (fun k => F k ∨ w.heap.size ≤ k) g n (L.set i l) ∧ Fr F w (w'.setCell ⟨r, i, none⟩ v') := by
  obtain ⟨r, c, cur, h1, h2, h3, h4, h5, h6, h7, f1, f2, f3⟩ := h
  refine ⟨r, c, ⟨h1.cell 0, h1.cell 1⟩, fun i hi => ?_⟩
  obtain ⟨v, hv, hr⟩ := h3.row i (by omega)
  have e : L.getD i [] = L[i]'(by omega) := by simp [List.getD, h4, hi]
  obtain ⟨A, d, rfl⟩ := hr.lies
  rw [e]
  refine ⟨A, d, (h3.blk.cell i).trans hv, hr, fun w' v' l hr' hg ho => ?_⟩
  have hne : some r ≠ (Value.slice A (L[i]'(by omega)).length d).ownBlock := fun e2 => h3.ne_row hr e2.symm rfl
  have hb' : Blk w' r 96 cur := h3.blk.grown hg hne
  have hgr : g ≠ r := fun e2 => by rw [e2] at h1; exact h1.ne_ h3.blk (by decide) rfl
  have hgi : some g ≠ (Value.slice A (L[i]'(by omega)).length d).ownBlock := fun e2 => by
    obtain ⟨_, cs, hb2⟩ := hr.blk e2.symm
    exact h1.ne_ hb2 (by decide) rfl
  have hic : i < cur.size := by have := h3.fits; omega
  refine ⟨⟨⟨(h1.grown hg hgi).cell 0, (h1.grown hg hgi).cell 1⟩, ⟨((h1.grown hg hgi).far (p := ⟨r, i, none⟩) hgr v').cell 0, ((h1.grown hg hgi).far (p := ⟨r, i, none⟩) hgr v').cell 1⟩⟩, (hb'.cell i).trans hv, hb'.frozen i, ⟨r, c, _, (h1.grown hg hgi).far (p := ⟨r, i, none⟩) hgr v', h2, h3.put (by omega) hv hr' hg ho, by rw [List.length_set]; exact h4, h5, h6, by rw [Array.size_setIfInBounds]; exact h7, .inl f1, .inl f2, fun j u b hj hu hb => ?_⟩, ?_⟩
  · rw [List.length_set] at hj
    by_cases e2 : i = j
    · subst e2
      rw [Array.getElem?_setIfInBounds_self_of_lt hic] at hu
      cases hu
      rcases ho with ho | ⟨b2, ho, hlt⟩
      · exact .inl (f3 i _ b hj hv (by rw [← ho]; exact hb))
      · rw [hb] at ho
        cases ho
        exact .inr hlt
    · rw [Array.getElem?_setIfInBounds_ne e2] at hu
      exact .inl (f3 j u b hj hu hb)
  · exact (Fr.of_grown hg (fun b hb => f3 i _ b (by omega) hv hb)).set_ f2 i v'
end Go.Proofs.Ytelplccbcbegkaa.GrW

namespace Go.Proofs.Ytelplccbcbegkaa.GrW
set_option linter.unusedVariables false
open Go Go.RowKit Go.Proofs Go.Proofs.Ytelplccbcbegkaa Go.Proofs.Ytelplccbcbegkaa.Wd

theorem isV_nat {n : Nat} {u : Int} (hu : isV n u = true) : ∃ k : Nat, u = k ∧ k < n := by
  unfold isV at hu
  simp only [Bool.and_eq_true, decide_eq_true_eq] at hu
  exact ⟨u.toNat, by omega, by omega⟩
theorem Head.keep {w w' : World} {g : Nat} {v : Value} (h : Head w g v) (hk : ∀ i, w'.cell? ⟨g, i, none⟩ = w.cell? ⟨g, i, none⟩) : Head w' g v := ⟨(hk 0).trans h.1, (hk 1).trans h.2⟩
set_option maxRecDepth 100000 in
set_option maxHeartbeats 4000000 in
theorem putE_any (w : World) (base g n : Nat) (F : Nat → Prop) (L : List (List Int)) (h : GAt w base F g n L) (hr : Rises L) (hbase : base ≤ w.heap.size) (k m : Nat) (hk : k < n) (hm : m < n) (hne : k ≠ m) :
    Calls Try.prog 33 #[.pointer (some ⟨g, 0, none⟩), .int .i64 k, .int .i64 m] w fun e w' => ∃ F', e = .returned (.tuple #[.bool (!(L.getD (2 * k) []).contains (m : Int)), .int .i64 0]) ∧ GAt w' base F' g n ((L.set (2 * k) (add (L.getD (2 * k) []) m)).set (2 * m + 1) (add (L.getD (2 * m + 1) []) k)) ∧ Fr F w w' ∧ ∀ j, F' j → F j ∨ w.heap.size ≤ j := by
  obtain ⟨r, c, hH, hst⟩ := h.store
  obtain ⟨A, d, hc, hi, hs⟩ := hst (2 * k) (by omega)
  have ra := hr.at_ (2 * k)
  have rb := hr.at_ (2 * m + 1)
  clear hst
  generalize hlk : L.getD (2 * k) [] = lk at *
  generalize hlm : L.getD (2 * m + 1) [] = lm at *
  generalize hbk : lk.contains (m : Int) = bk at *
  have HN := Lib.hid (none_any w g _ hH)
  have HU := Lib.hid (is_any w g r n c hH (k : Int))
  have HV := Lib.hid (is_any w g r n c hH (m : Int))
  rw [show isV n (k : Int) = true by unfold isV; simp; omega] at HU
  rw [show isV n (m : Int) = true by unfold isV; simp; omega] at HV
  have hc2 : w.cell? ⟨r, k * 2, none⟩ = some (.slice A lk.length d) := by rw [Nat.mul_comm k 2]; exact hc
  have HP := Lib.hid (put_any w.drew base hbase _ _ hi ra.2 ra.1 (m : Int))
  rw [hbk] at HP
  have HS := Lib.hid hs
  have HH := Lib.hid hH
  have HC := Lib.hid hc2
  have i1 : (0 : Int) ≤ (k : Int) := by omega
  have i2 : (k : Int) < (n : Int) := by omega
  have i3 : (0 : Int) ≤ (m : Int) := by omega
  have i4 : (m : Int) < (n : Int) := by omega
  have i5 : ((k : Int) == (m : Int)) = false := by rw [beq_eq_false_iff_ne]; omega
  have HLM := Lib.hid hlm
  have HRB := Lib.hid rb
  clear hs hc hc2 hi hH h ra rb hlk hlm hbk
  go_enter Try.func33, Try.ntmps33
  go_wp2_with fail
  refine Calls.mono HN.out ?_
  rintro e w' ⟨rfl, rfl⟩
  clear HN
  go_wp2_with fail
  refine Calls.mono HU.out ?_
  rintro e w' ⟨rfl, rfl⟩
  clear HU
  go_wp2_with fail
  refine Calls.mono HV.out ?_
  rintro e w' ⟨rfl, rfl⟩
  clear HV
  go_wp2_with fail
  refine wp_region_heldG [20] (fun cc W => Head W g (.slice (some ⟨r, 0, none⟩) n c) ∧ (cc 20 = true ∨ W.cell? ⟨r, k * 2, none⟩ = some (.slice A lk.length d))) (by kernel_rfl) ?_
  change wpAnyG _ _ _ _ _ _ 22 _ _ w.drew
  · have hS : Head w.drew g (.slice (some ⟨r, 0, none⟩) n c) ∧ ((false = true) ∨ w.drew.cell? ⟨r, k * 2, none⟩ = some (.slice A lk.length d)) := ⟨HH.out, .inr HC.out⟩
    refine g_take (i := 0) rfl rfl (by kernel_rfl) (by kernel_rfl) (by kernel_rfl) (by kernel_rfl) (by kernel_rfl) (fun _ _ _ h => h) ⟨hS.1, .inr (hS.2.resolve_left (by simp))⟩ (fun L W hL hW => by go_simp; rfl) ?_
    refine g_take (i := 1) rfl rfl (by kernel_rfl) (by kernel_rfl) (by kernel_rfl) (by kernel_rfl) (by kernel_rfl) (fun _ _ _ h => h) ⟨hS.1, .inr (hS.2.resolve_left (by simp))⟩ (fun L W hL hW => by go_simp; rfl) ?_
    refine g_take (i := 2) rfl rfl (by kernel_rfl) (by kernel_rfl) (by kernel_rfl) (by kernel_rfl) (by kernel_rfl) (fun _ _ _ h => h) ⟨hS.1, .inr (hS.2.resolve_left (by simp))⟩ (fun L W hL hW => by go_simp; rfl) ?_
    refine g_take (i := 3) rfl rfl (by kernel_rfl) (by kernel_rfl) (by kernel_rfl) (by kernel_rfl) (by kernel_rfl) (fun _ _ _ h => h) ⟨hS.1, .inr (hS.2.resolve_left (by simp))⟩ (fun L W hL hW => by obtain ⟨⟨q0, q1⟩, -⟩ := hW; go_simp; rfl) ?_
    refine g_take (i := 4) rfl rfl (by kernel_rfl) (by kernel_rfl) (by kernel_rfl) (by kernel_rfl) (by kernel_rfl) (fun _ _ _ h => h) ⟨hS.1, .inr (hS.2.resolve_left (by simp))⟩ (fun L W hL hW => by go_simp; rfl) ?_
    refine g_take (i := 5) rfl rfl (by kernel_rfl) (by kernel_rfl) (by kernel_rfl) (by kernel_rfl) (by kernel_rfl) (fun _ _ _ h => h) ⟨hS.1, .inr (hS.2.resolve_left (by simp))⟩ (fun L W hL hW => by go_simp; rfl) ?_
    refine g_take (i := 6) rfl rfl (by kernel_rfl) (by kernel_rfl) (by kernel_rfl) (by kernel_rfl) (by kernel_rfl) (fun _ _ _ h => h) ⟨hS.1, .inr (hS.2.resolve_left (by simp))⟩ (fun L W hL hW => by go_simp; rfl) ?_
    refine g_take (i := 7) rfl rfl (by kernel_rfl) (by kernel_rfl) (by kernel_rfl) (by kernel_rfl) (by kernel_rfl) (fun _ _ _ h => h) ⟨hS.1, .inr (hS.2.resolve_left (by simp))⟩ (fun L W hL hW => by go_simp; rfl) ?_
    refine g_take (i := 8) rfl rfl (by kernel_rfl) (by kernel_rfl) (by kernel_rfl) (by kernel_rfl) (by kernel_rfl) (fun _ _ _ h => h) ⟨hS.1, .inr (hS.2.resolve_left (by simp))⟩ (fun L W hL hW => by obtain ⟨⟨q0, q1⟩, -⟩ := hW; go_simp; rfl) ?_
    refine g_take (i := 9) rfl rfl (by kernel_rfl) (by kernel_rfl) (by kernel_rfl) (by kernel_rfl) (by kernel_rfl) (fun _ _ _ h => h) ⟨hS.1, .inr (hS.2.resolve_left (by simp))⟩ (fun L W hL hW => by go_simp; rfl) ?_
    refine g_take (i := 10) rfl rfl (by kernel_rfl) (by kernel_rfl) (by kernel_rfl) (by kernel_rfl) (by kernel_rfl) (fun _ _ _ h => h) ⟨hS.1, .inr (hS.2.resolve_left (by simp))⟩ (fun L W hL hW => by go_simp; rfl) ?_
    refine g_take (i := 11) rfl rfl (by kernel_rfl) (by kernel_rfl) (by kernel_rfl) (by kernel_rfl) (by kernel_rfl) (fun _ _ _ h => h) ⟨hS.1, .inr (hS.2.resolve_left (by simp))⟩ (fun L W hL hW => by go_simp; rfl) ?_
    refine g_take (i := 12) rfl rfl (by kernel_rfl) (by kernel_rfl) (by kernel_rfl) (by kernel_rfl) (by kernel_rfl) (fun _ _ _ h => h) ⟨hS.1, .inr (hS.2.resolve_left (by simp))⟩ (fun L W hL hW => by obtain ⟨⟨q0, q1⟩, q2⟩ := hW; have q3 := q2.resolve_left (by simp [came, hL 20 (by kernel_rfl)]); go_simp; rfl) ?_
    refine g_take (i := 13) rfl rfl (by kernel_rfl) (by kernel_rfl) (by kernel_rfl) (by kernel_rfl) (by kernel_rfl) (fun _ _ _ h => h) ⟨hS.1, .inr (hS.2.resolve_left (by simp))⟩ (fun L W hL hW => by go_simp; rfl) ?_
    refine g_one (i := 14) rfl rfl (by kernel_rfl) fun K hK => ?_
    go_simp
    refine Calls.mono HP.out ?_
    rintro e w2 ⟨v', rfl, hr2, hg2, ho2⟩
    obtain ⟨A2, d2, hv2⟩ := hr2.lies
    subst hv2
    have hT := HS.out w2 _ _ hr2 (grown_ahead hg2) ho2
    have hH2 := hT.1.1
    have HH3 : Hid (Head (w2.setCell ⟨r, k * 2, none⟩ (.slice A2 (add lk m).length d2)) g (.slice (some ⟨r, 0, none⟩) n c)) := Lib.hid (by rw [Nat.mul_comm k 2]; exact hT.1.2)
    have hc2 : w2.cell? ⟨r, k * 2, none⟩ = some (.slice A lk.length d) := by rw [Nat.mul_comm k 2]; exact hT.2.1
    have hz2 : w2.frozen? ⟨r, k * 2, none⟩ = false := by rw [Nat.mul_comm k 2]; exact hT.2.2.1
    have HT : Hid (GAt (w2.setCell ⟨r, k * 2, none⟩ (.slice A2 (add lk m).length d2)) base (fun j => F j ∨ w.heap.size ≤ j) g n (L.set (2 * k) (add lk m)) ∧ Fr F w (w2.setCell ⟨r, k * 2, none⟩ (.slice A2 (add lk m).length d2))) := Lib.hid (by rw [Nat.mul_comm k 2]; exact hT.2.2.2)
    have HC2 := Lib.hid hc2
    have HZ2 := Lib.hid hz2
    have hS2 : Head w2 g (.slice (some ⟨r, 0, none⟩) n c) ∧ ((false = true) ∨ w2.cell? ⟨r, k * 2, none⟩ = some (.slice A lk.length d)) := ⟨hH2, .inr hc2⟩
    clear hT hr2 hg2 ho2 hc2 hz2
    refine hK _ _ ⟨hS2.1, .inr (hS2.2.resolve_left (by simp))⟩ ?_
    clear hK K
    refine g_take (i := 15) rfl rfl (by kernel_rfl) (by kernel_rfl) (by kernel_rfl) (by kernel_rfl) (by kernel_rfl) (fun _ _ _ h => h) ⟨hS2.1, .inr (hS2.2.resolve_left (by simp))⟩ (fun L W hL hW => by go_simp; rfl) ?_
    refine g_take (i := 16) rfl rfl (by kernel_rfl) (by kernel_rfl) (by kernel_rfl) (by kernel_rfl) (by kernel_rfl) (fun _ _ _ h => h) ⟨hS2.1, .inr (hS2.2.resolve_left (by simp))⟩ (fun L W hL hW => by go_simp; rfl) ?_
    refine g_take (i := 17) rfl rfl (by kernel_rfl) (by kernel_rfl) (by kernel_rfl) (by kernel_rfl) (by kernel_rfl) (fun _ _ _ h => h) ⟨hS2.1, .inr (hS2.2.resolve_left (by simp))⟩ (fun L W hL hW => by go_simp; rfl) ?_
    refine g_take (i := 18) rfl rfl (by kernel_rfl) (by kernel_rfl) (by kernel_rfl) (by kernel_rfl) (by kernel_rfl) (fun _ _ _ h => h) ⟨hS2.1, .inr (hS2.2.resolve_left (by simp))⟩ (fun L W hL hW => by go_simp; rfl) ?_
    refine g_take (i := 19) rfl rfl (by kernel_rfl) (by kernel_rfl) (by kernel_rfl) (by kernel_rfl) (by kernel_rfl) (fun _ _ _ h => h) ⟨hS2.1, .inr (hS2.2.resolve_left (by simp))⟩ (fun L W hL hW => by go_simp; rfl) ?_
    refine g_one (i := 20) rfl rfl (by kernel_rfl) fun K hK => ?_
    have hc2 := HC2.out
    have hz2 := HZ2.out
    go_simp
    have hS3 : Head (w2.setCell ⟨r, k * 2, none⟩ (.slice A2 (add lk m).length d2)) g (.slice (some ⟨r, 0, none⟩) n c) := HH3.out
    refine hK _ _ ⟨hS3, .inl (by simp [came])⟩ ?_
    clear hK K hc2 hz2
    refine g_take (i := 21) rfl rfl (by kernel_rfl) (by kernel_rfl) (by kernel_rfl) (by kernel_rfl) (by kernel_rfl) (fun _ _ _ h => h) ⟨hS3, .inl (by simp [came])⟩ (fun L W hL hW => by go_simp; rfl) ?_
    refine wpAnyG_done (by kernel_rfl) ?_ _
    clear hS hS2 hS3 HC2 HZ2 HH3 HS HP HC HH
    go_simp
    obtain ⟨hG3, hF3⟩ := HT.out
    clear HT
    generalize w2.setCell ⟨r, k * 2, none⟩ (.slice A2 (add lk m).length d2) = w3 at *
    obtain ⟨r', c', hH', hst'⟩ := hG3.store
    obtain ⟨A', d', hc', hi', hs'⟩ := hst' (2 * m + 1) (by omega)
    have el : (L.set (2 * k) (add lk m)).getD (2 * m + 1) [] = lm := by
      rw [← HLM.out]
      simp only [List.getD]
      rw [List.getElem?_set_ne (by omega)]
    rw [el] at hc' hi' hs'
    have hcm : w3.cell? ⟨r', m * 2 + 1, none⟩ = some (.slice A' lm.length d') := by rw [Nat.mul_comm m 2]; exact hc'
    have HP' := Lib.hid (put_any w3.drew base (Nat.le_trans hbase hF3.size) _ _ hi' HRB.out.2 HRB.out.1 (k : Int))
    generalize lm.contains (k : Int) = bm at *
    have HS' := Lib.hid hs'
    have HH' := Lib.hid hH'
    have HC' := Lib.hid hcm
    have HF3 := Lib.hid hF3
    clear hst' hs' hc' hcm hi' hH' hG3 hF3 el
    go_wp2_with fail
    refine wp_region_heldG [20] (fun cc W => Head W g (.slice (some ⟨r', 0, none⟩) n c') ∧ (cc 20 = true ∨ W.cell? ⟨r', m * 2 + 1, none⟩ = some (.slice A' lm.length d'))) (by kernel_rfl) ?_
    change wpAnyG _ _ _ _ _ _ 21 _ _ w3.drew
    have hS : Head w3.drew g (.slice (some ⟨r', 0, none⟩) n c') ∧ ((false = true) ∨ w3.drew.cell? ⟨r', m * 2 + 1, none⟩ = some (.slice A' lm.length d')) := ⟨HH'.out, .inr HC'.out⟩
    refine g_take (i := 0) rfl rfl (by kernel_rfl) (by kernel_rfl) (by kernel_rfl) (by kernel_rfl) (by kernel_rfl) (fun _ _ _ h => h) ⟨hS.1, .inr (hS.2.resolve_left (by simp))⟩ (fun L W hL hW => by go_simp; rfl) ?_
    refine g_take (i := 1) rfl rfl (by kernel_rfl) (by kernel_rfl) (by kernel_rfl) (by kernel_rfl) (by kernel_rfl) (fun _ _ _ h => h) ⟨hS.1, .inr (hS.2.resolve_left (by simp))⟩ (fun L W hL hW => by go_simp; rfl) ?_
    refine g_take (i := 2) rfl rfl (by kernel_rfl) (by kernel_rfl) (by kernel_rfl) (by kernel_rfl) (by kernel_rfl) (fun _ _ _ h => h) ⟨hS.1, .inr (hS.2.resolve_left (by simp))⟩ (fun L W hL hW => by go_simp; rfl) ?_
    refine g_take (i := 3) rfl rfl (by kernel_rfl) (by kernel_rfl) (by kernel_rfl) (by kernel_rfl) (by kernel_rfl) (fun _ _ _ h => h) ⟨hS.1, .inr (hS.2.resolve_left (by simp))⟩ (fun L W hL hW => by obtain ⟨⟨q0, q1⟩, -⟩ := hW; go_simp; rfl) ?_
    refine g_take (i := 4) rfl rfl (by kernel_rfl) (by kernel_rfl) (by kernel_rfl) (by kernel_rfl) (by kernel_rfl) (fun _ _ _ h => h) ⟨hS.1, .inr (hS.2.resolve_left (by simp))⟩ (fun L W hL hW => by go_simp; rfl) ?_
    refine g_take (i := 5) rfl rfl (by kernel_rfl) (by kernel_rfl) (by kernel_rfl) (by kernel_rfl) (by kernel_rfl) (fun _ _ _ h => h) ⟨hS.1, .inr (hS.2.resolve_left (by simp))⟩ (fun L W hL hW => by go_simp; rfl) ?_
    refine g_take (i := 6) rfl rfl (by kernel_rfl) (by kernel_rfl) (by kernel_rfl) (by kernel_rfl) (by kernel_rfl) (fun _ _ _ h => h) ⟨hS.1, .inr (hS.2.resolve_left (by simp))⟩ (fun L W hL hW => by go_simp; rfl) ?_
    refine g_take (i := 7) rfl rfl (by kernel_rfl) (by kernel_rfl) (by kernel_rfl) (by kernel_rfl) (by kernel_rfl) (fun _ _ _ h => h) ⟨hS.1, .inr (hS.2.resolve_left (by simp))⟩ (fun L W hL hW => by go_simp; rfl) ?_
    refine g_take (i := 8) rfl rfl (by kernel_rfl) (by kernel_rfl) (by kernel_rfl) (by kernel_rfl) (by kernel_rfl) (fun _ _ _ h => h) ⟨hS.1, .inr (hS.2.resolve_left (by simp))⟩ (fun L W hL hW => by obtain ⟨⟨q0, q1⟩, -⟩ := hW; go_simp; rfl) ?_
    refine g_take (i := 9) rfl rfl (by kernel_rfl) (by kernel_rfl) (by kernel_rfl) (by kernel_rfl) (by kernel_rfl) (fun _ _ _ h => h) ⟨hS.1, .inr (hS.2.resolve_left (by simp))⟩ (fun L W hL hW => by go_simp; rfl) ?_
    refine g_take (i := 10) rfl rfl (by kernel_rfl) (by kernel_rfl) (by kernel_rfl) (by kernel_rfl) (by kernel_rfl) (fun _ _ _ h => h) ⟨hS.1, .inr (hS.2.resolve_left (by simp))⟩ (fun L W hL hW => by go_simp; rfl) ?_
    refine g_take (i := 11) rfl rfl (by kernel_rfl) (by kernel_rfl) (by kernel_rfl) (by kernel_rfl) (by kernel_rfl) (fun _ _ _ h => h) ⟨hS.1, .inr (hS.2.resolve_left (by simp))⟩ (fun L W hL hW => by go_simp; rfl) ?_
    refine g_take (i := 12) rfl rfl (by kernel_rfl) (by kernel_rfl) (by kernel_rfl) (by kernel_rfl) (by kernel_rfl) (fun _ _ _ h => h) ⟨hS.1, .inr (hS.2.resolve_left (by simp))⟩ (fun L W hL hW => by obtain ⟨⟨q0, q1⟩, q2⟩ := hW; have q3 := q2.resolve_left (by simp [came, hL 20 (by kernel_rfl)]); go_simp; rfl) ?_
    refine g_take (i := 13) rfl rfl (by kernel_rfl) (by kernel_rfl) (by kernel_rfl) (by kernel_rfl) (by kernel_rfl) (fun _ _ _ h => h) ⟨hS.1, .inr (hS.2.resolve_left (by simp))⟩ (fun L W hL hW => by go_simp; rfl) ?_
    refine g_one (i := 14) rfl rfl (by kernel_rfl) fun K hK => ?_
    go_simp
    refine Calls.mono HP'.out ?_
    rintro e w4 ⟨v', rfl, hr2, hg2, ho2⟩
    obtain ⟨A4, d4, hv2⟩ := hr2.lies
    subst hv2
    have hT := HS'.out w4 _ _ hr2 (grown_ahead hg2) ho2
    have hH2 := hT.1.1
    have HH3 : Hid (Head (w4.setCell ⟨r', m * 2 + 1, none⟩ (.slice A4 (add lm k).length d4)) g (.slice (some ⟨r', 0, none⟩) n c')) := Lib.hid (by rw [Nat.mul_comm m 2]; exact hT.1.2)
    have hc2 : w4.cell? ⟨r', m * 2 + 1, none⟩ = some (.slice A' lm.length d') := by rw [Nat.mul_comm m 2]; exact hT.2.1
    have hz2 : w4.frozen? ⟨r', m * 2 + 1, none⟩ = false := by rw [Nat.mul_comm m 2]; exact hT.2.2.1
    have HT : Hid (GAt (w4.setCell ⟨r', m * 2 + 1, none⟩ (.slice A4 (add lm k).length d4)) base (fun j => (F j ∨ w.heap.size ≤ j) ∨ w3.heap.size ≤ j) g n ((L.set (2 * k) (add lk m)).set (2 * m + 1) (add lm k)) ∧ Fr (fun j => F j ∨ w.heap.size ≤ j) w3 (w4.setCell ⟨r', m * 2 + 1, none⟩ (.slice A4 (add lm k).length d4))) := Lib.hid (by rw [Nat.mul_comm m 2]; exact hT.2.2.2)
    have HC2 := Lib.hid hc2
    have HZ2 := Lib.hid hz2
    have hS2 : Head w4 g (.slice (some ⟨r', 0, none⟩) n c') ∧ ((false = true) ∨ w4.cell? ⟨r', m * 2 + 1, none⟩ = some (.slice A' lm.length d')) := ⟨hH2, .inr hc2⟩
    clear hT hr2 hg2 ho2 hc2 hz2
    refine hK _ _ ⟨hS2.1, .inr (hS2.2.resolve_left (by simp))⟩ ?_
    clear hK K
    refine g_take (i := 15) rfl rfl (by kernel_rfl) (by kernel_rfl) (by kernel_rfl) (by kernel_rfl) (by kernel_rfl) (fun _ _ _ h => h) ⟨hS2.1, .inr (hS2.2.resolve_left (by simp))⟩ (fun L W hL hW => by go_simp; rfl) ?_
    refine g_take (i := 16) rfl rfl (by kernel_rfl) (by kernel_rfl) (by kernel_rfl) (by kernel_rfl) (by kernel_rfl) (fun _ _ _ h => h) ⟨hS2.1, .inr (hS2.2.resolve_left (by simp))⟩ (fun L W hL hW => by go_simp; rfl) ?_
    refine g_take (i := 17) rfl rfl (by kernel_rfl) (by kernel_rfl) (by kernel_rfl) (by kernel_rfl) (by kernel_rfl) (fun _ _ _ h => h) ⟨hS2.1, .inr (hS2.2.resolve_left (by simp))⟩ (fun L W hL hW => by go_simp; rfl) ?_
    refine g_take (i := 18) rfl rfl (by kernel_rfl) (by kernel_rfl) (by kernel_rfl) (by kernel_rfl) (by kernel_rfl) (fun _ _ _ h => h) ⟨hS2.1, .inr (hS2.2.resolve_left (by simp))⟩ (fun L W hL hW => by go_simp; rfl) ?_
    refine g_take (i := 19) rfl rfl (by kernel_rfl) (by kernel_rfl) (by kernel_rfl) (by kernel_rfl) (by kernel_rfl) (fun _ _ _ h => h) ⟨hS2.1, .inr (hS2.2.resolve_left (by simp))⟩ (fun L W hL hW => by go_simp; rfl) ?_
    refine g_one (i := 20) rfl rfl (by kernel_rfl) fun K hK => ?_
    have hc2 := HC2.out
    have hz2 := HZ2.out
    go_simp
    refine hK _ _ ⟨HH3.out, .inl (by simp [came])⟩ ?_
    clear hK K hc2 hz2
    refine wpAnyG_done (by kernel_rfl) ?_ _
    have HFIN := Lib.hid (show ∃ F', GAt (w4.setCell ⟨r', m * 2 + 1, none⟩ (.slice A4 (add lm k).length d4)) base F' g n ((L.set (2 * k) (add lk m)).set (2 * m + 1) (add lm k)) ∧ Fr F w (w4.setCell ⟨r', m * 2 + 1, none⟩ (.slice A4 (add lm k).length d4)) ∧ ∀ j, F' j → F j ∨ w.heap.size ≤ j from
      ⟨_, HT.out.1, HF3.out.trans HT.out.2 (fun j hj hf => hf.resolve_right (by omega)), fun j hj => hj.elim id (fun h => .inr (Nat.le_trans HF3.out.size h))⟩)
    clear hS hS2 HC2 HZ2 HH3 HS' HP' HC' HH' HT HF3
    go_simp
    go_wp2_with fail
    go_ret2
    obtain ⟨F', q1, q2, q3⟩ := HFIN.out
    exact ⟨F', rfl, q1, q2, q3⟩
end Go.Proofs.Ytelplccbcbegkaa.GrW

namespace Go.Proofs.Ytelplccbcbegkaa.GrW
set_option linter.unusedVariables false
open Go Go.RowKit Go.Proofs Go.Proofs.Ytelplccbcbegkaa Go.Proofs.Ytelplccbcbegkaa.Wd

end Go.Proofs.Ytelplccbcbegkaa.GrW

namespace Go.Proofs.Ytelplccbcbegkaa.Gr
set_option linter.unusedVariables false

/-- There is an edge. -/
def E (L : List (List Int)) (x y : Nat) : Prop := (y : Int) ∈ L.getD (2 * x) []
inductive Path (L : List (List Int)) : Nat → Nat → Prop
  | refl (u : Nat) : Path L u u
  | step {u x v : Nat} : E L u x → Path L x v → Path L u v
theorem Path.trans {L : List (List Int)} {u v x : Nat} (h : Path L u v) (k : Path L v x) : Path L u x := by
  induction h with
  | refl => exact k
  | step h _ ih => exact .step h (ih k)
def Inside (n : Nat) (L : List (List Int)) : Prop := ∀ l ∈ L, ∀ x ∈ l, (0 : Int) ≤ x ∧ x < n
theorem Inside.at_ {n : Nat} {L : List (List Int)} (h : Inside n L) (i : Nat) {x : Int} (hx : x ∈ L.getD i []) : 0 ≤ x ∧ x < n := by
  by_cases hi : i < L.length
  · have e : L.getD i [] = L[i] := by simp [List.getD, hi]
    rw [e] at hx; exact h _ (List.getElem_mem hi) x hx
  · have e : L.getD i [] = [] := by simp [List.getD, List.getElem?_eq_none (Nat.le_of_not_lt hi)]
    rw [e] at hx; simp at hx
def is (met : List Bool) (i : Nat) : Bool := met.getD i false
/-- All that is met behind, and was not ahead, is not v, and its edges end at what is met. -/
def Closed (L : List (List Int)) (v : Nat) (met met' : List Bool) : Prop := ∀ y, is met' y = true → is met y = true ∨ (y ≠ v ∧ ∀ z, E L y z → is met' z = true)
def Mono (met met' : List Bool) : Prop := met'.length = met.length ∧ ∀ i, is met i = true → is met' i = true
theorem Mono.refl (met : List Bool) : Mono met met := ⟨rfl, fun _ h => h⟩
theorem Mono.trans {a b c : List Bool} (h : Mono a b) (k : Mono b c) : Mono a c := ⟨k.1.trans h.1, fun i hi => k.2 i (h.2 i hi)⟩
def Dfs (L : List (List Int)) (v : Nat) (met met' : List Bool) (x : Nat) (b : Bool) : Prop :=
  Mono met met' ∧ (b = true → Path L x v) ∧ (b = false → is met' x = true ∧ Closed L v met met')
/-- How many are not met. -/
def un (met : List Bool) : Nat := met.countP (!·)
theorem un_mono : ∀ {a b : List Bool}, Mono a b → un b ≤ un a
  | [], b, h => by
    have := h.1
    have e : b = [] := List.eq_nil_of_length_eq_zero this
    subst e; exact Nat.le_refl _
  | x :: a, [], h => by have := h.1; simp at this
  | x :: a, y :: b, h => by
    have hm : Mono a b := ⟨by have := h.1; simpa using this, fun i hi => by have := h.2 (i + 1); simpa [is, List.getD] using this (by simpa [is, List.getD] using hi)⟩
    have ih := un_mono hm
    have h0 : x = true → y = true := by have := h.2 0; simpa [is, List.getD] using this
    unfold un at ih ⊢
    rw [List.countP_cons, List.countP_cons]
    cases x <;> cases y <;> simp at h0 ⊢ <;> omega
theorem is_set {met : List Bool} {x : Nat} (hx : x < met.length) (i : Nat) : is (met.set x true) i = (decide (i = x) || is met i) := by
  unfold is
  simp only [List.getD]
  by_cases h : x = i
  · subst h; simp [hx]
  · rw [List.getElem?_set_ne h]
    have : ¬ i = x := fun e => h e.symm
    simp [this]
theorem mono_set {met : List Bool} {x : Nat} (hx : x < met.length) : Mono met (met.set x true) := ⟨by simp, fun i hi => by rw [is_set hx, hi]; simp⟩
theorem un_set : ∀ {met : List Bool} {x : Nat}, x < met.length → is met x = false → un (met.set x true) < un met
  | [], x, h, _ => by simp at h
  | y :: met, 0, h, hy => by
    have : y = false := by simpa [is, List.getD] using hy
    subst this
    simp only [List.set_cons_zero, un, List.countP_cons]
    simp
  | y :: met, x + 1, h, hy => by
    have ih := un_set (met := met) (x := x) (by simpa using h) (by simpa [is, List.getD] using hy)
    simp only [List.set_cons_succ, un, List.countP_cons] at ih ⊢
    omega
theorem un_pos {met : List Bool} {x : Nat} (hx : x < met.length) (h : is met x = false) : 0 < un met := Nat.lt_of_le_of_lt (Nat.zero_le _) (un_set hx h)
/-- While the ends of x's edges are looked at: those of the first k were not v, nor lead there. -/
def Scan (L : List (List Int)) (v : Nat) (met met' : List Bool) (l : List Int) (k : Nat) : Prop :=
  Mono met met' ∧ (∀ z : Nat, (z : Int) ∈ l.take k → is met' z = true) ∧ Closed L v met met'
theorem Scan.zero (L : List (List Int)) (v : Nat) (met : List Bool) (l : List Int) : Scan L v met met l 0 := ⟨Mono.refl _, fun z h => by simp at h, fun y h => .inl h⟩
theorem Closed.trans {L : List (List Int)} {v : Nat} {a b c : List Bool} (h : Closed L v a b) (k : Closed L v b c) (m : Mono b c) : Closed L v a c := fun y hy => by
  rcases k y hy with h1 | h1
  · rcases h y h1 with h2 | h2
    · exact .inl h2
    · exact .inr ⟨h2.1, fun z hz => m.2 z (h2.2 z hz)⟩
  · exact .inr h1
theorem Scan.met {L : List (List Int)} {v : Nat} {met met' : List Bool} {l : List Int} {k : Nat} (h : Scan L v met met' l k) (hk : k < l.length) {z : Nat} (hz : l[k] = (z : Int)) (hm : is met' z = true) : Scan L v met met' l (k + 1) := ⟨h.1, fun y hy => by
  rw [List.take_succ_eq_append_getElem hk, List.mem_append, List.mem_singleton] at hy
  rcases hy with hy | hy
  · exact h.2.1 y hy
  · rw [hz] at hy
    have : y = z := by omega
    rw [this]; exact hm, h.2.2⟩
theorem Scan.next {L : List (List Int)} {v : Nat} {met met' met2 : List Bool} {l : List Int} {k : Nat} (h : Scan L v met met' l k) (hk : k < l.length) {z : Nat} (hz : l[k] = (z : Int)) (hd : Dfs L v met' met2 z false) : Scan L v met met2 l (k + 1) := by
  obtain ⟨hm, -, hd⟩ := hd
  obtain ⟨h1, h2⟩ := hd rfl
  refine Scan.met ⟨h.1.trans hm, fun y hy => hm.2 y (h.2.1 y hy), h.2.2.trans h2 hm⟩ hk hz h1
theorem Scan.done {L : List (List Int)} {v : Nat} {met met' : List Bool} {x : Nat} (hx : x < met.length) (hne : x ≠ v) (h : Scan L v (met.set x true) met' (L.getD (2 * x) []) (L.getD (2 * x) []).length) : Dfs L v met met' x false := by
  refine ⟨(mono_set hx).trans h.1, fun e => by simp at e, fun _ => ⟨h.1.2 x (by rw [is_set hx]; simp), fun y hy => ?_⟩⟩
  rcases h.2.2 y hy with h1 | h1
  · rw [is_set hx] at h1
    by_cases e : y = x
    · subst e
      exact .inr ⟨hne, fun z hz => h.2.1 z (by rw [List.take_length]; exact hz)⟩
    · exact .inl (by simpa [e] using h1)
  · exact .inr h1
theorem Scan.hit {L : List (List Int)} {v : Nat} {met met' met2 : List Bool} {x k z : Nat} (hx : x < met.length) (h : Scan L v (met.set x true) met' (L.getD (2 * x) []) k) (hk : k < (L.getD (2 * x) []).length) (hz : (L.getD (2 * x) [])[k] = (z : Int)) (hd : Dfs L v met' met2 z true) : Dfs L v met met2 x true :=
  ⟨((mono_set hx).trans h.1).trans hd.1, fun _ => .step (by unfold E; rw [← hz]; exact List.getElem_mem hk) (hd.2.1 rfl), fun e => by simp at e⟩
theorem is_none (n i : Nat) : is (List.replicate n false) i = false := by
  unfold is
  simp only [List.getD]
  by_cases h : i < n
  · simp [h]
  · rw [List.getElem?_eq_none (by simpa using Nat.le_of_not_lt h)]; rfl
/-- A search from nothing met tells whether there is a path. -/
theorem Dfs.tells {L : List (List Int)} {v n : Nat} {met' : List Bool} {u : Nat} {b : Bool} (h : Dfs L v (List.replicate n false) met' u b) : b = true ↔ Path L u v := by
  refine ⟨h.2.1, fun hp => ?_⟩
  cases b
  · exfalso
    obtain ⟨h1, h2⟩ := h.2.2 rfl
    have all : ∀ {a c : Nat}, Path L a c → is met' a = true → is met' c = true ∧ c ≠ v := by
      intro a c hp
      induction hp with
      | refl a => exact fun ha => ⟨ha, ((h2 a ha).resolve_left (by rw [is_none]; simp)).1⟩
      | step he _ ih => exact fun ha => ih (((h2 _ ha).resolve_left (by rw [is_none]; simp)).2 _ he)
    exact (all hp h1).2 rfl
  · rfl
end Go.Proofs.Ytelplccbcbegkaa.Gr

namespace Go.Proofs.Ytelplccbcbegkaa.GrW
set_option linter.unusedVariables false
open Go Go.RowKit Go.Proofs Go.Proofs.Ytelplccbcbegkaa Go.Proofs.Ytelplccbcbegkaa.Wd
open Go.Proofs.Ytelplccbcbegkaa.Gr (E Path Inside is Closed Mono Dfs un Scan)

def bl (l : List Bool) : List Value := l.map (.bool ·)
theorem bl_at {l : List Bool} {i : Nat} (h : i < l.length) : (bl l).toArray[i]? = some (.bool (is l i)) := by
  simp [bl, is, List.getD, h]
theorem bl_set (l : List Bool) (i : Nat) : (bl l).toArray.setIfInBounds i (.bool true) = (bl (l.set i true)).toArray := by
  apply Array.ext'
  simp [bl, List.map_set]
def fromArgs (bg bv bm bf : Nat) (x : Nat) : Array Value := #[.int .i64 x, .pointer (some ⟨bv, 0, none⟩), .pointer (some ⟨bm, 0, none⟩), .pointer (some ⟨bg, 0, none⟩), .pointer (some ⟨bf, 0, none⟩)]
theorem IRow.at_ {w : World} {base n c : Nat} {A : Option Addr} {l : List Int} (h : IRow w base (.slice A n c) l) {i : Nat} (hi : i < l.length) : ∃ b off, A = some ⟨b, off, none⟩ ∧ b < w.heap.size ∧ w.cell? ⟨b, off + i, none⟩ = some (.int .i64 l[i]) := by
  rcases h with ⟨hv, rfl⟩ | ⟨g, off, cap, cur, hv, hg, hb, hn, hm, hc, ht⟩
  · simp at hi
  · cases hv
    refine ⟨g, off, rfl, hb.lt, ?_⟩
    rw [getD_at hb ht i hi]
    simp [List.getD, hi]
end Go.Proofs.Ytelplccbcbegkaa.GrW

namespace Go.Proofs.Ytelplccbcbegkaa.GrW
set_option linter.unusedVariables false
open Go Go.RowKit Go.Proofs Go.Proofs.Ytelplccbcbegkaa Go.Proofs.Ytelplccbcbegkaa.Wd
open Go.Proofs.Ytelplccbcbegkaa.Gr (E Path Inside is Closed Mono Dfs un Scan)

theorem lt_of_cell {w : World} {p : Addr} {v : Value} (h : w.cell? p = some v) : p.block < w.heap.size := by
  unfold World.cell? at h
  by_cases hg : p.block < w.heap.size
  · exact hg
  · rw [Array.getElem?_eq_none (Nat.le_of_not_lt hg)] at h; simp at h
theorem infoBool : (Try.prog.info? 4).map (fun i => (i.zero, i.size, i.bytes)) = some (some (.bool false), 1, 1) := by kernel_rfl
theorem made_bools (k : Nat) : madeCells #[Value.bool false] k = (bl (List.replicate k false)).toArray := by
  apply Array.ext
  · simp [madeCells, bl]
  · intro i h1 h2
    simp [madeCells, bl, Nat.mod_one]
theorem make_bools (n : Nat) (hn : n ≤ 30000) (W : World) : (Instr.makeSlice 112 (.int .i64 (n : Int)) (.int .i64 (n : Int))).run Try.prog W = .ok (.slice (some ⟨W.heap.size, 0, none⟩) n n) (W.alloc (.cells (bl (List.replicate n false)).toArray 4)) := by
  obtain ⟨j0, hj0, hy0, hy1, hy2⟩ := info_parts infoBool
  have h := run_make (P := Try.prog) W 112 4 j0 _ Try.underlying112 hj0 hy0 .i64 .i64 (n : Int) (n : Int) (by omega) (Int.le_refl _) (by rw [hy2]; omega) (by omega)
  rw [Int.toNat_natCast, hy1, Nat.mul_one] at h
  rw [h, ← made_bools]
  rfl
/-- Is a vertex reached from another one? -/
def reached (n : Nat) (L : List (List Int)) (x y : Int) : Prop := isV n x = true ∧ isV n y = true ∧ Path L x.toNat y.toNat
def ReachOut (w : World) (n : Nat) (L : List (List Int)) (x y : Int) (e : Ending) (w' : World) : Prop := ∃ b, e = .returned (.bool b) ∧ (b = true ↔ reached n L x y) ∧ Below w.heap.size w w'
end Go.Proofs.Ytelplccbcbegkaa.GrW

namespace Go.Proofs.Ytelplccbcbegkaa.GrW
set_option linter.unusedVariables false
open Go Go.RowKit Go.Proofs Go.Proofs.Ytelplccbcbegkaa Go.Proofs.Ytelplccbcbegkaa.Wd
end Go.Proofs.Ytelplccbcbegkaa.GrW

namespace Go.Proofs.Ytelplccbcbegkaa.Gr
set_option linter.unusedVariables false
open Go.Proofs.Ytelplccbcbegkaa.GrW (add rk Rises ins)

/-- The rows of a vertex. -/
def outs (L : List (List Int)) (v : Nat) : List Int := L.getD (2 * v) []
def intos (L : List (List Int)) (v : Nat) : List Int := L.getD (2 * v + 1) []
/-- What goes out comes in. -/
def Cons (n : Nat) (L : List (List Int)) : Prop := ∀ u v : Nat, u < n → v < n → ((v : Int) ∈ outs L u ↔ (u : Int) ∈ intos L v)
/-- A vertex that is not told, all that goes to it told. -/
def Free (n : Nat) (L : List (List Int)) (out : List Int) (v : Nat) : Prop := v < n ∧ (v : Int) ∉ out ∧ ∀ u ∈ intos L v, u ∈ out
inductive Topo (n : Nat) (L : List (List Int)) : List Int → Prop
  | nil : Topo n L []
  | snoc {out : List Int} {v : Nat} : Topo n L out → Free n L out v → (∀ u, Free n L out u → v ≤ u) → Topo n L (out ++ [(v : Int)])
/-- How many vertices are not told. -/
def unt (n : Nat) (out : List Int) : Nat := (List.range n).countP fun (v : Nat) => !out.contains (v : Int)
theorem countP_less {p q : Nat → Bool} {v : Nat} (hp : p v = true) (hq : ∀ x, q x = (p x && decide (x ≠ v))) : ∀ {n : Nat}, v < n → (List.range n).countP q + 1 = (List.range n).countP p
  | 0, h => by omega
  | n + 1, h => by
    rw [List.range_succ, List.countP_append, List.countP_append]
    by_cases e : v = n
    · subst e
      have h1 : (List.range v).countP q = (List.range v).countP p := by
        apply List.countP_congr
        intro x hx
        have : x ≠ v := by have := List.mem_range.1 hx; omega
        rw [hq x]; simp [this]
      rw [h1]
      simp [hq, hp]
    · have ih := countP_less (p := p) (q := q) hp hq (n := n) (by omega)
      have h1 : q n = p n := by rw [hq n]; simp [Ne.symm e]
      simp only [List.countP_cons, List.countP_nil, h1]
      omega
theorem unt_snoc {n : Nat} {out : List Int} {v : Nat} (hv : v < n) (h : (v : Int) ∉ out) : unt n (out ++ [(v : Int)]) + 1 = unt n out := by
  unfold unt
  refine countP_less (v := v) (by simpa using h) (fun x => ?_) hv
  rw [Bool.eq_iff_iff]
  simp only [Bool.not_eq_true', Bool.and_eq_true, decide_eq_true_eq]
  rw [← Bool.not_eq_true, ← Bool.not_eq_true, List.contains_iff_mem, List.contains_iff_mem, List.mem_append, List.mem_singleton]
  constructor
  · intro h; exact ⟨fun e => h (.inl e), fun e => h (.inr (by rw [e]))⟩
  · rintro ⟨h1, h2⟩ (h | h)
    · exact h1 h
    · exact h2 (by omega)
theorem Topo.length {n : Nat} {L : List (List Int)} {out : List Int} (h : Topo n L out) : out.length + unt n out = n := by
  induction h with
  | nil => simp [unt]
  | snoc _ hf _ ih =>
    have := unt_snoc hf.1 hf.2.1
    rw [List.length_append, List.length_singleton]
    omega
/-- All that goes to who is told was told ahead of it. -/
theorem Topo.preds {n : Nat} {L : List (List Int)} {out : List Int} (h : Topo n L out) : ∀ v : Nat, (v : Int) ∈ out → ∀ u ∈ intos L v, u ∈ out := by
  induction h with
  | nil => intro v hv; simp at hv
  | @snoc out v' _ hf _ ih =>
    intro v hv u hu
    rw [List.mem_append] at hv ⊢
    rcases hv with hv | hv
    · exact .inl (ih v hv u hu)
    · have : v = v' := by simp at hv; omega
      subst this
      exact .inl (hf.2.2 u hu)
theorem Topo.inside {n : Nat} {L : List (List Int)} {out : List Int} (h : Topo n L out) : ∀ x ∈ out, ∃ v : Nat, x = v ∧ v < n := by
  induction h with
  | nil => intro v hv; simp at hv
  | @snoc out v' _ hf _ ih =>
    intro x hx
    rw [List.mem_append, List.mem_singleton] at hx
    rcases hx with hx | hx
    · exact ih x hx
    · exact ⟨v', hx, hf.1⟩
/-- How many go to a vertex that are not told. -/
def lef (L : List (List Int)) (out : List Int) (v : Nat) : Nat := (intos L v).countP fun u => !out.contains u
theorem lef_nil (L : List (List Int)) (v : Nat) : lef L [] v = (intos L v).length := by
  unfold lef; simp
theorem lef_zero {L : List (List Int)} {out : List Int} {v : Nat} : lef L out v = 0 ↔ ∀ u ∈ intos L v, u ∈ out := by
  unfold lef
  rw [List.countP_eq_zero]
  simp
theorem countP_snoc {l out : List Int} {x : Int} (hx : x ∉ out) (hl : l.Pairwise (· < ·)) : l.countP (fun u => !(out ++ [x]).contains u) + (if x ∈ l then 1 else 0) = l.countP (fun u => !out.contains u) := by
  induction l with
  | nil => simp
  | cons y l ih =>
    rw [List.pairwise_cons] at hl
    have ih := ih hl.2
    simp only [List.countP_cons]
    by_cases e : x = y
    · subst e
      have hn : x ∉ l := fun h => by have := hl.1 x h; omega
      have h1 : (!(out ++ [x]).contains x) = false := by simp
      have h2 : (!out.contains x) = true := by simpa using hx
      rw [h1, h2]
      rw [if_neg hn] at ih
      simp
      simpa using ih
    · have h1 : (!(out ++ [x]).contains y) = (!out.contains y) := by
        rw [Bool.eq_iff_iff]; simp; intro h e2; exact e e2.symm
      rw [h1]
      have h2 : (x ∈ y :: l) = (x ∈ l) := by simp [e]
      simp only [h2]
      omega
theorem lef_snoc {n : Nat} {L : List (List Int)} {out : List Int} {v w : Nat} (hr : Rises L) (hc : Cons n L) (hv : v < n) (hw : w < n) (h : (v : Int) ∉ out) : lef L (out ++ [(v : Int)]) w + (if (w : Int) ∈ outs L v then 1 else 0) = lef L out w := by
  unfold lef
  have := countP_snoc (l := intos L w) h (hr.at_ (2 * w + 1)).1
  rw [← this]
  have e : ((w : Int) ∈ outs L v) = ((v : Int) ∈ intos L w) := propext (hc v w hv hw)
  simp only [e]
/-- Where the vertices that are free stand, and what is left, ahead of a round. -/
structure Sorts (n : Nat) (L : List (List Int)) (out free left : List Int) : Prop where
  topo : Topo n L out
  rises : free.Pairwise (· < ·)
  free : ∀ x, x ∈ free ↔ ∃ v : Nat, x = v ∧ Free n L out v
  left : left = (List.range n).map fun v => (lef L out v : Int)
/-- Within the round of v: the ends of v's first j edges are less. -/
structure Less (n : Nat) (L : List (List Int)) (out : List Int) (v : Nat) (rest free left : List Int) (j : Nat) : Prop where
  rises : free.Pairwise (· < ·)
  free : ∀ x, x ∈ free ↔ x ∈ rest ∨ (x ∈ (outs L v).take j ∧ left.getD x.toNat 0 = 0)
  left : left = (List.range n).map fun w => (lef L out w : Int) - (if (w : Int) ∈ (outs L v).take j then 1 else 0)
theorem left_at {n : Nat} {f : Nat → Int} {w : Nat} (hw : w < n) : ((List.range n).map f).getD w 0 = f w := by
  simp [List.getD, hw]
theorem Sorts.start {n : Nat} {L : List (List Int)} {out left : List Int} {x : Int} {rest : List Int} (h : Sorts n L out (x :: rest) left) : ∃ v : Nat, x = v ∧ Free n L out v ∧ (∀ u, Free n L out u → v ≤ u) ∧ Less n L out v rest rest left 0 := by
  obtain ⟨v, rfl, hf⟩ := (h.free x).1 (List.mem_cons_self ..)
  have hp := List.pairwise_cons.1 h.rises
  refine ⟨v, rfl, hf, fun u hu => ?_, hp.2, fun y => by simp, ?_⟩
  · have := (h.free u).2 ⟨u, rfl, hu⟩
    rw [List.mem_cons] at this
    rcases this with e | e
    · omega
    · have := hp.1 u e; omega
  · rw [h.left]; simp
theorem rising_add {l : List Int} (h : l.Pairwise (· < ·)) (x : Int) : (add l x).Pairwise (· < ·) := by
  unfold add
  split
  · exact h
  · rename_i hn
    have hn : x ∉ l := by simpa using hn
    induction l with
    | nil => simp [ins, rk]
    | cons y l ih =>
      have hp := List.pairwise_cons.1 h
      have ih := ih hp.2 (by simpa using fun e => hn (List.mem_cons_of_mem _ e)) (fun e => hn (List.mem_cons_of_mem _ e))
      by_cases hyx : y < x
      · have e : ins (y :: l) (rk (y :: l) x) x = y :: ins l (rk l x) x := by
          simp [ins, rk, hyx]
        rw [e, List.pairwise_cons]
        refine ⟨fun z hz => ?_, ih⟩
        unfold ins at hz
        rw [List.mem_append, List.mem_cons] at hz
        rcases hz with hz | hz | hz
        · exact hp.1 z (List.mem_of_mem_take hz)
        · omega
        · exact hp.1 z (List.mem_of_mem_drop hz)
      · have hxy : x < y := by have : x ≠ y := fun e => hn (by rw [e]; exact List.mem_cons_self ..); omega
        have e0 : rk (y :: l) x = 0 := by
          unfold rk
          rw [List.countP_eq_zero]
          intro z hz
          rw [List.mem_cons] at hz
          simp only [decide_eq_true_eq]
          rcases hz with hz | hz
          · omega
          · have := hp.1 z hz; omega
        rw [e0]
        unfold ins
        rw [List.take_zero, List.drop_zero, List.nil_append, List.pairwise_cons]
        refine ⟨fun z hz => ?_, h⟩
        rw [List.mem_cons] at hz
        rcases hz with hz | hz
        · omega
        · have := hp.1 z hz; omega
theorem mem_add {l : List Int} {x y : Int} : y ∈ add l x ↔ y = x ∨ y ∈ l := by
  unfold add
  split
  · rename_i h
    have h : x ∈ l := by simpa using h
    exact ⟨.inr, fun e => e.elim (fun e => by rw [e]; exact h) id⟩
  · unfold ins
    rw [List.mem_append, List.mem_cons]
    have := List.take_append_drop (rk l x) l
    constructor
    · rintro (h | h | h)
      · exact .inr (List.mem_of_mem_take h)
      · exact .inl h
      · exact .inr (List.mem_of_mem_drop h)
    · rintro (h | h)
      · exact .inr (.inl h)
      · rw [← this, List.mem_append] at h
        exact h.elim .inl (fun h => .inr (.inr h))
theorem take_snoc_mem {l : List Int} {j : Nat} (hj : j < l.length) {y : Int} : y ∈ l.take (j + 1) ↔ y ∈ l.take j ∨ y = l[j] := by
  rw [List.take_succ_eq_append_getElem hj, List.mem_append, List.mem_singleton]
theorem not_in_take {l : List Int} (h : l.Pairwise (· < ·)) {j : Nat} (hj : j < l.length) : l[j] ∉ l.take j := fun hm => by
  obtain ⟨i, hi, he⟩ := List.getElem_of_mem hm
  rw [List.getElem_take] at he
  have hi' : i < j := by rw [List.length_take] at hi; omega
  have := List.pairwise_iff_getElem.1 h i j (by omega) hj hi'
  omega
/-- What stands for w when one is taken. -/
theorem Less.left_now {n : Nat} {L : List (List Int)} {out : List Int} {v : Nat} {rest free left : List Int} {j : Nat} (hr : Rises L) (h : Less n L out v rest free left j) (hj : j < (outs L v).length) {w : Nat} (hw : (outs L v)[j] = (w : Int)) (hwn : w < n) : left.getD w 0 = (lef L out w : Int) := by
  rw [h.left, left_at hwn]
  have : (w : Int) ∉ (outs L v).take j := by rw [← hw]; exact not_in_take (hr.at_ (2 * v)).1 hj
  simp [this]
theorem Less.left_set {n : Nat} {L : List (List Int)} {out : List Int} {v : Nat} {rest free left : List Int} {j : Nat} (hr : Rises L) (h : Less n L out v rest free left j) (hj : j < (outs L v).length) {w : Nat} (hw : (outs L v)[j] = (w : Int)) (hwn : w < n) :
    left.set w ((lef L out w : Int) - 1) = (List.range n).map fun w => (lef L out w : Int) - (if (w : Int) ∈ (outs L v).take (j + 1) then 1 else 0) := by
  rw [h.left]
  apply List.ext_getElem
  · simp
  · intro i h1 h2
    have hi : i < n := by simpa using h2
    by_cases e : w = i
    · subst e
      have : (w : Int) ∈ (outs L v).take (j + 1) := (take_snoc_mem hj).2 (.inr hw.symm)
      simp [this]
    · rw [List.getElem_set_ne e]
      have e2 : ((i : Int) ∈ (outs L v).take (j + 1)) = ((i : Int) ∈ (outs L v).take j) := propext ⟨fun hm => ((take_snoc_mem hj).1 hm).resolve_right (fun e3 => by rw [hw] at e3; omega), fun hm => (take_snoc_mem hj).2 (.inl hm)⟩
      simp [e2]
theorem left_len {n : Nat} {f : Nat → Int} : ((List.range n).map f).length = n := by simp
theorem Less.next {n : Nat} {L : List (List Int)} {out : List Int} {v : Nat} {rest free left : List Int} {j : Nat} (hr : Rises L) (h : Less n L out v rest free left j) (hj : j < (outs L v).length) {w : Nat} (hw : (outs L v)[j] = (w : Int)) (hwn : w < n) (hp : ∀ x ∈ outs L v, 0 ≤ x) :
    Less n L out v rest (if (lef L out w : Int) - 1 = 0 then add free w else free) (left.set w ((lef L out w : Int) - 1)) (j + 1) := by
  have hlen : left.length = n := by rw [h.left]; simp
  refine ⟨by split; exact rising_add h.rises _; exact h.rises, fun x => ?_, h.left_set hr hj hw hwn⟩
  have hset : ∀ x : Int, 0 ≤ x → (left.set w ((lef L out w : Int) - 1)).getD x.toNat 0 = if x = w then (lef L out w : Int) - 1 else left.getD x.toNat 0 := fun x hx => by
    simp only [List.getD]
    by_cases e : x = w
    · subst e
      simp [hlen, hwn]
    · rw [List.getElem?_set_ne (by omega), if_neg e]
  have hfree : x ∈ (if (lef L out w : Int) - 1 = 0 then add free w else free) ↔ x ∈ free ∨ (x = w ∧ (lef L out w : Int) - 1 = 0) := by
    split
    · rename_i h1; rw [mem_add]; simp [h1]; exact Or.comm
    · rename_i h1; simp [h1]
  rw [hfree, h.free x, take_snoc_mem hj, hw]
  have hnot : (w : Int) ∉ (outs L v).take j := by rw [← hw]; exact not_in_take (hr.at_ (2 * v)).1 hj
  constructor
  · rintro ((h1 | ⟨h1, h2⟩) | ⟨h1, h2⟩)
    · exact .inl h1
    · have h0 := hp x (List.mem_of_mem_take h1)
      refine .inr ⟨.inl h1, ?_⟩
      rw [hset x h0, if_neg (fun e => hnot (by rw [← e]; exact h1))]; exact h2
    · refine .inr ⟨.inr h1, ?_⟩
      rw [hset x (by omega), if_pos h1]; exact h2
  · rintro (h1 | ⟨h1, h2⟩)
    · exact .inl (.inl h1)
    · have h0 : 0 ≤ x := h1.elim (fun e => hp x (List.mem_of_mem_take e)) (fun e => by omega)
      rw [hset x h0] at h2
      by_cases e : x = w
      · rw [if_pos e] at h2; exact .inr ⟨e, h2⟩
      · rw [if_neg e] at h2; exact .inl (.inr ⟨h1.resolve_right e, h2⟩)
theorem Less.done {n : Nat} {L : List (List Int)} {out : List Int} {v : Nat} {rest free left left0 : List Int} (hr : Rises L) (hc : Cons n L) (hi : Inside n L) (hs : Sorts n L out ((v : Int) :: rest) left0) (hf : Free n L out v) (hm : ∀ u, Free n L out u → v ≤ u) (h : Less n L out v rest free left (outs L v).length) :
    Sorts n L (out ++ [(v : Int)]) free left := by
  have hleft : left = (List.range n).map fun w => (lef L (out ++ [(v : Int)]) w : Int) := by
    rw [h.left]
    apply List.map_congr_left
    intro w hw
    have := lef_snoc hr hc hf.1 (List.mem_range.1 hw) hf.2.1
    rw [List.take_length]
    split <;> rename_i h1 <;> simp only [h1, if_true, if_false] at this <;> omega
  refine ⟨.snoc hs.topo hf hm, h.rises, fun x => ?_, hleft⟩
  have hvv : (v : Int) ∉ intos L v := fun e => hf.2.1 (hf.2.2 _ e)
  have hp := List.pairwise_cons.1 hs.rises
  rw [h.free x, List.take_length]
  constructor
  · rintro (h1 | ⟨h1, h2⟩)
    · obtain ⟨u, rfl, hu⟩ := (hs.free x).1 (List.mem_cons_of_mem _ h1)
      refine ⟨u, rfl, hu.1, fun e => ?_, fun y hy => List.mem_append_left _ (hu.2.2 y hy)⟩
      rw [List.mem_append, List.mem_singleton] at e
      have := hp.1 u h1
      exact e.elim hu.2.1 (fun e => by omega)
    · obtain ⟨h3, h4⟩ := hi.at_ (2 * v) h1
      obtain ⟨u, rfl⟩ : ∃ u : Nat, x = u := ⟨x.toNat, by omega⟩
      have hun : u < n := by omega
      rw [Int.toNat_natCast, hleft, left_at hun] at h2
      have hz := lef_zero.1 (show lef L (out ++ [(v : Int)]) u = 0 by omega)
      have hvu : (v : Int) ∈ intos L u := (hc v u hf.1 hun).1 h1
      refine ⟨u, rfl, hun, fun e => ?_, hz⟩
      rw [List.mem_append, List.mem_singleton] at e
      rcases e with e | e
      · exact hf.2.1 (hs.topo.preds u e v hvu)
      · have : u = v := by omega
        subst this
        exact hvv hvu
  · rintro ⟨u, rfl, hu⟩
    by_cases hvu : (v : Int) ∈ intos L u
    · refine .inr ⟨(hc v u hf.1 hu.1).2 hvu, ?_⟩
      rw [Int.toNat_natCast, hleft, left_at hu.1, lef_zero.2 hu.2.2]; rfl
    · have : (u : Int) ∈ (v : Int) :: rest := (hs.free u).2 ⟨u, rfl, hu.1, fun e => hu.2.1 (List.mem_append_left _ e), fun y hy => by
        have := hu.2.2 y hy
        rw [List.mem_append, List.mem_singleton] at this
        exact this.resolve_right (fun e => hvu (by rw [← e]; exact hy))⟩
      rw [List.mem_cons] at this
      exact .inl (this.resolve_left (fun e => hu.2.1 (by rw [e]; simp)))
/-- The first loop. -/
def fr0 (L : List (List Int)) (k : Nat) : List Int := ((List.range k).filter fun v => (intos L v).isEmpty).map (fun (v : Nat) => (v : Int))
def left0 (n : Nat) (L : List (List Int)) (k : Nat) : List Int := (List.range n).map fun v => if v < k then ((intos L v).length : Int) else 0
theorem fr0_succ (L : List (List Int)) (k : Nat) : fr0 L (k + 1) = if (intos L k).length = 0 then fr0 L k ++ [(k : Int)] else fr0 L k := by
  unfold fr0
  rw [List.range_succ, List.filter_append, List.map_append]
  split
  · rename_i h; rw [List.length_eq_zero_iff] at h; simp [h]
  · rename_i h
    have : intos L k ≠ [] := fun e => h (by rw [e]; rfl)
    simp [this]
theorem left0_succ {n : Nat} (L : List (List Int)) {k : Nat} (hk : k < n) : left0 n L (k + 1) = (left0 n L k).set k ((intos L k).length : Int) := by
  unfold left0
  apply List.ext_getElem
  · simp
  · intro i h1 h2
    by_cases e : k = i
    · subst e; simp
    · rw [List.getElem_set_ne e]
      have : (i < k + 1) = (i < k) := propext ⟨fun h => by omega, fun h => by omega⟩
      simp [this]
theorem fr0_length (L : List (List Int)) (k : Nat) : (fr0 L k).length ≤ k := by
  unfold fr0
  rw [List.length_map]
  exact Nat.le_trans (List.length_filter_le _ _) (by simp)
theorem Sorts.zero (n : Nat) (L : List (List Int)) : Sorts n L [] (fr0 L n) (left0 n L n) := by
  refine ⟨.nil, ?_, fun x => ?_, ?_⟩
  · unfold fr0
    rw [List.pairwise_map]
    exact (List.Pairwise.sublist List.filter_sublist List.pairwise_lt_range).imp (fun h => by omega)
  · unfold fr0
    simp only [List.mem_map, List.mem_filter, List.mem_range, List.isEmpty_iff]
    constructor
    · rintro ⟨v, ⟨h1, h2⟩, rfl⟩
      exact ⟨v, rfl, h1, by simp, by rw [h2]; simp⟩
    · rintro ⟨v, rfl, h1, -, h2⟩
      refine ⟨v, ⟨h1, ?_⟩, rfl⟩
      apply List.eq_nil_iff_forall_not_mem.2
      intro u hu
      simpa using h2 u hu
  · unfold left0
    apply List.map_congr_left
    intro v hv
    rw [if_pos (List.mem_range.1 hv), lef_nil]
theorem Sorts.len {n : Nat} {L : List (List Int)} {out free left : List Int} (h : Sorts n L out free left) : left.length = n := by rw [h.left]; simp
theorem Less.len {n : Nat} {L : List (List Int)} {out : List Int} {v : Nat} {rest free left : List Int} {j : Nat} (h : Less n L out v rest free left j) : left.length = n := by rw [h.left]; simp
theorem lef_le {L : List (List Int)} (hr : Rises L) (out : List Int) (v : Nat) : lef L out v ≤ 1000000 := Nat.le_trans List.countP_le_length (hr.at_ (2 * v + 1)).2
end Go.Proofs.Ytelplccbcbegkaa.Gr

namespace Go.Proofs.Ytelplccbcbegkaa.GrW
set_option linter.unusedVariables false
open Go Go.RowKit Go.Proofs Go.Proofs.Ytelplccbcbegkaa Go.Proofs.Ytelplccbcbegkaa.Wd
open Go.Proofs.Ytelplccbcbegkaa.Gr (Inside Cons Free Topo Sorts Less outs intos lef fr0 left0)

theorem infoInt0 : (Try.prog.info? 3).map (fun i => (i.zero, i.size, i.bytes)) = some (some (.int .i64 0), 1, 8) := by kernel_rfl
/-- A number more at the end of an own row. -/
theorem wp_push {W : World} {o : Oper} {a : Act} {K : Act → World → Prop} {Q : Exit → Act → World → Prop} (s x : Operand) (ho : o.op = .call { callee := .builtin .append, args := #[s, x], argTypes := #[27, 27] })
    (base : Nat) (ov : Value) (m : Nat) (out : List Int) (hm : m = out.length) (hs : a.eval s = ov) (hown : W.ownsRow base 3 1 ov m (iv out)) (b : Nat) (z : Int) (hx : a.eval x = .slice (some ⟨b, 0, none⟩) 1 1) (hb : Blk W b 3 #[.int .i64 z]) (hl : m ≤ 30000) (hbase : base ≤ W.heap.size)
    (h : ∀ v' w', w'.ownsRow base 3 1 v' (m + 1) (iv (out ++ [z])) → W.grownBy w' ov.ownBlock → (v'.ownBlock = ov.ownBlock ∨ v'.ownBlock = some W.heap.size) → K (a.put o.dst v') w') : o.wp Try.prog a W K Q := by
  obtain ⟨i0, hi0, hz0, hz1, hz2⟩ := info_parts infoInt0
  refine wp_append_row W s x 27 ho base 3 i0 _ 8 Try.underlying27 hi0 hz0 hz1 hz2 rfl ov m (iv out) hs hown (b + 1) (some ⟨b, 0, none⟩) 1 1 (iv [z]) hx (by rw [iv_length]; rfl) (Row.blk (cs := #[.int .i64 z]) hb (Nat.lt_succ_self b)) (iv_one _) (by unfold maxLen; omega) (by omega) hbase fun v' w' h2 h3 _ h5 => h v' w' (by rw [iv_append]; exact h2) h3 h5
theorem wpList_push {W : World} {ops : Array Oper} {rest : List Oper} {o : Oper} {a : Act} {Q : Exit → Act → World → Prop} (hgd : o.guard = none) (s x : Operand) (ho : o.op = .call { callee := .builtin .append, args := #[s, x], argTypes := #[27, 27] })
    (base : Nat) (ov : Value) (m : Nat) (out : List Int) (hm : m = out.length) (hs : a.eval s = ov) (hown : W.ownsRow base 3 1 ov m (iv out)) (b : Nat) (z : Int) (hx : a.eval x = .slice (some ⟨b, 0, none⟩) 1 1) (hb : Blk W b 3 #[.int .i64 z]) (hl : m ≤ 30000) (hbase : base ≤ W.heap.size)
    (h : ∀ v' w', w'.ownsRow base 3 1 v' (m + 1) (iv (out ++ [z])) → W.grownBy w' ov.ownBlock → (v'.ownBlock = ov.ownBlock ∨ v'.ownBlock = some W.heap.size) → wpList Try.prog ops Q rest (a.put o.dst v') w') : wpList Try.prog ops Q (o :: rest) a W :=
  wpList_plain hgd fun _ hK => wp_push s x ho base ov m out hm hs hown b z hx hb hl hbase fun v' w' h2 h3 h5 => hK _ _ (h v' w' h2 h3 h5)
theorem IRow.tail {w : World} {base b off N c : Nat} {x : Int} {rest : List Int} (hN : N = rest.length + 1) (h : IRow w base (.slice (some ⟨b, off, none⟩) N c) (x :: rest)) :
    IRow w base (.slice (if c = 1 then some ⟨b, off, none⟩ else some ⟨b, off + 1, none⟩) (N - 1) (c - 1)) rest ∧ N ≤ c ∧ (Value.slice (if c = 1 then some ⟨b, off, none⟩ else some ⟨b, off + 1, none⟩) (N - 1) (c - 1)).ownBlock = (Value.slice (some ⟨b, off, none⟩) N c).ownBlock := by
  subst hN
  rcases h with ⟨hv, h⟩ | ⟨g, off', cap, cur, hv, hg, hb, hn, hm, hc, ht⟩
  · simp at h
  · simp only [Value.slice.injEq, Option.some.injEq, Addr.mk.injEq, and_true] at hv
    obtain ⟨⟨rfl, rfl⟩, h1, rfl⟩ := hv
    rw [List.length_cons] at h1 hn ht
    by_cases hc1 : c = 1
    · rw [if_pos hc1]
      have hr : rest = [] := List.eq_nil_of_length_eq_zero (by omega)
      subst hr
      exact ⟨IRow.mk_ (by simp) hg hb (by simp) (by omega) (by omega) (by simp [iv]), by simpa using hn, rfl⟩
    · rw [if_neg hc1]
      refine ⟨IRow.mk_ (by omega) hg hb (by omega) (by omega) (by omega) ?_, by omega, rfl⟩
      rw [← List.drop_drop, Nat.add_sub_cancel]
      generalize cur.toList.drop off = D at ht
      cases D with
      | nil => simp [iv] at ht
      | cons y D =>
        simp only [List.take_succ_cons, iv, List.map_cons, List.cons.injEq] at ht
        exact ht.2
theorem make_ints (n : Nat) (hn : n ≤ 30000) (L : List (List Int)) (W : World) : (Instr.makeSlice 27 (.int .i64 (n : Int)) (.int .i64 (n : Int))).run Try.prog W = .ok (.slice (some ⟨W.heap.size, 0, none⟩) n n) (W.alloc (.cells (iv (left0 n L 0)).toArray 3)) := by
  obtain ⟨j0, hj0, hy0, hy1, hy2⟩ := info_parts infoInt0
  have h := run_make (P := Try.prog) W 27 3 j0 _ Try.underlying27 hj0 hy0 .i64 .i64 (n : Int) (n : Int) (by omega) (Int.le_refl _) (by rw [hy2]; omega) (by omega)
  rw [Int.toNat_natCast, hy1, Nat.mul_one] at h
  rw [h]
  have e : madeCells (Value.int .i64 0).cells n = (iv (left0 n L 0)).toArray := by
    show madeCells #[Value.int .i64 0] n = _
    apply Array.ext
    · simp [madeCells, left0, iv]
    · intro i h1 h2
      simp [madeCells, left0, iv, Nat.mod_one]
  rw [e]
theorem iv_set (l : List Int) (i : Nat) (x : Int) : (iv l).toArray.setIfInBounds i (.int .i64 x) = (iv (l.set i x)).toArray := by
  apply Array.ext'
  simp [iv, List.map_set]
theorem iv_at {l : List Int} {i : Nat} (h : i < l.length) : (iv l).toArray[i]? = some (.int .i64 (l.getD i 0)) := by
  simp [iv, List.getD, h]
theorem rising_len : ∀ {l : List Int} {a b : Int}, a ≤ b → l.Pairwise (· < ·) → (∀ x ∈ l, a ≤ x ∧ x < b) → (l.length : Int) ≤ b - a
  | [], a, b, hab, _, _ => by simp; omega
  | x :: l, a, b, hab, h, hx => by
    have hp := List.pairwise_cons.1 h
    have h0 := hx x (List.mem_cons_self ..)
    have ih := rising_len (a := x + 1) (b := b) (by omega) hp.2 (fun y hy => ⟨by have := hp.1 y hy; omega, (hx y (List.mem_cons_of_mem _ hy)).2⟩)
    rw [List.length_cons]
    omega
/-- While a graph is sorted: what is left in its block, the free ones in a row, the told ones in another. -/
structure SS (w W : World) (f o : Value) (free out left : List Int) : Prop where
  left : Blk W w.heap.size 3 (iv left).toArray
  free : IRow W (w.heap.size + 1) f free
  out : W.ownsRow (w.heap.size + 1) 3 1 o out.length (iv out)
  sep : ∀ g, f.ownBlock = some g → o.ownBlock ≠ some g
  low : Below w.heap.size w W
  size : w.heap.size + 1 ≤ W.heap.size
theorem IRow.owns {w : World} {base : Nat} {v : Value} {l : List Int} {g : Nat} (h : IRow w base v l) (hg : v.ownBlock = some g) : base ≤ g ∧ g < w.heap.size := by
  obtain ⟨h1, cs, h2⟩ := h.blk hg
  exact ⟨h1, h2.lt⟩
theorem SS.store {w W : World} {f o : Value} {free out left : List Int} (h : SS w W f o free out left) (k : Nat) (x : Int) : SS w (W.setCell ⟨w.heap.size, k, none⟩ (.int .i64 x)) f o free out (left.set k x) where
  left := by rw [← iv_set]; exact h.left.set_ k _
  free := h.free.keep fun g hg => heap_setCell_other W ⟨w.heap.size, k, none⟩ g _ (by have := (h.free.owns hg).1; show g ≠ w.heap.size; omega)
  out := own_far h.out (fun e => by have := (own_row h.out e).1; have : w.heap.size + 1 ≤ w.heap.size := this; omega) _
  sep := h.sep
  low := h.low.setCell (Nat.le_refl _) _
  size := by simpa using h.size
theorem SS.keepBlk {w W W2 : World} {f o : Value} {free out left : List Int} (h : SS w W f o free out left) {r : Option Nat} (hr : ∀ g, r = some g → w.heap.size + 1 ≤ g) (hg : W.grownBy W2 r) : Blk W2 w.heap.size 3 (iv left).toArray ∧ Below w.heap.size w W2 ∧ w.heap.size + 1 ≤ W2.heap.size :=
  ⟨h.left.grown hg (fun e => by have := hr _ e.symm; omega), h.low.grown hg (by have := h.size; omega) (fun j hj => by have := hr j hj; omega), Nat.le_trans h.size hg.size⟩
/-- One more is free: put in its row. -/
theorem SS.put {w W W2 : World} {f o f2 : Value} {free free2 out left : List Int} (h : SS w W f o free out left) (hi : IRow W2 (w.heap.size + 1) f2 free2) (hg : W.grownBy W2 f.ownBlock) (hf : f2.ownBlock = f.ownBlock ∨ ∃ g, f2.ownBlock = some g ∧ W.heap.size ≤ g) : SS w W2 f2 o free2 out left := by
  obtain ⟨h1, h2, h3⟩ := h.keepBlk (fun g e => (h.free.owns e).1) hg
  refine ⟨h1, hi, own_keep h.out (fun g e => ?_), fun g e e2 => ?_, h2, h3⟩
  · obtain ⟨_, cs, hb⟩ := own_row h.out e
    exact hg.block g hb.lt (fun e2 => h.sep g e2.symm e)
  · rcases hf with hf | ⟨g', hf, hlt⟩
    · exact h.sep g (by rw [← hf]; exact e) e2
    · rw [e] at hf
      cases hf
      obtain ⟨_, cs, hb⟩ := own_row h.out e2
      have := hb.lt
      omega
/-- One more is told. -/
theorem SS.push {w W W1 W2 : World} {f o f2 o2 : Value} {free free2 out left : List Int} {x : Int} (h : SS w W f o free out left) (ha : W.grownBy W1 none) (hf2 : IRow W (w.heap.size + 1) f2 free2) (hff : f2.ownBlock = f.ownBlock)
    (ho : W2.ownsRow (w.heap.size + 1) 3 1 o2 (out.length + 1) (iv (out ++ [x]))) (hg : W1.grownBy W2 o.ownBlock) (hv : o2.ownBlock = o.ownBlock ∨ o2.ownBlock = some W1.heap.size) : SS w W2 f2 o2 free2 (out ++ [x]) left := by
  have hg2 : W.grownBy W2 o.ownBlock := ⟨hg.os.trans ha.os, hg.tape.trans ha.tape, hg.output.trans ha.output, Nat.le_trans ha.size hg.size, fun k hk hne => (hg.block k (Nat.lt_of_lt_of_le hk ha.size) hne).trans (ha.block k hk (by simp))⟩
  obtain ⟨h1, h2, h3⟩ := h.keepBlk (fun g e => (own_row h.out e).1) hg2
  refine ⟨h1, hf2.keep fun g e => ?_, by rw [List.length_append]; exact ho, fun g e e2 => ?_, h2, h3⟩
  · exact hg2.block g (hf2.owns e).2 (fun e2 => h.sep g (by rw [← hff]; exact e) e2.symm)
  · rcases hv with hv | hv
    · exact h.sep g (by rw [← hff]; exact e) (by rw [← hv]; exact e2)
    · rw [e2] at hv
      cases hv
      have := (hf2.owns e).2
      have := ha.size
      omega
/-- What Sort answers. -/
def SortOut (w : World) (n : Nat) (L : List (List Int)) (e : Ending) (w' : World) : Prop :=
  ∃ out : List Int, Topo n L out ∧ (∀ v, ¬ Free n L out v) ∧ Below w.heap.size w w' ∧
    ((out.length = n ∧ ∃ v', e = .returned (.tuple #[v', .bool true]) ∧ w'.ownsRow w.heap.size 3 1 v' out.length (iv out)) ∨ (out.length < n ∧ e = .returned (.tuple #[.slice none 0 0, .bool false])))
theorem told_less {n : Nat} {L : List (List Int)} {out : List Int} {v : Nat} (h : Topo n L out) (hf : Free n L out v) : out.length < n := by
  have h1 := h.length
  have h2 := Gr.unt_snoc hf.1 hf.2.1
  omega
theorem sorts_many {n : Nat} {L : List (List Int)} {out free left : List Int} (h : Sorts n L out free left) : free.length ≤ n := by
  have := rising_len (a := 0) (b := n) (by omega) h.rises (fun x hx => by obtain ⟨v, rfl, hv⟩ := (h.free x).1 hx; have := hv.1; omega)
  omega
theorem less_many {n : Nat} {L : List (List Int)} {out : List Int} {v : Nat} {x : Int} {rest free left left0 : List Int} {j : Nat} (hin : Inside n L) (hs : Sorts n L out (x :: rest) left0) (h : Less n L out v rest free left j) : free.length ≤ n := by
  have := rising_len (a := 0) (b := n) (by omega) h.rises (fun x hx => by
    rcases (h.free x).1 hx with h1 | h1
    · obtain ⟨v, rfl, hv⟩ := (hs.free x).1 (List.mem_cons_of_mem _ h1); have := hv.1; omega
    · exact hin.at_ (2 * v) (List.mem_of_mem_take h1.1))
  omega
def lenV : Value → Nat
  | .slice _ n _ => n
  | _ => 0
set_option maxRecDepth 100000 in
set_option maxHeartbeats 4000000 in
theorem sort_any (w : World) (base g n : Nat) (F : Nat → Prop) (L : List (List Int)) (h : GAt w base F g n L) (hr : Rises L) (hin : Inside n L) (hco : Cons n L) (hn : n ≤ 30000) :
    Calls Try.prog 40 #[.pointer (some ⟨g, 0, none⟩)] w (SortOut w n L) := by
  obtain ⟨r, c, hH, hrow⟩ := h.row_at
  have HN := Lib.hid (none_any w g _ hH)
  have hmk := make_ints n hn L
  have HH := Lib.hid hH
  have HR := Lib.hid hr
  have HIN := Lib.hid hin
  have HCO := Lib.hid hco
  have HROW := Lib.hid hrow
  obtain ⟨i0, hi0, hz0, hz1, hz2⟩ := info_parts infoInt0
  have h1 := hH.2
  have h2 : (w.alloc (.cells (iv (left0 n L 0)).toArray 3)).cell? ⟨g, 1, none⟩ = some (.slice (some ⟨r, 0, none⟩) n c) := ((Below.refl w.heap.size w).alloc (Nat.le_refl _) _ |>.cell (p := ⟨g, 1, none⟩) (lt_of_cell hH.2)).trans hH.2
  have HS0 : Hid (SS w (w.alloc (.cells (iv (left0 n L 0)).toArray 3)) (.slice none 0 0) (.slice none 0 0) [] [] (left0 n L 0)) := Lib.hid ⟨Blk.new_ w _ _ rfl, .inl ⟨rfl, rfl⟩, own_nil _ _ _, fun g e => by simp [Value.ownBlock] at e, (Below.refl _ w).alloc (Nat.le_refl _) _, by simp⟩
  clear h hr hin hco hrow hH
  go_enter Try.func40, Try.ntmps40
  go_wp2_with fail
  refine Calls.mono HN.out ?_
  rintro e w' ⟨rfl, rfl⟩
  clear HN
  go_wp2_with fail
  clear h1 h2 hmk
  go_loopw [5, 24] (fun f i wr => ∃ k : Nat, k ≤ n ∧ i = .int .i64 k ∧ Hid (SS w wr f (.slice none 0 0) (fr0 L k) [] (left0 n L k) ∧ wr.ownsRow (w.heap.size + 1) 3 1 f (fr0 L k).length (iv (fr0 L k)))) (fun _ i _ => n - (intOf i).toNat)
  case atStart => exact ⟨0, Nat.zero_le _, rfl, Lib.hid ⟨HS0.out, own_nil _ _ _⟩⟩
  case round =>
    obtain ⟨k, hk, rfl, HS⟩ := hrel
    clear HS0
    by_cases hlt : k < n
    · obtain ⟨A, d, hc, hi⟩ := HROW.out (2 * k + 1) (by omega)
      have hlow := HS.out.1.low
      have hg1 : wr.cell? ⟨g, 1, none⟩ = some (.slice (some ⟨r, 0, none⟩) n c) := (hlow.cell (p := ⟨g, 1, none⟩) (lt_of_cell HH.out.2)).trans HH.out.2
      have hg2 : wr.cell? ⟨r, k * 2 + 1, none⟩ = some (.slice A (intos L k).length d) := by rw [Nat.mul_comm k 2]; exact (hlow.cell (p := ⟨r, 2 * k + 1, none⟩) (lt_of_cell hc)).trans hc
      have HL := Lib.hid (show (intos L k).length ≤ 1000000 from (HR.out.at_ (2 * k + 1)).2)
      have HNX := Lib.hid (Gr.left0_succ L hlt)
      have HFX := Lib.hid (Gr.fr0_succ L k)
      have hfl2 := Gr.fr0_length L k
      generalize hml : (intos L k).length = m at *
      have hm6 := HL.out
      have HST := Lib.hid (HS.out.1.store k (m : Int))
      rw [← HNX.out] at HST
      have hz : wr.frozen? ⟨w.heap.size, k, none⟩ = false := HS.out.1.left.frozen k
      have hcl : wr.cell? ⟨w.heap.size, k, none⟩ = some (.int .i64 ((left0 n L k).getD k 0)) := HS.out.1.left.at_ k (iv_at (by unfold left0; simp; omega))
      have hcs : (wr.setCell ⟨w.heap.size, k, none⟩ (.int .i64 (m : Int))).cell? ⟨w.heap.size, k, none⟩ = some (.int .i64 (m : Int)) := by
        have := HST.out.left.at_ k (iv_at (l := left0 n L (k + 1)) (i := k) (by unfold left0; simp; omega))
        rw [this, HNX.out]
        simp [List.getD, left0, hlt]
      have i1 : (0 : Int) ≤ (k : Int) := by omega
      have i2 : (k : Int) < (n : Int) := by omega
      have HFO := Lib.hid HS.out.2
      have HFK := Lib.hid (own_far HS.out.2 (p := ⟨w.heap.size, k, none⟩) (fun e => by have := (own_row HS.out.2 e).1; have : w.heap.size + 1 ≤ w.heap.size := this; omega) (.int .i64 (m : Int)))
      have hsz : w.heap.size + 1 ≤ wr.heap.size := HS.out.1.size
      generalize left0 n L k = lk0 at *
      clear hc hi HS hlow hml
      generalize hfk : fr0 L k = fk at *
      have hfl : fk.length ≤ 30000 := by omega
      by_cases hm0 : m = 0
      · have hf1 : fr0 L (k + 1) = fk ++ [(k : Int)] := by rw [HFX.out, if_pos hm0]
        have HF1 := Lib.hid hf1
        obtain rfl : 0 = m := hm0.symm
        have e0 : ((0 : Nat) : Int) = 0 := rfl
        rw [e0] at hcs HST HFK
        clear HFX hf1 hfk HNX HL hm0 e0 HFO hfl2
        have HNB := Lib.hid (Blk.new_ (wr.setCell ⟨w.heap.size, k, none⟩ (.int .i64 0)) 3 #[.int .i64 (k : Int)] (n := wr.heap.size) (by simp))
        generalize hmf : fk.length = mf at *
        have HMF := Lib.hid hmf.symm
        clear hmf
        go_wp2_with (at_builtin; refine wpList_push rfl (.tmp 44) (.tmp 46) rfl (w.heap.size + 1) _ mf fk HMF.out rfl (HFK.out.alloc (.cells #[.int .i64 (k : Int)] 3)) wr.heap.size (k : Int) rfl HNB.out (by omega) (by simp; omega) ?_)
        intro v2 w2 ho2 hgr hvb
        have R1 : Hid (SS w w2 v2 (.slice none 0 0) (fr0 L (k + 1)) [] (left0 n L (k + 1)) ∧ w2.ownsRow (w.heap.size + 1) 3 1 v2 (fr0 L (k + 1)).length (iv (fr0 L (k + 1)))) := Lib.hid (by
          rw [HF1.out]
          have ho3 : w2.ownsRow (w.heap.size + 1) 3 1 v2 (fk ++ [(k : Int)]).length (iv (fk ++ [(k : Int)])) := by rw [List.length_append, ← HMF.out]; exact ho2
          refine ⟨HST.out.put (IRow.of_own ho3) ((World.grownBy_alloc _ _ _).trans hgr) ?_, ho3⟩
          rcases hvb with hvb | hvb
          · exact .inl hvb
          · exact .inr ⟨_, hvb, by simp⟩)
        clear ho2 hgr hvb HST HFK HNB hcl hcs hz hg1 hg2
        go_wp2_with fail
        go_roundw
        case rel => exact ⟨k + 1, by omega, by go_num, R1⟩
        case measure => simp [intOf]; omega
      · have R1 : Hid (SS w (wr.setCell ⟨w.heap.size, k, none⟩ (.int .i64 (m : Int))) u5 (.slice none 0 0) (fr0 L (k + 1)) [] (left0 n L (k + 1)) ∧ (wr.setCell ⟨w.heap.size, k, none⟩ (.int .i64 (m : Int))).ownsRow (w.heap.size + 1) 3 1 u5 (fr0 L (k + 1)).length (iv (fr0 L (k + 1)))) := Lib.hid (by
          rw [HFX.out, if_neg hm0]
          exact ⟨HST.out, HFK.out⟩)
        have i5 : ((m : Int) == 0) = false := by rw [beq_eq_false_iff_ne]; omega
        clear HFX HNX HST HFK HL HFO hfk hfl2
        go_wp2_with fail
        go_roundw
        case rel => exact ⟨k + 1, by omega, by go_num, R1⟩
        case measure => simp [intOf]; omega
    · obtain rfl : k = n := by omega
      have HS2 : Hid (SS w wr u5 (.slice none 0 0) (fr0 L k) [] (left0 k L k) ∧ Sorts k L [] (fr0 L k) (left0 k L k)) := Lib.hid ⟨HS.out.1, Sorts.zero k L⟩
      have hlow := HS.out.1.low
      have hg1 : wr.cell? ⟨g, 1, none⟩ = some (.slice (some ⟨r, 0, none⟩) k c) := (hlow.cell (p := ⟨g, 1, none⟩) (lt_of_cell HH.out.2)).trans HH.out.2
      generalize fr0 L k = fr at *
      generalize left0 k L k = lf at *
      clear HS hlow hlt hk
      go_wp2_with fail
      clear hg1
      go_loopw [5, 6] (fun f o wr => ∃ (A : Option Addr) (m d : Nat) (free out left : List Int), o = .slice A m d ∧ m ≤ k ∧ Hid (m = out.length ∧ SS w wr f o free out left ∧ Sorts k L out free left)) (fun _ o _ => k - lenV o)
      case atStart => exact ⟨_, _, _, _, _, _, rfl, Nat.zero_le _, Lib.hid ⟨rfl, HS2.out⟩⟩
      case round =>
        obtain ⟨Ao, mo, co, free, out, left, rfl, hmo, HQ⟩ := hrel
        clear HS2
        obtain ⟨hmo2, hSS, hSo⟩ := HQ.out
        obtain ⟨Af, cf, hf⟩ := hSS.free.lies
        subst hf
        have hlow := hSS.low
        have hg1 : wr.cell? ⟨g, 1, none⟩ = some (.slice (some ⟨r, 0, none⟩) k c) := (hlow.cell (p := ⟨g, 1, none⟩) (lt_of_cell HH.out.2)).trans HH.out.2
        cases free with
        | nil =>
          rw [List.length_nil] at *
          have HNF : Hid (∀ v, ¬ Free k L out v) := Lib.hid (fun v hv => by have := (hSo.free v).2 ⟨v, rfl, hv⟩; simp at this)
          have HTO := Lib.hid hSo.topo
          have HOW := Lib.hid hSS.out
          have HLW := Lib.hid hlow
          have HMO := Lib.hid hmo2
          clear HQ hmo2 hSS hSo hlow
          by_cases hle : mo < k
          · have HF : Hid (SortOut w k L (.returned (.tuple #[.slice none 0 0, .bool false])) wr) := Lib.hid ⟨out, HTO.out, HNF.out, HLW.out, .inr ⟨by have := HMO.out; omega, rfl⟩⟩
            have i1 : (mo : Int) < (k : Int) := by omega
            clear HNF HTO HOW HLW HMO
            go_wp2_with fail
            go_ret2
            exact HF.out
          · have HF : Hid (SortOut w k L (.returned (.tuple #[.slice Ao mo co, .bool true])) wr) := Lib.hid ⟨out, HTO.out, HNF.out, HLW.out, .inl ⟨by have := HMO.out; omega, _, rfl, by
              have h := own_base HOW.out (Nat.le_succ w.heap.size)
              exact h⟩⟩
            have i1 : ¬ (mo : Int) < (k : Int) := by omega
            clear HNF HTO HOW HLW HMO
            go_wp2_with fail
            go_ret2
            exact HF.out
        | cons x rest =>
          obtain ⟨v, rfl, hfv, hmin, hless⟩ := hSo.start
          have HSO := Lib.hid hSo
          have HFV := Lib.hid hfv
          have HMIN := Lib.hid hmin
          have HLESS := Lib.hid hless
          have hmk2 : mo < k := by rw [hmo2]; exact told_less hSo.topo hfv
          have hmf3 : ((v : Int) :: rest).length ≤ k := sorts_many hSo
          obtain ⟨b, off, rfl, hbl, hcx⟩ := hSS.free.at_ (i := 0) (by simp)
          have hcx : wr.cell? ⟨b, off, none⟩ = some (.int .i64 (v : Int)) := hcx
          have HTL := Lib.hid (IRow.tail (N := ((v : Int) :: rest).length) rfl hSS.free)
          have hcf : ((v : Int) :: rest).length ≤ cf := HTL.out.2.1
          have hmf1 : 1 ≤ ((v : Int) :: rest).length := by simp
          have HS := Lib.hid hSS
          have HMO := Lib.hid hmo2
          have HNB := Lib.hid (Blk.new_ wr.drew 3 #[.int .i64 (v : Int)] (n := wr.heap.size) rfl)
          have HOUT := Lib.hid hSS.out
          have hsz : w.heap.size + 1 ≤ wr.heap.size := hSS.size
          have hvk : v < k := hfv.1
          rw [← hmo2] at HOUT
          generalize hmf : ((v : Int) :: rest).length = mf at *
          have HMF := Lib.hid hmf.symm
          have i1 : (0 : Int) < (mf : Int) := by omega
          have i2 : (1 : Int) ≤ (mf : Int) := by omega
          have i3 : (mf : Int) ≤ (cf : Int) := by omega
          have i4 : (0 : Int) ≤ (v : Int) := by omega
          have i5 : (v : Int) < (k : Int) := by omega
          clear HQ hmo2 hSS hSo hlow hless hmin hfv hmf
          go_wp2_with fail
          refine wp_region_heldG [] (fun _ W => True) (by kernel_rfl) ?_
          change wpAnyG _ _ _ _ _ _ 8 _ _ wr.drew
          refine g_take (i := 0) rfl rfl (by kernel_rfl) (by kernel_rfl) (by kernel_rfl) (by kernel_rfl) (by kernel_rfl) (fun _ _ _ h => h) trivial (fun L W hL hW => by go_simp; rfl) ?_
          refine g_take (i := 1) rfl rfl (by kernel_rfl) (by kernel_rfl) (by kernel_rfl) (by kernel_rfl) (by kernel_rfl) (fun _ _ _ h => h) trivial (fun L W hL hW => by go_simp; rfl) ?_
          refine g_take (i := 2) rfl rfl (by kernel_rfl) (by kernel_rfl) (by kernel_rfl) (by kernel_rfl) (by kernel_rfl) (fun _ _ _ h => h) trivial (fun L W hL hW => by go_simp; rfl) ?_
          refine g_take (i := 3) rfl rfl (by kernel_rfl) (by kernel_rfl) (by kernel_rfl) (by kernel_rfl) (by kernel_rfl) (fun _ _ _ h => h) trivial (fun L W hL hW => by go_simp; rfl) ?_
          generalize (if cf = 1 then some (⟨b, off, none⟩ : Addr) else some ⟨b, off + 1, none⟩) = A3 at *
          refine g_one (i := 4) rfl rfl (by kernel_rfl) fun K hK => ?_
          go_simp
          refine hK _ _ trivial ?_
          clear hK K
          refine g_one (i := 5) rfl rfl (by kernel_rfl) fun K hK => ?_
          refine wp_push (.tmp 57) (.tmp 59) rfl (w.heap.size + 1) _ mo out HMO.out rfl (HOUT.out.drew.alloc (.cells #[.int .i64 (v : Int)] 3)) wr.heap.size (v : Int) rfl HNB.out (by omega) (by simp; omega) ?_
          intro v2 w2 ho2 hgr hvb
          obtain ⟨A2, c2, hv2⟩ := own_form ho2
          subst hv2
          have HS2 : Hid (SS w w2 (.slice A3 (mf - 1) (cf - 1)) (.slice A2 (mo + 1) c2) rest (out ++ [(v : Int)]) left) := Lib.hid (by
            refine HS.out.push (W1 := wr.drew.alloc (.cells #[.int .i64 (v : Int)] 3)) ⟨rfl, rfl, rfl, by simp, fun j hj _ => Below.heap_alloc _ _ j hj⟩ HTL.out.1 HTL.out.2.2 ?_ hgr hvb
            rw [← HMO.out]
            exact ho2)
          clear ho2 hgr hvb HS HTL HOUT HNB hcx
          refine hK _ _ trivial ?_
          clear hK K
          refine g_take (i := 6) rfl rfl (by kernel_rfl) (by kernel_rfl) (by kernel_rfl) (by kernel_rfl) (by kernel_rfl) (fun _ _ _ h => h) trivial (fun L W hL hW => by go_simp; rfl) ?_
          refine g_take (i := 7) rfl rfl (by kernel_rfl) (by kernel_rfl) (by kernel_rfl) (by kernel_rfl) (by kernel_rfl) (fun _ _ _ h => h) trivial (fun L W hL hW => by go_simp; rfl) ?_
          refine wpAnyG_done (by kernel_rfl) ?_ _
          go_simp
          have hlow := HS2.out.low
          obtain ⟨Ar, dr, hcr, hir⟩ := HROW.out (2 * v) (by omega)
          have hg1 : w2.cell? ⟨g, 1, none⟩ = some (.slice (some ⟨r, 0, none⟩) k c) := (hlow.cell (p := ⟨g, 1, none⟩) (lt_of_cell HH.out.2)).trans HH.out.2
          have hg2 : w2.cell? ⟨r, v * 2, none⟩ = some (.slice Ar (outs L v).length dr) := by rw [Nat.mul_comm v 2]; exact (hlow.cell (p := ⟨r, 2 * v, none⟩) (lt_of_cell hcr)).trans hcr
          have hir : IRow w base (.slice Ar (outs L v).length dr) (outs L v) := hir
          have HIR := Lib.hid hir
          have hm6 : (outs L v).length ≤ 1000000 := (HR.out.at_ (2 * v)).2
          clear hcr hir hlow
          generalize hml : (outs L v).length = m at *
          have HML := Lib.hid hml.symm
          clear hml
          go_wp2_with fail
          clear hg1 hg2
          go_loopw [5, 70] (fun f i wr => ∃ (j : Nat) (free left : List Int), j ≤ m ∧ i = .int .i64 j ∧ Hid (SS w wr f (.slice A2 (mo + 1) c2) free (out ++ [(v : Int)]) left ∧ Less k L out v rest free left j)) (fun _ i _ => m - (intOf i).toNat)
          case atStart => exact ⟨0, _, _, Nat.zero_le _, rfl, Lib.hid ⟨HS2.out, HLESS.out⟩⟩
          case round =>
            obtain ⟨j, free, left, hj, rfl, HQ⟩ := hrel
            clear HS2 HLESS
            by_cases hlt2 : j < m
            · have hjl : j < (outs L v).length := by have := HML.out; omega
              obtain ⟨b2, off2, rfl, hbl2, hc0⟩ := HIR.out.at_ hjl
              have hin2 := HIN.out.at_ (2 * v) (List.getElem_mem hjl)
              obtain ⟨u, hu⟩ : ∃ u : Nat, (outs L v)[j] = (u : Int) := ⟨_, (Int.toNat_of_nonneg hin2.1).symm⟩
              have huk : u < k := by have h2 : (outs L v)[j] < (k : Int) := hin2.2; rw [hu] at h2; omega
              have hce : wr.cell? ⟨b2, off2 + j, none⟩ = some (.int .i64 (u : Int)) := by rw [← hu]; exact (HQ.out.1.low.cell (p := ⟨b2, off2 + j, none⟩) hbl2).trans hc0
              have hnow := HQ.out.2.left_now HR.out hjl hu huk
              have hnx := HQ.out.2.next HR.out hjl hu huk (fun x hx => (HIN.out.at_ (2 * v) hx).1)
              have hq6 := Gr.lef_le HR.out out u
              have hmany := less_many HIN.out HSO.out HQ.out.2
              have hclu : wr.cell? ⟨w.heap.size, u, none⟩ = some (.int .i64 (left.getD u 0)) := HQ.out.1.left.at_ u (iv_at (by rw [HQ.out.2.len]; exact huk))
              rw [hnow] at hclu
              have hlen := HQ.out.2.len
              generalize lef L out u = q at *
              have HNX := Lib.hid hnx
              have HST := Lib.hid (HQ.out.1.store u ((q : Int) - 1))
              have hcs : (wr.setCell ⟨w.heap.size, u, none⟩ (.int .i64 ((q : Int) - 1))).cell? ⟨w.heap.size, u, none⟩ = some (.int .i64 ((q : Int) - 1)) := by
                have := HST.out.left.at_ u (iv_at (l := left.set u ((q : Int) - 1)) (i := u) (by rw [List.length_set, hlen]; exact huk))
                rw [this]
                simp [List.getD, hlen, huk]
              have hz : wr.frozen? ⟨w.heap.size, u, none⟩ = false := HQ.out.1.left.frozen u
              have j1 : (0 : Int) ≤ (j : Int) := by omega
              have j2 : (j : Int) < (m : Int) := by omega
              have j3 : (0 : Int) ≤ (u : Int) := by omega
              have j4 : (u : Int) < (k : Int) := by omega
              have HRI := Lib.hid HQ.out.2.rises
              have hszr := HQ.out.1.size
              by_cases hq0 : (q : Int) - 1 = 0
              · have HP := Lib.hid (put_any (wr.setCell ⟨w.heap.size, u, none⟩ (.int .i64 ((q : Int) - 1))) (w.heap.size + 1) (by simpa using hszr) _ _ HST.out.free (by omega) HRI.out (u : Int))
                rw [if_pos hq0] at HNX
                have hq1 : q = 1 := by omega
                clear hq0 hnx hnow hc0 hin2 hlen HRI hmany HQ hbl2
                subst hq1
                clear hu
                go_wp2_with fail
                refine Calls.mono HP.out ?_
                rintro e w4 ⟨v4, rfl, p1, p2, p3⟩
                have HQ2 : Hid (SS w w4 v4 (.slice A2 (mo + 1) c2) (add free (u : Int)) (out ++ [(v : Int)]) (left.set u (((1 : Nat) : Int) - 1)) ∧ Less k L out v rest (add free (u : Int)) (left.set u (((1 : Nat) : Int) - 1)) (j + 1)) := Lib.hid ⟨HST.out.put p1 p2 p3, HNX.out⟩
                clear p1 p2 p3 HP HST HNX hcs hclu hz hce
                go_wp2_with fail
                go_roundw
                case rel => exact ⟨j + 1, _, _, by omega, by go_num, HQ2⟩
                case measure => simp [intOf]; omega
              · have i9 : ((q : Int) - 1 == 0) = false := by rw [beq_eq_false_iff_ne]; exact hq0
                rw [if_neg hq0] at HNX
                have HQ2 : Hid (SS w (wr.setCell ⟨w.heap.size, u, none⟩ (.int .i64 ((q : Int) - 1))) u5 (.slice A2 (mo + 1) c2) free (out ++ [(v : Int)]) (left.set u ((q : Int) - 1)) ∧ Less k L out v rest free (left.set u ((q : Int) - 1)) (j + 1)) := Lib.hid ⟨HST.out, HNX.out⟩
                clear hq0 hnx hnow hc0 hin2 hlen HRI hmany HQ hbl2 HST HNX
                clear hu
                go_wp2_with fail
                go_roundw
                case rel => exact ⟨j + 1, _, _, by omega, by go_num, HQ2⟩
                case measure => simp [intOf]; omega
            · have HQ3 : Hid (mo + 1 = (out ++ [(v : Int)]).length ∧ SS w wr u5 (.slice A2 (mo + 1) c2) free (out ++ [(v : Int)]) left ∧ Sorts k L (out ++ [(v : Int)]) free left) := Lib.hid (by
                have e : j = (outs L v).length := by have := HML.out; omega
                refine ⟨by rw [List.length_append, HMO.out]; rfl, HQ.out.1, ?_⟩
                have h := HQ.out.2
                rw [e] at h
                exact h.done HR.out HCO.out HIN.out HSO.out HFV.out HMIN.out)
              clear HQ
              go_wp2_with fail
              go_roundw
              case rel => exact ⟨_, _, _, _, _, _, rfl, by omega, HQ3⟩
              case measure => simp [lenV]; omega
end Go.Proofs.Ytelplccbcbegkaa.GrW
