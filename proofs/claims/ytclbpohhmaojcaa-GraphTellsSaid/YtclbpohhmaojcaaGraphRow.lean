/-
  Rows of numbers: searched, one more, one less; the shelf's contracts in the words of own rows.
-/
import Derived.Test.YtclbpohhmaojcaaGraphLay
import Derived.Test.YtclbpohhmaojcaaWordsMore
import Derived.Test.YtclbpohhmaojcaaWordsHeld
import Derived.Lib.AppendZerosOnto
import Derived.Lib.LazyBuf
namespace Go.Proofs.Ytclbpohhmaojcaa.GrW
set_option linter.unusedVariables false
open Go Go.RowKit Go.Proofs Go.Proofs.Ytclbpohhmaojcaa Go.Proofs.Ytclbpohhmaojcaa.Wd

/-- A row of numbers of the call's own: all of a block from a place on. -/
def IRow (w : World) (base : Nat) (v : Value) (l : List Int) : Prop :=
  (v = .slice none 0 0 ∧ l = []) ∨ ∃ g off cap cur, v = .slice (some ⟨g, off, none⟩) l.length cap ∧ base ≤ g ∧ Blk w g 3 cur ∧ l.length ≤ cap ∧ off + cap ≤ maxLen ∧ off + cap ≤ cur.size ∧ (cur.toList.drop off).take l.length = iv l
theorem IRow.of_own {w : World} {base : Nat} {v : Value} {l : List Int} (h : w.ownsRow base 3 1 v l.length (iv l)) : IRow w base v l := by
  rcases h.2 with ⟨h1, h2⟩ | ⟨g, cap, cur, hv, hg, hh, h1, h2, h3, h4⟩
  · exact .inl ⟨h1, List.eq_nil_of_length_eq_zero (by omega)⟩
  · exact .inr ⟨g, 0, cap, cur, hv, hg, hh, h1, by omega, by omega, by rw [Nat.mul_one] at h4; exact h4⟩
theorem IRow.mk_ {w : World} {base g off cap : Nat} {cur : Array Value} {l : List Int} {N : Nat} (hN : l.length = N) (hg : base ≤ g) (hb : Blk w g 3 cur) (hn : N ≤ cap) (hm : off + cap ≤ maxLen) (hc : off + cap ≤ cur.size) (ht : (cur.toList.drop off).take N = iv l) : IRow w base (.slice (some ⟨g, off, none⟩) N cap) l := by
  subst hN
  exact .inr ⟨g, off, cap, cur, rfl, hg, hb, hn, hm, hc, ht⟩
theorem IRow.lies {w : World} {base : Nat} {v : Value} {l : List Int} (h : IRow w base v l) : ∃ A c, v = .slice A l.length c := by
  rcases h with ⟨rfl, rfl⟩ | ⟨g, off, cap, cur, rfl, _⟩
  · exact ⟨_, _, rfl⟩
  · exact ⟨_, _, rfl⟩
theorem IRow.blk {w : World} {base : Nat} {v : Value} {l : List Int} (h : IRow w base v l) {g : Nat} (hg : v.ownBlock = some g) : base ≤ g ∧ ∃ cs, Blk w g 3 cs := by
  rcases h with ⟨rfl, rfl⟩ | ⟨g', off, cap, cur, rfl, h1, h2, _⟩
  · simp [Value.ownBlock] at hg
  · have : g' = g := by simpa [Value.ownBlock] using hg
    subst this
    exact ⟨h1, cur, h2⟩
theorem IRow.keep {w w' : World} {base : Nat} {v : Value} {l : List Int} (h : IRow w base v l) (hk : ∀ g, v.ownBlock = some g → w'.heap[g]? = w.heap[g]?) : IRow w' base v l := by
  rcases h with h | ⟨g, off, cap, cur, rfl, h1, h2, h3⟩
  · exact .inl h
  · exact .inr ⟨g, off, cap, cur, rfl, h1, (hk g rfl).trans h2, h3⟩
theorem IRow.below {w w' : World} {base : Nat} {v : Value} {l : List Int} (h : IRow w base v l) (hb : Below w.heap.size w w') : IRow w' base v l :=
  h.keep fun g hg => by obtain ⟨_, cs, hc⟩ := h.blk hg; exact hb.block g hc.lt
theorem IRow.more {w : World} {base base' : Nat} {v : Value} {l : List Int} (h : IRow w base v l) (hb : base' ≤ base) : IRow w base' v l := by
  rcases h with h | ⟨g, off, cap, cur, rfl, h1, h3⟩
  · exact .inl h
  · exact .inr ⟨g, off, cap, cur, rfl, by omega, h3⟩
theorem grown_setCells (r : Nat) : ∀ (vs : List Value) (o : Nat) {w w' : World} {row : Option Nat}, w.grownBy w' row → (row = some r ∨ w.heap.size ≤ r) → w.grownBy (w'.setCells r o vs) row
  | [], o, w, w', row, h, _ => h
  | v :: vs, o, w, w', row, h, hr => by
    refine grown_setCells r vs (o + 1) (w' := w'.setCell ⟨r, o, none⟩ v) ⟨h.os, h.tape, h.output, by simpa using h.size, fun k hk hne => (heap_setCell_other w' ⟨r, o, none⟩ k v (fun e => ?_)).trans (h.block k hk hne)⟩ hr
    have e' : k = r := e
    rcases hr with hr | hr
    · exact hne (by rw [hr, e'])
    · omega
theorem Blk.setCells {r : Nat} {t : TypeId} : ∀ (vs : List Value) (o : Nat) {w : World} {cur : Array Value}, Blk w r t cur → o + vs.length ≤ cur.size →
    ∃ cur', Blk (w.setCells r o vs) r t cur' ∧ cur'.size = cur.size ∧ cur'.toList = cur.toList.take o ++ vs ++ cur.toList.drop (o + vs.length)
  | [], o, w, cur, h, _ => ⟨cur, h, rfl, by simp⟩
  | v :: vs, o, w, cur, h, hl => by
    rw [List.length_cons] at hl
    obtain ⟨cur', h1, h2, h3⟩ := Blk.setCells vs (o + 1) (h.set_ o v) (by rw [Array.size_setIfInBounds]; omega)
    refine ⟨cur', h1, by rw [h2, Array.size_setIfInBounds], ?_⟩
    rw [h3, Array.toList_setIfInBounds, List.take_set, List.drop_set_of_lt (by omega), List.take_succ_eq_append_getElem (by simpa using (by omega : o < cur.size)), List.set_append_right _ _ (by simp; omega)]
    have e : min o cur.toList.length = o := by simp; omega
    simp only [List.length_take, e, Nat.sub_self, List.set_cons_zero, List.append_assoc, List.cons_append, List.nil_append, List.length_cons]
    rw [show o + 1 + vs.length = o + (vs.length + 1) by omega]
theorem grown_ahead {w w' : World} {row : Option Nat} (h : w.drew.grownBy w' row) : w.grownBy w' row := ⟨h.os, h.tape, h.output, h.size, h.block⟩
theorem grown_drew {w w' : World} {row : Option Nat} (h : w.grownBy w' row) : w.grownBy w'.drew row := ⟨h.os, h.tape, h.output, h.size, h.block⟩
/-- A number more, at a place. -/
def ins (l : List Int) (i : Nat) (x : Int) : List Int := l.take i ++ x :: l.drop i
theorem ins_length {l : List Int} {i : Nat} (x : Int) (h : i ≤ l.length) : (ins l i x).length = l.length + 1 := by
  unfold ins; simp; omega
theorem iv_ins (l : List Int) (i : Nat) (x : Int) : iv (ins l i x) = (iv l).take i ++ .int .i64 x :: (iv l).drop i := by
  unfold ins iv; simp
/-- What is behind both copies: what was ahead of the place, the number, what was behind. -/
theorem shifted (C : List Value) (L : List Value) (i : Nat) (x : Value) (hp : C.take i = L.take i) (hi : i ≤ L.length) (hC : L.length + 1 ≤ C.length) (C1 C2 : List Value)
    (h1 : C1 = C.take (i + 1) ++ L.drop i ++ C.drop (i + 1 + (L.drop i).length)) (h2 : C2 = C1.take i ++ [x] ++ C1.drop (i + [x].length)) : C2.take (L.length + 1) = L.take i ++ x :: L.drop i := by
  have e1 : C1.take i = L.take i := by
    rw [h1, List.append_assoc, List.take_append_of_le_length (by simp; omega), List.take_take, Nat.min_eq_left (by omega), hp]
  have e2 : C1.drop (i + 1) = L.drop i ++ C.drop (i + 1 + (L.drop i).length) := by
    rw [h1, List.append_assoc]
    exact List.drop_left' (by simp; omega)
  rw [h2, List.length_singleton, e1, e2, List.append_assoc, List.singleton_append, ← List.cons_append, ← List.append_assoc]
  rw [List.take_append_of_le_length (by simp; omega), List.take_of_length_le (by simp; omega)]
/-- The other way about: first the number, then what was behind. -/
theorem shifted2 (C : List Value) (L : List Value) (i : Nat) (x : Value) (hp : C.take i = L.take i) (hi : i ≤ L.length) (hC : L.length + 1 ≤ C.length) (C1 C2 : List Value)
    (h1 : C1 = C.take i ++ [x] ++ C.drop (i + [x].length)) (h2 : C2 = C1.take (i + 1) ++ L.drop i ++ C1.drop (i + 1 + (L.drop i).length)) : C2.take (L.length + 1) = L.take i ++ x :: L.drop i := by
  have e1 : C1.take (i + 1) = L.take i ++ [x] := by
    rw [h1, List.take_left' (by simp; omega), hp]
  rw [h2, e1, List.take_append_of_le_length (by simp; omega), List.take_of_length_le (by simp; omega)]
  simp
theorem shape_of {w : World} {g : Nat} {t : TypeId} {cs : Array Value} (h : Blk w g t cs) : w.shape? g = some (t, cs.size) := by
  unfold World.shape?; rw [h.out]
theorem cells_at {w : World} {g off : Nat} {cur : Array Value} {L : List Value} (h : Blk w g 3 cur) (ht : (cur.toList.drop off).take L.length = L) (j : Nat) (v : Value) (hv : L[j]? = some v) : w.cell? ⟨g, off + j, none⟩ = some v := by
  refine (h.cell (off + j)).trans ?_
  have hj := (List.getElem?_eq_some_iff.1 hv).1
  rw [← ht, List.getElem?_take_of_lt hj, List.getElem?_drop] at hv
  simpa using hv
theorem drop_mid (A : List Value) (off k m : Nat) (vs : List Value) (h : off + k ≤ A.length) : (A.take (off + k) ++ vs ++ A.drop (off + k + m)).drop off = (A.drop off).take k ++ vs ++ (A.drop off).drop (k + m) := by
  rw [List.append_assoc, List.drop_append_of_le_length (by simp; omega), List.drop_take, List.append_assoc, List.drop_drop, show off + k - off = k by omega, Nat.add_assoc]
theorem Blk.setCellsO {r : Nat} {t : TypeId} (vs : List Value) (off k : Nat) {w : World} {cur : Array Value} (h : Blk w r t cur) (hl : off + k + vs.length ≤ cur.size) :
    ∃ cur', Blk (w.setCells r (off + k) vs) r t cur' ∧ cur'.size = cur.size ∧ cur'.toList.drop off = (cur.toList.drop off).take k ++ vs ++ (cur.toList.drop off).drop (k + vs.length) := by
  obtain ⟨c1, b1, s1, t1⟩ := Blk.setCells vs (off + k) h hl
  exact ⟨c1, b1, s1, by rw [t1]; exact drop_mid _ _ _ _ _ (by simp; omega)⟩
/-- What one more leaves: the row, where its block was or anew. -/
def Put1 (w : World) (base : Nat) (v : Value) (l : List Int) (e : Ending) (w' : World) : Prop :=
  ∃ v', e = .returned v' ∧ IRow w' base v' l ∧ w.grownBy w' v.ownBlock ∧ (v'.ownBlock = v.ownBlock ∨ v'.ownBlock = some w.heap.size)
set_option maxRecDepth 100000 in
theorem insert_any (w : World) (base : Nat) (hbase : base ≤ w.heap.size) (v : Value) (l : List Int) (h : IRow w base v l) (hl : l.length ≤ 1000000) (i : Nat) (hi : i ≤ l.length) (x : Int) (vb : Nat) (hvb : Blk w vb 3 #[.int .i64 x]) (hne : v.ownBlock ≠ some vb) :
    Calls Try.prog 48 #[v, .int .i64 i, .slice (some ⟨vb, 0, none⟩) 1 1] w (Put1 w base v (ins l i x)) := by
  have hvs : ∀ j u, ([.int .i64 x] : List Value)[j]? = some u → w.cell? ⟨vb, 0 + j, none⟩ = some u := cells_at (off := 0) hvb rfl
  have h1v : ∀ u ∈ ([.int .i64 x] : List Value), u.oneCell' = true := by simp [Value.oneCell']
  have hlen := ins_length x hi
  have h1c := iv_one l
  have hzc : (Value.int .i64 0).cells = #[.int .i64 0] := rfl
  rcases h with ⟨rfl, rfl⟩ | ⟨g, off, cap, cur, rfl, hg, hb, hn, hm, hc, ht⟩
  · have hi0 : i = 0 := by simpa using hi
    subst hi0
    refine (Any2.slices_Insert_int_end_grow GrL.lays21 none 0 0 vb 0 1 1 [] [.int .i64 x] w (by omega) (by omega) (by omega) (by omega) rfl rfl (fun _ => rfl) (fun a h => by cases h) hvs h1v).mono ?_
    rintro e w' ⟨rfl, rfl⟩
    have hge := grownCap_ge w (0 + 1) 0 3
    have hle := grownCap_le_maxLen w (0 + 1) 0 3 (by unfold maxLen; omega)
    refine ⟨_, rfl, ?_, grown_ahead (World.grownBy_alloc w.drew _ _), .inr rfl⟩
    refine IRow.mk_ (l := ins [] 0 x) rfl hbase (Blk.new_ w.drew 3 _ rfl) hge (by rw [Nat.zero_add]; exact hle) ?_ ?_
    · have hge' : 1 ≤ grownCap w (0 + 1) 0 (GrL.ren.t 3) := hge
      simp [size_zeroCells, hzc] at hge' ⊢
      omega
    · simp [ins, iv]
  · have hcl : (iv l).length = l.length := iv_length l
    have hcs := cells_at hb (L := iv l) (by rw [hcl]; exact ht)
    have hsz : (iv l).length + 1 = l.length + 1 := by rw [hcl]
    have hvg : vb ≠ g := fun e => hne (by simp [Value.ownBlock, e])
    have htk : ∀ k, k ≤ l.length → (cur.toList.drop off).take k = (iv l).take k := fun k hk => by rw [← ht, List.take_take, Nat.min_eq_left hk]
    by_cases hroom : l.length + 1 ≤ cap
    · by_cases hlt : i < l.length
      · refine (Any2.slices_Insert_int_shift GrL.lays21 g off l.length cap i vb 0 1 1 (iv l) [.int .i64 x] w hlt (by omega) hroom (by unfold maxLen at hm; omega) hvg hcl rfl hcs (fun j hj => by rw [hb.cell]; simp; omega) (fun j hj => hb.frozen _) hvs h1c h1v _ _ _ _ (shape_of hvb) (shape_of hb) (by omega) (hvb.frozen 0) (hvb.frozen _)).mono ?_
        rintro e w' ⟨rfl, rfl⟩
        obtain ⟨c1, b1, s1, t1⟩ := Blk.setCellsO ((iv l).drop i) off (i + 1) hb.drew (by simp [hcl]; omega)
        obtain ⟨c2, b2, s2, t2⟩ := Blk.setCellsO [.int .i64 x] off i b1 (by simp; omega)
        refine ⟨_, rfl, ?_, grown_setCells g _ _ (grown_setCells g _ _ (⟨rfl, rfl, rfl, Nat.le_refl _, fun _ _ _ => rfl⟩ : w.grownBy w.drew _) (.inl rfl)) (.inl rfl), .inl rfl⟩
        refine IRow.mk_ hlen hg b2 hroom hm (by rw [s2, s1]; exact hc) ?_
        rw [← hsz, iv_ins]
        refine shifted (cur.toList.drop off) (iv l) i _ (htk i hi) (by rw [hcl]; exact hi) (by rw [hcl]; simp; omega) (c1.toList.drop off) _ t1 t2
      · obtain rfl : i = l.length := by omega
        refine (Any2.slices_Insert_int_end_room GrL.lays21 g off l.length cap vb 0 1 1 [.int .i64 x] w (by omega) hroom (by unfold maxLen at hm; omega) rfl (fun j hj => by rw [hb.cell]; simp; omega) (fun j hj => hb.frozen _) hvs h1v).mono ?_
        rintro e w' ⟨rfl, rfl⟩
        obtain ⟨c2, b2, s2, t2⟩ := Blk.setCellsO [.int .i64 x] off l.length hb (by simp; omega)
        refine ⟨_, rfl, ?_, grown_setCells g _ _ (World.grownBy.refl w _) (.inl rfl), .inl rfl⟩
        refine IRow.mk_ hlen hg b2 hroom hm (by rw [s2]; exact hc) ?_
        rw [iv_ins, t2, ht, List.take_append_of_le_length (by simp [hcl]), List.take_of_length_le (by simp [hcl])]
        rw [List.take_of_length_le (by rw [hcl]; exact Nat.le_refl _), List.drop_of_length_le (by rw [hcl]; exact Nat.le_refl _)]
    · have hge := grownCap_ge w (l.length + 1) cap 3
      have hle := grownCap_le_maxLen w (l.length + 1) cap 3 (by unfold maxLen; omega)
      by_cases hlt : i < l.length
      · refine (Any2.slices_Insert_int_grow GrL.lays21 g off l.length cap i vb 0 1 1 (iv l) [.int .i64 x] w hlt (by omega) hn (by omega) (by omega) hcl rfl hcs hvs h1c h1v).mono ?_
        rintro e w' ⟨rfl, rfl⟩
        have b0 := Blk.new_ w 3 (((iv l).take i).toArray ++ Builtin.zeroCells (Value.int .i64 0).cells (l.length + 1 - i) ++ Builtin.zeroCells (Value.int .i64 0).cells (grownCap w (l.length + 1) cap 3 - (l.length + 1))) rfl
        have s0 : (((iv l).take i).toArray ++ Builtin.zeroCells (Value.int .i64 0).cells (l.length + 1 - i) ++ Builtin.zeroCells (Value.int .i64 0).cells (grownCap w (l.length + 1) cap 3 - (l.length + 1))).size = grownCap w (l.length + 1) cap 3 := by
          simp [size_zeroCells, hzc, hcl]; omega
        obtain ⟨c1, b1, s1, t1⟩ := Blk.setCells [.int .i64 x] i b0.drew (by rw [s0]; simp; omega)
        obtain ⟨c2, b2, s2, t2⟩ := Blk.setCells ((iv l).drop i) (i + 1) b1.drew (by rw [s1, s0]; simp [hcl]; omega)
        refine ⟨_, rfl, ?_, grown_setCells _ _ _ (grown_drew (grown_setCells _ _ _ (grown_drew (World.grownBy_alloc w _ _)) (.inr (Nat.le_refl _)))) (.inr (Nat.le_refl _)), .inr rfl⟩
        refine IRow.mk_ hlen hbase b2 hge (by rw [Nat.zero_add]; exact hle) (by rw [s2, s1, s0, Nat.zero_add]; exact Nat.le_refl _) ?_
        rw [← hsz, iv_ins, List.drop_zero]
        refine shifted2 _ (iv l) i _ ?_ (by rw [hcl]; exact hi) ?_ c1.toList c2.toList t1 t2
        · rw [Array.toList_append, Array.toList_append, List.append_assoc]
          exact List.take_left' (by simp [hcl]; omega)
        · rw [hcl]; exact Nat.le_trans hge (Nat.le_of_eq s0.symm)
      · obtain rfl : i = l.length := by omega
        refine (Any2.slices_Insert_int_end_grow GrL.lays21 (some ⟨g, off, none⟩) l.length cap vb 0 1 1 (iv l) [.int .i64 x] w (by omega) hn (by omega) (by omega) hcl rfl (fun h => by cases h) (fun a h => by cases h; exact fun j v hv => by rw [Addr.add_lit]; exact hcs j v hv) hvs h1v).mono ?_
        rintro e w' ⟨rfl, rfl⟩
        refine ⟨_, rfl, ?_, grown_ahead (World.grownBy_alloc w.drew _ _), .inr rfl⟩
        refine IRow.mk_ hlen hbase (Blk.new_ w.drew 3 _ rfl) hge (by rw [Nat.zero_add]; exact hle) ?_ ?_
        · have hge' : l.length + 1 ≤ grownCap w (l.length + 1) cap (GrL.ren.t 3) := hge
          generalize grownCap w (l.length + 1) cap (GrL.ren.t 3) = gc at *
          simp [size_zeroCells, hzc, hcl]; omega
        · rw [iv_ins, List.drop_zero, List.take_of_length_le (l := iv l) (by rw [hcl]; exact Nat.le_refl _), List.drop_of_length_le (l := iv l) (by rw [hcl]; exact Nat.le_refl _), Array.toList_append, List.take_append_of_le_length (by simp [hcl]), List.take_of_length_le (by simp [hcl])]
/-- A number less, at a place. -/
def del (l : List Int) (i : Nat) : List Int := l.take i ++ l.drop (i + 1)
theorem del_length {l : List Int} {i : Nat} (h : i < l.length) : (del l i).length = l.length - 1 := by
  unfold del; simp; omega
theorem getD_at {w : World} {g off : Nat} {cur : Array Value} {l : List Int} (h : Blk w g 3 cur) (ht : (cur.toList.drop off).take l.length = iv l) : ∀ j, j < l.length → w.cell? ⟨g, off + j, none⟩ = some (.int .i64 (l.getD j 0)) := fun j hj => by
  refine cells_at h (L := iv l) (by rw [iv_length]; exact ht) j _ ?_
  unfold iv
  rw [List.getElem?_map, List.getElem?_eq_getElem hj]
  simp [List.getD, hj]
theorem delete_any (w : World) (base : Nat) (v : Value) (l : List Int) (h : IRow w base v l) (i : Nat) (hi : i < l.length) :
    Calls Try.prog 51 #[v, .int .i64 i, .int .i64 ((i : Int) + 1)] w (Put1 w base v (del l i)) := by
  rcases h with ⟨rfl, rfl⟩ | ⟨g, off, cap, cur, rfl, hg, hb, hn, hm, hc, ht⟩
  · cases hi
  · refine (Any.slices_Delete_int_cells GrL.lays23 g off l.length cap i (i + 1) l w (Nat.le_refl _) hn (by unfold maxLen at hm; omega) (by omega) hi (getD_at hb ht) (fun j hj => hb.frozen _)).mono ?_
    rintro e w' ⟨rfl, q, rfl⟩
    have hlen := del_length hi
    have e1 : l.length - (i + 1 - i) = l.length - 1 := by omega
    obtain ⟨c2, b2, s2, t2⟩ := Blk.setCellsO (((l.take l.length).take i ++ (l.take l.length).drop (i + 1) ++ List.replicate (i + 1 - i) 0).map (Value.int .i64)) off 0 (hb.drewN q) (by simp; omega)
    refine ⟨_, rfl, ?_, grown_setCells g _ _ (⟨rfl, rfl, rfl, Nat.le_refl _, fun _ _ _ => rfl⟩ : w.grownBy (w.drewN q) _) (.inl rfl), .inl rfl⟩
    refine IRow.mk_ (by rw [hlen, e1]) hg b2 (by omega) hm (by rw [s2]; exact hc) ?_
    rw [t2, List.take_zero, List.nil_append, List.take_length, e1, List.map_append, List.append_assoc, List.take_append_of_le_length (by simp; omega), List.take_of_length_le (by simp; omega)]
    unfold del iv; simp
theorem search_any (w : World) (base : Nat) (v : Value) (l : List Int) (h : IRow w base v l) (hl : l.length ≤ 1000000) (hs : l.Pairwise (· ≤ ·)) (x : Int) :
    Calls Try.prog 42 #[v, .int .i64 x] w fun e w' => e = .returned (.tuple #[.int .i64 ((l.countP (· < x)) : Nat), .bool (l.contains x)]) ∧ ∃ q, w' = w.drewN q := by
  rcases h with ⟨rfl, rfl⟩ | ⟨g, off, cap, cur, rfl, hg, hb, hn, hm, hc, ht⟩
  · refine (Any.slices_BinarySearch_int_empty GrL.lays25 none 0 x w).mono ?_
    rintro e w' ⟨rfl, rfl⟩
    exact ⟨rfl, 0, rfl⟩
  · have := Any.slices_BinarySearch_int GrL.lays25 g off l.length cap l x w (Nat.le_refl _) (by omega) (getD_at hb ht) (by rw [List.take_length]; exact hs)
    rw [List.take_length] at this
    exact this
end Go.Proofs.Ytclbpohhmaojcaa.GrW
