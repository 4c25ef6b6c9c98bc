/-
  Words for memory: append onto a row of the call's own whatever the source; bytes as a string; an own row as a slice; what an argument of bytes reads as.
-/
import Derived.Test.YtpohefpiidlnjaaWords
import Derived.Maps.AppendAt
import Derived.RegionTactic
import Derived.OwnWalk
import Derived.Laws.BytesArg
import Derived.OpenShut
namespace Go.Proofs.Ytpohefpiidlnjaa.Wd
open Go Go.RowKit

section
variable {P : Program} (w : World)

theorem run_append_nothing (base : Nat) (t ty e : TypeId) (i : TypeInfo) (size : Nat) (ht : P.underlying t = some (.slice e)) (hi : P.info? e = some i)
    (v : Value) (n : Nat) (xs : List Value) (hown : w.ownsRow base e size v n xs) (c : Nat) : (Builtin.append_ #[t, t] ty #[v, .slice none 0 c]).run P w = .ok v w := by
  rcases hown.2 with ⟨rfl, rfl⟩ | ⟨g, cap, cur, rfl, _, _, hnc, _⟩
  · simp [Builtin.append_, run_underlying ht, sizeOf, typeInfo, hi, Builtin.lenOf, Builtin.firstCells]
  · simp [Builtin.append_, run_underlying ht, sizeOf, typeInfo, hi, Builtin.lenOf, Builtin.firstCells, hnc, storeCells]

theorem run_append_row (base : Nat) (t ty e : TypeId) (i : TypeInfo) (z : Value) (bytes : Nat) (ht : P.underlying t = some (.slice e)) (hi : P.info? e = some i) (hz : i.zero = some z)
    (hsize : i.size = 1) (hby : i.bytes = bytes) (hzs : z.cells.size = 1)
    (v : Value) (n : Nat) (xs : List Value) (hown : w.ownsRow base e 1 v n xs)
    (B : Nat) (A : Option Addr) (m c : Nat) (news : List Value) (hm : m = news.length) (hr : Row w B A news) (h1 : ∀ u ∈ news, u.oneCell' = true)
    (h63 : n + m ≤ maxLen) (hbytes : (n + m) * bytes ≤ 140737488355328) (hbase : base ≤ w.heap.size) :
    ∃ v' w', (Builtin.append_ #[t, t] ty #[v, .slice A m c]).run P w = .ok v' w' ∧ w'.ownsRow base e 1 v' (n + m) (xs ++ news) ∧ w.grownBy w' v.ownBlock ∧
      (v' = .slice none 0 0 ↔ v = .slice none 0 0 ∧ m = 0) ∧ (v'.ownBlock = v.ownBlock ∨ v'.ownBlock = some w.heap.size) := by
  subst hm
  rcases A with _ | ad
  · have hn : news = [] := by
      rcases news with _ | ⟨x, r⟩
      · rfl
      · obtain ⟨b, off, h, _⟩ := hr 0 (by simp)
        cases h
    subst hn
    exact ⟨v, w, run_append_nothing w base t ty e i 1 ht hi v n xs hown c, by simpa using hown, World.grownBy.refl w _, by simp, .inl rfl⟩
  · have hcells : ∀ j u, news[j]? = some u → w.cell? (ad.add j) = some u := by
      intro j u hu
      obtain ⟨hj, hv⟩ := List.getElem?_eq_some_iff.1 hu
      obtain ⟨b, off, h, _, hc⟩ := hr j hj
      injection h with h
      subst h
      rw [Addr.add_lit, hc, hv]
    exact run_append_own_at (P := P) w base t ty e i z 1 bytes ht hi hz hsize hby hzs (by omega) v n xs hown ad news.length c news (by simp) hcells h1 h63 hbytes hbase

theorem wp_append_row {o : Oper} {a : Act} {K : Act → World → Prop} {Q : Exit → Act → World → Prop} (s x : Operand) (t : TypeId)
    (ho : o.op = .call { callee := .builtin .append, args := #[s, x], argTypes := #[t, t] })
    (base : Nat) (e : TypeId) (i : TypeInfo) (z : Value) (bytes : Nat) (ht : P.underlying t = some (.slice e)) (hi : P.info? e = some i) (hz : i.zero = some z)
    (hsize : i.size = 1) (hby : i.bytes = bytes) (hzs : z.cells.size = 1)
    (v : Value) (n : Nat) (xs : List Value) (hs : a.eval s = v) (hown : w.ownsRow base e 1 v n xs)
    (B : Nat) (A : Option Addr) (m c : Nat) (news : List Value) (hx : a.eval x = .slice A m c) (hm : m = news.length) (hr : Row w B A news) (h1 : ∀ u ∈ news, u.oneCell' = true)
    (h63 : n + m ≤ maxLen) (hbytes : (n + m) * bytes ≤ 140737488355328) (hbase : base ≤ w.heap.size)
    (h : ∀ v' w', w'.ownsRow base e 1 v' (n + m) (xs ++ news) → w.grownBy w' v.ownBlock → (v' = .slice none 0 0 ↔ v = .slice none 0 0 ∧ m = 0) → (v'.ownBlock = v.ownBlock ∨ v'.ownBlock = some w.heap.size) → K (a.put o.dst v') w') : o.wp P a w K Q := by
  obtain ⟨v', w', hrun, h2, h3, h4, h5⟩ := run_append_row (P := P) w base t o.type e i z bytes ht hi hz hsize hby hzs v n xs hown B A m c news hm hr h1 h63 hbytes hbase
  unfold Oper.wp execOp
  simp only [ho, resolve, invoke, builtin, Sem.run_bind, Sem.run_pure, Result.andThen_ok, List.map_toArray, List.map_cons, List.map_nil, hs, hx, hrun]
  exact h v' w' h2 h3 h4 h5

theorem wpList_append_row {ops : Array Oper} {rest : List Oper} {o : Oper} {a : Act} {Q : Exit → Act → World → Prop} (hgd : o.guard = none) (s x : Operand) (t : TypeId)
    (ho : o.op = .call { callee := .builtin .append, args := #[s, x], argTypes := #[t, t] })
    (base : Nat) (e : TypeId) (i : TypeInfo) (z : Value) (bytes : Nat) (ht : P.underlying t = some (.slice e)) (hi : P.info? e = some i) (hz : i.zero = some z)
    (hsize : i.size = 1) (hby : i.bytes = bytes) (hzs : z.cells.size = 1)
    (v : Value) (n : Nat) (xs : List Value) (hs : a.eval s = v) (hown : w.ownsRow base e 1 v n xs)
    (B : Nat) (A : Option Addr) (m c : Nat) (news : List Value) (hx : a.eval x = .slice A m c) (hm : m = news.length) (hr : Row w B A news) (h1 : ∀ u ∈ news, u.oneCell' = true)
    (h63 : n + m ≤ maxLen) (hbytes : (n + m) * bytes ≤ 140737488355328) (hbase : base ≤ w.heap.size)
    (h : ∀ v' w', w'.ownsRow base e 1 v' (n + m) (xs ++ news) → w.grownBy w' v.ownBlock → (v' = .slice none 0 0 ↔ v = .slice none 0 0 ∧ m = 0) → (v'.ownBlock = v.ownBlock ∨ v'.ownBlock = some w.heap.size) → wpList P ops Q rest (a.put o.dst v') w') : wpList P ops Q (o :: rest) a w :=
  wpList_plain hgd fun _ hK => wp_append_row w s x t ho base e i z bytes ht hi hz hsize hby hzs v n xs hs hown B A m c news hx hm hr h1 h63 hbytes hbase fun v' w' h2 h3 h4 h5 => hK _ _ (h v' w' h2 h3 h4 h5)

/-- Bytes as a string. -/
theorem run_convert_bytes (src e dst : TypeId) (hs : P.underlying src = some (.slice e)) (he : P.underlying e = some (.int .u8)) (hd : P.underlying dst = some .string)
    {B : Nat} {A : Option Addr} {l : List UInt8} {n : Nat} (h : Bytes w B A l) (c : Nat) (hn : n = l.length) : (convert src dst (.slice A n c)).run P w = .ok (.string ⟨l.toArray⟩) w := by
  subst hn
  rcases A with _ | ad
  · have hl : l = [] := by
      rcases l with _ | ⟨x, r⟩
      · rfl
      · obtain ⟨b, off, h, _⟩ := h.at_ (j := 0) (by simp)
        cases h
    subst hl
    exact run_convert_bytes_nil w src e hs he 0 c dst hd
  · have hl : (loadCells ad l.length).run P w = .ok ((l.map fun b => ((b.toNat : Nat) : Int)).map (Value.int .u8)).toArray w := by
      have := run_loadCells_list (P := P) w ad (bs l) (fun j v hj => by
        obtain ⟨hjl, hv⟩ := List.getElem?_eq_some_iff.1 hj
        obtain ⟨b, off, e', _, hc⟩ := h j hjl
        injection e' with e'
        subst e'
        rw [Addr.add_lit, hc, hv])
      rw [bs_length] at this
      rw [this, bs, List.map_map]; rfl
    rw [run_convert_bytes_string w src dst e _ l.length c hs he hd, run_bytesToString w _ l.length c _ hl, foldl_push_bytes]
    simp only [List.map_map]
    congr 2
    simp [ByteArray.empty, ByteArray.emptyWithCapacity, Function.comp_def]
    rfl
end

/-- An array value, asked at an index. -/
theorem run_index_agg {P : Program} (t e : TypeId) (n : Nat) (cs : Array Value) (k : Nat) (v : Value) (ik kk : IntKind) (i : TypeInfo) (h : P.underlying t = some (.array n e)) (hi : P.info? e = some i) (hs : i.size = 1) (he : P.underlying e = some (.int kk)) (hk : k < n) (hv : cs[k]? = some v) (W : World) :
    (Instr.index t (.agg cs) (.int ik (k : Int))).run P W = .ok v W := by
  simp [Instr.index, asIntOf, run_underlying h, hk, sizeOf, typeInfo, hi, hs, part, isAgg, run_underlying he, hv]
/-- An own row as a slice value. -/
theorem own_slice {w : World} {base : Nat} {e : TypeId} {v : Value} {n : Nat} {xs : List Value} (h : w.ownsRow base e 1 v n xs) :
    ∃ A c, v = .slice A n c ∧ Row w w.heap.size A xs := by
  have hl := h.1
  rcases h.2 with ⟨rfl, rfl⟩ | ⟨g, cap, cur, rfl, h2⟩
  · have : xs = [] := List.eq_nil_of_length_eq_zero (by simpa using hl)
    subst this
    exact ⟨none, 0, rfl, Row.nil⟩
  · exact ⟨_, cap, rfl, Row.of_own h⟩
theorem own_nil (w : World) (base : Nat) (e : TypeId) : w.ownsRow base e 1 (.slice none 0 0) 0 [] := World.ownsRow_nil _ _ _ _
/-- A block that is known whole owns its first cells. -/
theorem Blk.own {w : World} {g base : Nat} {e : TypeId} {cs : Array Value} (h : Blk w g e cs) (hb : base ≤ g) (n : Nat) (hn : n ≤ cs.size) (hm : cs.size ≤ maxLen) :
    w.ownsRow base e 1 (.slice (some ⟨g, 0, none⟩) n cs.size) n (cs.toList.take n) :=
  ⟨by simp [hn], .inr ⟨g, cs.size, cs, rfl, hb, h, hn, hm, by simp, by simp⟩⟩
theorem own_base {w : World} {base base' : Nat} {e : TypeId} {size : Nat} {v : Value} {n : Nat} {xs : List Value} (h : w.ownsRow base e size v n xs) (hb : base' ≤ base) : w.ownsRow base' e size v n xs := by
  obtain ⟨h1, h2⟩ := h
  refine ⟨h1, ?_⟩
  rcases h2 with h2 | ⟨g, cap, cur, hv, hg, r⟩
  · exact .inl h2
  · exact .inr ⟨g, cap, cur, hv, by omega, r⟩
/-- A full own row is a block that is known whole. -/
theorem own_full {w : World} {base g n : Nat} {e : TypeId} {xs : List Value} (h : w.ownsRow base e 1 (.slice (some ⟨g, 0, none⟩) n n) n xs) : Blk w g e xs.toArray ∧ xs.length = n := by
  have hl := h.1
  rcases h.2 with ⟨h, _⟩ | ⟨g', cap, cur, h, _, hh, _, _, hcs, htake⟩
  · simp at h
  · simp only [Value.slice.injEq, Option.some.injEq, Addr.mk.injEq, and_true, true_and] at h
    obtain ⟨rfl, rfl⟩ := h
    refine ⟨?_, by simpa using hl⟩
    have e : cur = xs.toArray := by
      apply Array.ext'
      rw [← htake, List.take_of_length_le (by simp; omega)]
    rw [← e]; exact hh
theorem bs_one (l : List UInt8) : ∀ u ∈ bs l, u.oneCell' = true := by
  intro u hu
  obtain ⟨_, _, rfl⟩ := List.mem_map.1 hu
  rfl
theorem Row.blk {w : World} {g B : Nat} {t : TypeId} {cs : Array Value} (h : Blk w g t cs) (hB : g < B) : Row w B (some ⟨g, 0, none⟩) cs.toList := fun j hj =>
  ⟨g, 0, rfl, hB, by rw [Nat.zero_add, h.cell]; simp at hj; simp [hj]⟩
theorem Row.blkF {w : World} {g B : Nat} {t : TypeId} {cs : Array Value} {fr : Nat × Nat} (h : w.heap[g]? = some (.cells cs t fr)) (hB : g < B) : Row w B (some ⟨g, 0, none⟩) cs.toList := fun j hj =>
  ⟨g, 0, rfl, hB, by rw [Nat.zero_add, cell_of_row w g j cs t fr h]; simp at hj; simp [hj]⟩
/-- Bytes in the newest block, whatever mark it bears. -/
theorem Bytes.new_ (w : World) (t : TypeId) (cs : Array Value) (fr : Nat × Nat) (l : List UInt8) (hl : cs.toList = bs l) {n : Nat} (hn : n = w.heap.size) {B : Nat} (hB : n < B) : Bytes (w.alloc (.cells cs t fr)) B (some ⟨n, 0, none⟩) l := by
  subst hn; unfold Bytes; rw [← hl]; exact Row.blkF (heap_alloc_new w _) hB
theorem Bytes.blk {w : World} {g B : Nat} {t : TypeId} {cs : Array Value} (h : Blk w g t cs) (hB : g < B) (l : List UInt8) (hl : cs.toList = bs l) : Bytes w B (some ⟨g, 0, none⟩) l := by
  unfold Bytes; rw [← hl]; exact Row.blk h hB
/-- A block whose first cells are xs; nothing of it is frozen. -/
def Own1 (w : World) (g : Nat) (e : TypeId) (xs : List Value) : Prop := ∃ cur, Blk w g e cur ∧ cur.toList.take xs.length = xs
section
variable {w w' : World} {g B : Nat} {e : TypeId} {xs : List Value}
theorem Own1.of_own {base : Nat} {v : Value} {n : Nat} (h : w.ownsRow base e 1 v n xs) (hn : 0 < n) : ∃ g cap, v = .slice (some ⟨g, 0, none⟩) n cap ∧ base ≤ g ∧ n ≤ cap ∧ cap ≤ maxLen ∧ Own1 w g e xs := by
  have hl := h.1
  rcases h.2 with ⟨_, h0⟩ | ⟨g, cap, cur, hv, hb, hg, hc, hm, _, ht⟩
  · omega
  · exact ⟨g, cap, hv, hb, hc, hm, cur, hg, by rw [hl]; exact ht⟩
theorem Own1.blk {cs : Array Value} (h : Blk w g e cs) : Own1 w g e cs.toList := ⟨cs, h, List.take_length⟩
theorem Own1.size (h : Own1 w g e xs) : ∃ cur, Blk w g e cur ∧ xs.length ≤ cur.size := by
  obtain ⟨cur, hb, ht⟩ := h
  have := congrArg List.length ht
  simp at this
  exact ⟨cur, hb, by omega⟩
theorem Own1.lt (h : Own1 w g e xs) : g < w.heap.size := by obtain ⟨cur, hb, _⟩ := h; exact hb.lt
theorem Own1.cell (h : Own1 w g e xs) {j : Nat} (hj : j < xs.length) : w.cell? ⟨g, j, none⟩ = some xs[j] := by
  obtain ⟨cur, hb, ht⟩ := h
  rw [hb.cell]
  have h1 : (cur.toList.take xs.length)[j]? = xs[j]? := by rw [ht]
  rw [List.getElem?_take_of_lt hj, List.getElem?_eq_getElem hj] at h1
  simpa using h1
theorem Own1.frozen (h : Own1 w g e xs) (j : Nat) : w.frozen? ⟨g, j, none⟩ = false := by obtain ⟨cur, hb, _⟩ := h; exact hb.frozen j
theorem Own1.row (h : Own1 w g e xs) (hB : g < B) : Row w B (some ⟨g, 0, none⟩) xs := fun j hj => ⟨g, 0, rfl, hB, by rw [Nat.zero_add]; exact h.cell hj⟩
theorem Own1.below (h : Own1 w g e xs) (hb : Below B w w') (hg : g < B) : Own1 w' g e xs := by obtain ⟨cur, hc, ht⟩ := h; exact ⟨cur, hc.below hb hg, ht⟩
theorem Own1.drew (h : Own1 w g e xs) : Own1 w.drew g e xs := h
theorem Own1.drewN (h : Own1 w g e xs) (n : Nat) : Own1 (w.drewN n) g e xs := h
theorem Own1.alloc (h : Own1 w g e xs) (o : Obj) : Own1 (w.alloc o) g e xs := by obtain ⟨cur, hc, ht⟩ := h; exact ⟨cur, hc.alloc o, ht⟩
theorem Own1.grown {row : Option Nat} (h : Own1 w g e xs) (hb : w.grownBy w' row) (hg : some g ≠ row) : Own1 w' g e xs := by obtain ⟨cur, hc, ht⟩ := h; exact ⟨cur, hc.grown hb hg, ht⟩
theorem Own1.far (h : Own1 w g e xs) {p : Addr} (hp : g ≠ p.block) (u : Value) : Own1 (w.setCell p u) g e xs := by obtain ⟨cur, hc, ht⟩ := h; exact ⟨cur, hc.far hp u, ht⟩
theorem Own1.set_ (h : Own1 w g e xs) (k : Nat) (u : Value) : Own1 (w.setCell ⟨g, k, none⟩ u) g e (xs.set k u) := by
  obtain ⟨cur, hc, ht⟩ := h
  refine ⟨_, hc.set_ k u, ?_⟩
  rw [Array.toList_setIfInBounds, List.length_set, List.take_set, ht]
end
theorem bs_set (l : List UInt8) (k : Nat) (x : UInt8) : (bs l).set k (.int .u8 (x.toNat : Nat)) = bs (l.set k x) := by simp [bs, List.map_set]
theorem bs_append (a b : List UInt8) : bs (a ++ b) = bs a ++ bs b := List.map_append
/-- An argument's slice lies among the blocks that are there. -/
theorem slice_arg_lt {w : World} {x : Addr} {len cap : Nat} {zs : List Int} {k : IntKind}
    (h : (some x = none ∧ len = 0 ∧ cap = 0 ∧ zs = []) ∨ ∃ y, some x = some y ∧ len ≤ cap ∧ cap ≤ maxLen ∧ zs.length = cap ∧ (∀ i, i < zs.length → w.cell? (y.add i) = some (.int k (zs.getD i 0))) ∧ ∀ n ∈ zs, (Lit.int k n).wf = true) (hl : 0 < len) : x.block < w.heap.size := by
  rcases h with ⟨h, _⟩ | ⟨y, h, h1, h2, h3, h4, _⟩
  · cases h
  · injection h with h
    subst h
    have := block_lt_of_cell (h4 0 (by omega))
    simpa [Addr.add] using this
/-- What an argument of bytes reads as. -/
theorem bytes_arg {w : World} {a : Option Addr} {len cap : Nat} {zs : List Int} (B : Nat)
    (h : (a = none ∧ len = 0 ∧ cap = 0 ∧ zs = []) ∨ ∃ x, a = some x ∧ len ≤ cap ∧ cap ≤ maxLen ∧ zs.length = cap ∧ (∀ i, i < zs.length → w.cell? (x.add i) = some (.int .u8 (zs.getD i 0))) ∧ ∀ n ∈ zs, (Lit.int .u8 n).wf = true)
    (hlt : ∀ x, a = some x → 0 < len → x.block < B) :
    ∃ l : List UInt8, l.length = len ∧ len ≤ cap ∧ cap ≤ maxLen ∧ Bytes w B a l := by
  rcases h with ⟨rfl, rfl, rfl, rfl⟩ | ⟨x, rfl, h1, h2, h3, h4, h5⟩
  · exact ⟨[], rfl, Nat.le_refl _, by simp [maxLen], Row.nil⟩
  · refine ⟨(zs.take len).map fun n => UInt8.ofNat n.toNat, by simp; omega, h1, h2, fun j hj => ?_⟩
    have hj' : j < len := by simp [bs] at hj; omega
    obtain ⟨b, off, spot⟩ := x
    have hc := h4 j (by omega)
    have hspot : spot = none := by
      have h0 := World.cell?_spot (h4 0 (by omega))
      simpa [Addr.add] using h0
    subst hspot
    refine ⟨b, off, rfl, hlt _ rfl (by omega), ?_⟩
    rw [Addr.add_lit] at hc
    rw [hc]
    have hg : zs.getD j 0 = zs[j]'(by omega) := by simp [show j < zs.length by omega]
    have hm : zs.getD j 0 ∈ zs := by rw [hg]; exact List.getElem_mem _
    have hb := bounds_u8 (h5 _ hm)
    simp only [bs, List.getElem_map, List.getElem_take]
    rw [hg] at hb ⊢
    congr 2
    rw [UInt8.toNat_ofNat_of_lt' (by simp [UInt8.size]; omega)]
    omega
end Go.Proofs.Ytpohefpiidlnjaa.Wd
