/-
  Memory of an object: a set of blocks that it uses; rows of bytes among these, that may be appended to.
-/
import Derived.Test.YtpohefpiidlnjaaProg
import Derived.Test.YtpohefpiidlnjaaWordsMore
import Derived.ArgAppend
namespace Go.Proofs.Ytpohefpiidlnjaa.Wd
set_option linter.unusedVariables false
open Go Go.RowKit

/-- Outside of F nothing that is there turns. -/
structure Fr (F : Nat → Prop) (w w' : World) : Prop where
  os : w'.os = w.os
  tape : w'.tape = w.tape
  output : w'.output = w.output
  size : w.heap.size ≤ w'.heap.size
  block : ∀ k, k < w.heap.size → ¬ F k → w'.heap[k]? = w.heap[k]?
section
variable {F G : Nat → Prop} {w w' w'' : World}
theorem Fr.refl (F : Nat → Prop) (w : World) : Fr F w w := ⟨rfl, rfl, rfl, Nat.le_refl _, fun _ _ _ => rfl⟩
theorem Fr.trans (h : Fr F w w') (k : Fr G w' w'') (hG : ∀ i, G i → F i ∨ w.heap.size ≤ i) : Fr F w w'' :=
  ⟨k.os.trans h.os, k.tape.trans h.tape, k.output.trans h.output, Nat.le_trans h.size k.size, fun i hi hF =>
    (k.block i (Nat.lt_of_lt_of_le hi h.size) (fun hg => (hG i hg).elim hF (fun h0 => by omega))).trans (h.block i hi hF)⟩
theorem Fr.below (h : Fr F w w') {B : Nat} (hB : B ≤ w.heap.size) (hF : ∀ k, F k → B ≤ k) : Below B w w' :=
  ⟨h.os, h.tape, h.output, h.size, fun k hk => h.block k (by omega) (fun hf => by have := hF k hf; omega)⟩
theorem Fr.of_below (h : Below w.heap.size w w') (F : Nat → Prop) : Fr F w w' := ⟨h.os, h.tape, h.output, h.size, fun k hk _ => h.block k hk⟩
theorem Fr.more (h : Fr F w w') (hG : ∀ i, F i → G i ∨ w.heap.size ≤ i) : Fr G w w' := ⟨h.os, h.tape, h.output, h.size, fun i hi hg => h.block i hi (fun hf => (hG i hf).elim hg (fun h0 => by omega))⟩
theorem Fr.alloc (h : Fr F w w') (o : Obj) : Fr F w (w'.alloc o) := h.trans (Fr.of_below ((Below.refl _ w').alloc (Nat.le_refl _) o) F) (fun _ h => .inl h)
theorem Fr.drew (h : Fr F w w') : Fr F w w'.drew := ⟨h.os, h.tape, h.output, h.size, h.block⟩
theorem Fr.drewN (h : Fr F w w') (n : Nat) : Fr F w (w'.drewN n) := ⟨h.os, h.tape, h.output, h.size, h.block⟩
theorem Fr.setCell (h : Fr F w w') {p : Addr} (hp : F p.block ∨ w.heap.size ≤ p.block) (u : Value) : Fr F w (w'.setCell p u) :=
  ⟨h.os, h.tape, h.output, by simpa using h.size, fun k hk hF => (heap_setCell_other w' p k u (fun e => by rw [e] at hk hF; rcases hp with h1 | h1; exact hF h1; omega)).trans (h.block k hk hF)⟩
theorem Fr.setCells (r : Nat) : ∀ (vs : List Value) (o : Nat) {w' : World}, Fr F w w' → (F r ∨ w.heap.size ≤ r) → Fr F w (w'.setCells r o vs)
  | [], _, _, h, _ => h
  | v :: vs, o, w', h, hr => Fr.setCells r vs (o + 1) (h.setCell (p := ⟨r, o, none⟩) hr v) hr
theorem Fr.of_grown {row : Option Nat} (h : w.grownBy w' row) (hr : ∀ g, row = some g → F g) : Fr F w w' :=
  ⟨h.os, h.tape, h.output, h.size, fun k hk hF => h.block k hk (fun e => hF (hr k e.symm))⟩
theorem Blk.fr {g : Nat} {t : TypeId} {cs : Array Value} (h : Blk w g t cs) (hf : Fr F w w') (hg : ¬ F g) : Blk w' g t cs := (hf.block g h.lt hg).trans h
theorem Blk.setCells {r : Nat} {t : TypeId} : ∀ (vs : List Value) (o : Nat) {w : World} {cur : Array Value}, Blk w r t cur → o + vs.length ≤ cur.size →
    ∃ cur', Blk (w.setCells r o vs) r t cur' ∧ cur'.size = cur.size ∧ cur'.toList = cur.toList.take o ++ vs ++ cur.toList.drop (o + vs.length)
  | [], o, w, cur, h, _ => ⟨cur, h, rfl, by simp⟩
  | v :: vs, o, w, cur, h, hl => by
    rw [List.length_cons] at hl
    obtain ⟨cur', h1, h2, h3⟩ := Blk.setCells vs (o + 1) (h.set_ o v) (by rw [Array.size_setIfInBounds]; omega)
    refine ⟨cur', h1, by rw [h2, Array.size_setIfInBounds], ?_⟩
    rw [h3, Array.toList_setIfInBounds, List.take_set, List.drop_set_of_lt (by omega), List.take_succ_eq_append_getElem (by simpa using (by omega : o < cur.size)), List.set_append_right _ _ (by simp; omega)]
    have e : min o cur.toList.length = o := by simp; omega
    simp only [List.length_take, e, Nat.sub_self, List.set_cons_zero, List.append_assoc, List.cons_append, List.nil_append, List.length_cons]
    rw [show o + 1 + vs.length = o + (vs.length + 1) by omega]
end
/-- A row of bytes that may be appended to: its block is one of F's. -/
def SegV (w : World) (F : Nat → Prop) (v : Value) (l : List UInt8) : Prop :=
  (v = .slice none 0 0 ∧ l = []) ∨ ∃ r cap cur, v = .slice (some ⟨r, 0, none⟩) l.length cap ∧ F r ∧ Blk w r 5 cur ∧ l.length ≤ cap ∧ cap ≤ cur.size ∧ cap ≤ maxLen ∧ cur.toList.take l.length = bs l
section
variable {F G : Nat → Prop} {w w' : World} {v : Value} {l : List UInt8}
theorem SegV.nil (w : World) (F : Nat → Prop) : SegV w F (.slice none 0 0) [] := .inl ⟨rfl, rfl⟩
theorem SegV.fr (h : SegV w F v l) (hf : Fr G w w') (hd : ∀ k, F k → ¬ G k) : SegV w' F v l := by
  rcases h with h | ⟨r, cap, cur, h1, h2, h3, h4⟩
  · exact .inl h
  · exact .inr ⟨r, cap, cur, h1, h2, h3.fr hf (hd r h2), h4⟩
theorem SegV.below (h : SegV w F v l) (hb : Below w.heap.size w w') : SegV w' F v l := by
  rcases h with h | ⟨r, cap, cur, h1, h2, h3, h4⟩
  · exact .inl h
  · exact .inr ⟨r, cap, cur, h1, h2, h3.below hb h3.lt, h4⟩
theorem SegV.more (h : SegV w F v l) (hG : ∀ k, k < w.heap.size → F k → G k) : SegV w G v l := by
  rcases h with h | ⟨r, cap, cur, h1, h2, h3, h4⟩
  · exact .inl h
  · exact .inr ⟨r, cap, cur, h1, hG r h3.lt h2, h3, h4⟩
theorem SegV.form (h : SegV w F v l) : ∃ A c, v = .slice A l.length c ∧ l.length ≤ c ∧ c ≤ maxLen ∧ Bytes w w.heap.size A l := by
  rcases h with ⟨rfl, rfl⟩ | ⟨r, cap, cur, rfl, h2, h3, h4, h5, h6, h7⟩
  · exact ⟨none, 0, rfl, Nat.le_refl _, by simp [maxLen], Row.nil⟩
  · refine ⟨_, cap, rfl, h4, h6, fun j hj => ⟨r, 0, rfl, h3.lt, ?_⟩⟩
    rw [Nat.zero_add, h3.cell]
    have h8 : (cur.toList.take l.length)[j]? = (bs l)[j]? := by rw [h7]
    have h9 : (bs l)[j]? = some ((bs l)[j]'hj) := List.getElem?_eq_getElem hj
    rw [List.getElem?_take_of_lt (by rwa [bs_length] at hj), h9] at h8
    simpa using h8
/-- Its begin, without room behind. -/
theorem SegV.cut {A : Option Addr} {n c k : Nat} (h : SegV w F (.slice A n c) l) (hk : k ≤ l.length) : SegV w F (.slice A k k) (l.take k) := by
  rcases h with ⟨h1, rfl⟩ | ⟨r, cap, cur, h1, h2, h3, h4, h5, h6, h7⟩
  · cases h1
    have : k = 0 := by simpa using hk
    subst this
    exact .inl ⟨rfl, rfl⟩
  · cases h1
    have hl : (l.take k).length = k := by simp; omega
    refine .inr ⟨r, k, cur, by rw [hl], h2, h3, by rw [hl]; exact Nat.le_refl _, by omega, by omega, ?_⟩
    rw [hl]
    have : (cur.toList.take l.length).take k = (bs l).take k := by rw [h7]
    rw [List.take_take, Nat.min_eq_left hk] at this
    rw [this]; simp [bs, List.map_take]
theorem SegV.of_own {base : Nat} {n : Nat} (h : w.ownsRow base 5 1 v n (bs l)) (hF : ∀ k, base ≤ k → k < w.heap.size → F k) : SegV w F v l := by
  have hl := h.1
  rw [bs_length, Nat.mul_one] at hl
  subst hl
  rcases h.2 with ⟨rfl, h0⟩ | ⟨g, cap, cur, rfl, hb, hh, hc, hm, hs, ht⟩
  · exact .inl ⟨rfl, List.eq_nil_of_length_eq_zero h0⟩
  · exact .inr ⟨g, cap, cur, rfl, hF g hb (Blk.lt (t := 5) hh), hh, hc, by omega, hm, by simpa using ht⟩
theorem infoU8 : (Try.prog.info? 5).map (fun i => (i.zero, i.size, i.bytes)) = some (some (.int .u8 0), 1, 1) := by kernel_rfl
set_option maxRecDepth 100000 in
theorem run_append_seg (h : SegV w F v l) {B : Nat} {A : Option Addr} {m c : Nat} {l2 : List UInt8} (hm : m = l2.length) (hr : Bytes w B A l2) (hb : l.length + m ≤ 1000000000000) (ty : TypeId) :
    ∃ v' w', (Builtin.append_ #[25, 25] ty #[v, .slice A m c]).run Try.prog w = .ok v' w' ∧ SegV w' (fun k => F k ∨ w.heap.size ≤ k) v' (l ++ l2) ∧ Fr F w w' := by
  obtain ⟨i0, hi0, hz0, hz1, hz2⟩ := info_parts infoU8
  subst hm
  rcases h with ⟨rfl, rfl⟩ | ⟨r, cap, cur, rfl, h2, h3, h4, h5, h6, h7⟩
  · obtain ⟨v', w', hrun, hown, hgr, _, _⟩ := run_append_row (P := Try.prog) w w.heap.size 25 ty 5 i0 _ 1 Try.underlying25 hi0 hz0 hz1 hz2 rfl (.slice none 0 0) 0 [] (own_nil _ _ _) B A l2.length c (bs l2) (by rw [bs_length]) hr (bs_one _) (by unfold maxLen; omega) (by omega) (Nat.le_refl _)
    refine ⟨v', w', hrun, SegV.of_own (n := 0 + l2.length) (base := w.heap.size) (by simpa using hown) (fun k hk _ => .inr hk), Fr.of_grown hgr (fun g hg => by cases hg)⟩
  · rcases A with _ | ad
    · have hn : l2 = [] := by
        rcases l2 with _ | ⟨x, r⟩
        · rfl
        · obtain ⟨b, off, h, _⟩ := hr.at_ (j := 0) (by simp)
          cases h
      subst hn
      refine ⟨.slice (some ⟨r, 0, none⟩) l.length cap, w, ?_, ?_, Fr.refl _ _⟩
      rotate_left
      · simp only [List.append_nil]
        exact .inr ⟨r, cap, cur, rfl, .inl h2, h3, h4, h5, h6, h7⟩
      · simp [Builtin.append_, run_underlying Try.underlying25, sizeOf, typeInfo, hi0, Builtin.lenOf, Builtin.firstCells, h4, storeCells]
    · have hcells : ∀ j u, (bs l2)[j]? = some u → w.cell? (ad.add j) = some u := by
        intro j u hu
        obtain ⟨hj, hv⟩ := List.getElem?_eq_some_iff.1 hu
        obtain ⟨b, off, h, _, hc⟩ := hr j hj
        injection h with h
        subst h
        rw [Addr.add_lit, hc, hv]
      by_cases hroom : l.length + l2.length ≤ cap
      · have hrun := run_append_room_cells (P := Try.prog) w 25 ty 5 i0 Try.underlying25 hi0 r 0 l.length cap ad l2.length c (bs l2) (by rw [bs_length, hz1, Nat.mul_one]) hcells (bs_one _) hroom (fun j hj => by
          rw [bs_length] at hj
          rw [hz1, Nat.mul_one, Nat.zero_add, h3.cell, Array.getElem?_eq_getElem (by omega)]; rfl) (fun j hj => by exact h3.frozen _)
        rw [hz1, Nat.mul_one, Nat.zero_add] at hrun
        obtain ⟨cur', k1, k2, k3⟩ := Blk.setCells (bs l2) l.length h3 (by rw [bs_length]; omega)
        refine ⟨_, _, hrun, .inr ⟨r, cap, cur', by rw [List.length_append], .inl h2, k1, by rw [List.length_append]; exact hroom, by omega, h6, ?_⟩, Fr.setCells r _ _ (Fr.refl _ _) (.inl h2)⟩
        rw [k3, h7, List.length_append, bs_append, List.take_append_of_le_length (by simp [bs_length])]
        rw [List.take_of_length_le (by simp [bs_length])]
      · obtain ⟨v', w', hrun, hown, hgr⟩ := run_append_arg_grows (P := Try.prog) w 25 ty 5 i0 _ 1 1 Try.underlying25 hi0 hz0 hz1 hz2 rfl (by omega) ⟨r, 0, none⟩ l.length cap (bs l) (by rw [bs_length, Nat.mul_one]) (fun j u hu => by
          have hj := (List.getElem?_eq_some_iff.1 hu).1
          rw [bs_length] at hj
          rw [Addr.add_lit, Nat.zero_add, h3.cell]
          have h8 : (cur.toList.take l.length)[j]? = (bs l)[j]? := by rw [h7]
          rw [List.getElem?_take_of_lt hj, hu] at h8
          simpa using h8) ad l2.length c (bs l2) (by rw [bs_length, Nat.mul_one]) hcells (by omega) (by unfold maxLen; omega) (by omega)
        refine ⟨v', w', hrun, SegV.of_own (base := w.heap.size) (n := l.length + l2.length) (by rw [bs_append]; exact hown) (fun k hk _ => .inr hk), Fr.of_grown hgr (fun g hg => by cases hg)⟩
end
end Go.Proofs.Ytpohefpiidlnjaa.Wd
