/-
  More on a disk's memory: rows cut, slots written; the walk of New.
-/
import Derived.Test.YtpohefpiidlnjaaDiskWalks5
namespace Go.Proofs.Ytpohefpiidlnjaa.Dk
set_option linter.unusedVariables false
open Go Go.RowKit Go.Shelf Go.Proofs Go.Proofs.Ytpohefpiidlnjaa Go.Proofs.Ytpohefpiidlnjaa.Wd

section
variable {w w2 : World} {base : Nat} {F G : Nat → Prop} {g : Nat} {s : DS} {cs cs' : Array Value} {v : Nat → Value} {vf : Value} {R : Nat → Nat → Prop} {fb : Nat → Prop}
/-- A segment's bytes are a begin of theirs, and so many are safe. -/
theorem At'.row_set2 (h : At' w base F g s cs v vf R fb) {k : Nat} (hk : k < 2) {v' : Value} {l' : List UInt8} (hs : SegV w (R k) v' l') (n : Nat) (ok : Ok { s with all := upd s.all k l', safe := upd s.safe k n }) :
    At' ((w.setCell ⟨g, 2 + k * 2, none⟩ v').setCell ⟨g, 2 + k * 2 + 1, none⟩ (.int .i64 n)) base F g { s with all := upd s.all k l', safe := upd s.safe k n } ((cs.setIfInBounds (2 + k * 2) v').setIfInBounds (2 + k * 2 + 1) (.int .i64 n)) (upd v k v') vf R fb := by
  have hfg : Fr (fun j => j = g) w ((w.setCell ⟨g, 2 + k * 2, none⟩ v').setCell ⟨g, 2 + k * 2 + 1, none⟩ (.int .i64 n)) := Fr.setCell (F := fun j => j = g) (p := ⟨g, 2 + k * 2 + 1, none⟩) (Fr.setCell (F := fun j => j = g) (p := ⟨g, 2 + k * 2, none⟩) (Fr.refl _ w) (.inl rfl) v') (.inl rfl) _
  refine ⟨ok, (h.blk.set_ _ _).set_ _ _, (h.cells.set_seg hk v' l').set_safe hk n, fun i hi => ?_, h.fuse.fr hfg fun j hj e => (h.ff j hj).2.1 e, h.fg, h.fR, h.ff, h.apart, fun j hj => by simpa using h.lo j hj⟩
  by_cases e : i = k
  · subst e
    simp only [upd_eq]
    exact hs.fr hfg fun j hj e => (h.fR i hi j hj).2 e
  · simp only [upd_ne e]
    exact (h.row i hi).fr hfg fun j hj e => (h.fR i hi j hj).2 e
theorem setCells_get {r : Nat} {t : TypeId} {vs : List Value} {o : Nat} {cur : Array Value} (h : Blk w r t cur) (hf : o + vs.length ≤ cur.size) :
    ∃ cur', Blk (w.setCells r o vs) r t cur' ∧ cur'.size = cur.size ∧ ∀ k, cur'[k]? = if o ≤ k ∧ k < o + vs.length then vs[k - o]? else cur[k]? := by
  obtain ⟨cur', h1, h2, h3⟩ := Blk.setCells vs o h hf
  refine ⟨cur', h1, h2, fun k => ?_⟩
  rw [← Array.getElem?_toList, h3, List.append_assoc]
  have e1 : (cur.toList.take o).length = o := by rw [List.length_take, Array.length_toList]; omega
  by_cases k1 : k < o
  · rw [if_neg (by omega), List.getElem?_append_left (by rw [e1]; exact k1), List.getElem?_take_of_lt k1, Array.getElem?_toList]
  · rw [List.getElem?_append_right (by rw [e1]; omega), e1]
    by_cases k2 : k < o + vs.length
    · rw [if_pos ⟨by omega, k2⟩, List.getElem?_append_left (by omega)]
    · rw [if_neg (by omega), List.getElem?_append_right (by omega), List.getElem?_drop, Array.getElem?_toList]
      congr 1; omega
theorem Cells.copy_sl (h : Cells cs s v vf) {i : Nat} (hi : i < 2) {l : List UInt8} (hl : l.length ≤ 32) (h32 : (s.sl i).length = 32) (hs : cs'.size = cs.size) (hg : ∀ k, cs'[k]? = if 6 + i * 65 ≤ k ∧ k < 6 + i * 65 + (bs l).length then (bs l)[k - (6 + i * 65)]? else cs[k]?) :
    Cells cs' { s with sl := upd s.sl i (l ++ (s.sl i).drop l.length) } v vf := by
  rw [bs_length] at hg
  refine ⟨hs.trans h.size, ?_, ?_, fun j hj => ?_, fun j hj => ?_, fun j hj k hk => ?_, fun j hj k hk => ?_, fun j hj => ?_, ?_, ?_⟩
  · rw [hg, if_neg (by omega)]; exact h.c0
  · rw [hg, if_neg (by omega)]; exact h.c1
  · rw [hg, if_neg (by omega)]; exact h.seg j hj
  · rw [hg, if_neg (by omega)]; exact h.safe j hj
  · by_cases e : j = i
    · subst e
      simp only [upd_eq]
      rw [bs_append]
      by_cases k1 : k < l.length
      · rw [hg, if_pos (by omega), List.getElem?_append_left (by rw [bs_length]; exact k1)]
        congr 1; omega
      · rw [hg, if_neg (by omega), List.getElem?_append_right (by rw [bs_length]; omega), bs_length, h.sl j hj k hk]
        rw [show bs ((s.sl j).drop l.length) = (bs (s.sl j)).drop l.length by simp [bs, List.map_drop], List.getElem?_drop]
        congr 1; omega
    · simp only [upd_ne e]
      rw [hg, if_neg (by omega)]; exact h.sl j hj k hk
  · rw [hg, if_neg (by omega)]; exact h.lo j hj k hk
  · rw [hg, if_neg (by omega)]; exact h.wr j hj
  · rw [hg, if_neg (by omega)]; exact h.c136
  · rw [hg, if_neg (by omega)]; exact h.c137
theorem Cells.copy_lo (h : Cells cs s v vf) {i : Nat} (hi : i < 2) {l : List UInt8} (hl : l.length = 32) (hs : cs'.size = cs.size) (hg : ∀ k, cs'[k]? = if 6 + i * 65 + 32 ≤ k ∧ k < 6 + i * 65 + 32 + (bs l).length then (bs l)[k - (6 + i * 65 + 32)]? else cs[k]?) :
    Cells cs' { s with lo := upd s.lo i l } v vf := by
  rw [bs_length, hl] at hg
  refine ⟨hs.trans h.size, ?_, ?_, fun j hj => ?_, fun j hj => ?_, fun j hj k hk => ?_, fun j hj k hk => ?_, fun j hj => ?_, ?_, ?_⟩
  · rw [hg, if_neg (by omega)]; exact h.c0
  · rw [hg, if_neg (by omega)]; exact h.c1
  · rw [hg, if_neg (by omega)]; exact h.seg j hj
  · rw [hg, if_neg (by omega)]; exact h.safe j hj
  · rw [hg, if_neg (by omega)]; exact h.sl j hj k hk
  · by_cases e : j = i
    · subst e
      simp only [upd_eq]
      rw [hg, if_pos (by omega)]
      congr 1; omega
    · simp only [upd_ne e]
      rw [hg, if_neg (by omega)]; exact h.lo j hj k hk
  · rw [hg, if_neg (by omega)]; exact h.wr j hj
  · rw [hg, if_neg (by omega)]; exact h.c136
  · rw [hg, if_neg (by omega)]; exact h.c137
/-- Cells of the disk's own are written in a row. -/
theorem At'.cells_set (h : At' w base F g s cs v vf R fb) (o : Nat) (vs : List Value) {s' : DS} (ok : Ok s') (hb : Blk (w.setCells g o vs) g 57 cs') (hc : Cells cs' s' v vf) (hs : s'.all = s.all ∧ s'.fuse = s.fuse) : At' (w.setCells g o vs) base F g s' cs' v vf R fb := by
  have hfg : Fr (fun j => j = g) w (w.setCells g o vs) := Fr.setCells g vs o (Fr.refl _ w) (.inl rfl)
  refine ⟨ok, hb, hc, fun i hi => ?_, ?_, h.fg, h.fR, h.ff, h.apart, fun j hj => ⟨(h.lo j hj).1, Nat.lt_of_lt_of_le (h.lo j hj).2 hfg.size⟩⟩
  · rw [hs.1]; exact (h.row i hi).fr hfg fun j hj e => (h.fR i hi j hj).2 e
  · rw [hs.2]; exact h.fuse.fr hfg fun j hj e => (h.ff j hj).2.1 e
end
/-- A new disk. -/
def newD (c : Nat) : DS := { cap := c, all := fun _ => [], safe := fun _ => 0, sl := fun _ => List.replicate 32 0, lo := fun _ => List.replicate 32 0, wr := fun _ => false, fuse := none, dead := false }
theorem newD_ok {c : Nat} (h : c ≤ 1048576) : Ok (newD c) := ⟨h, by simp [newD], fun _ _ => Nat.le_refl _, fun _ _ => rfl, fun _ _ => rfl, fun _ _ e => by cases e⟩
def diskCells (c : Int) : Array Value := #[.bool true, .int .i64 c, .slice none 0 0, .int .i64 0, .slice none 0 0, .int .i64 0, .int .u8 0, .int .u8 0, .int .u8 0, .int .u8 0, .int .u8 0, .int .u8 0, .int .u8 0, .int .u8 0, .int .u8 0, .int .u8 0, .int .u8 0, .int .u8 0, .int .u8 0, .int .u8 0, .int .u8 0, .int .u8 0, .int .u8 0, .int .u8 0, .int .u8 0, .int .u8 0, .int .u8 0, .int .u8 0, .int .u8 0, .int .u8 0, .int .u8 0, .int .u8 0, .int .u8 0, .int .u8 0, .int .u8 0, .int .u8 0, .int .u8 0, .int .u8 0, .int .u8 0, .int .u8 0, .int .u8 0, .int .u8 0, .int .u8 0, .int .u8 0, .int .u8 0, .int .u8 0, .int .u8 0, .int .u8 0, .int .u8 0, .int .u8 0, .int .u8 0, .int .u8 0, .int .u8 0, .int .u8 0, .int .u8 0, .int .u8 0, .int .u8 0, .int .u8 0, .int .u8 0, .int .u8 0, .int .u8 0, .int .u8 0, .int .u8 0, .int .u8 0, .int .u8 0, .int .u8 0, .int .u8 0, .int .u8 0, .int .u8 0, .int .u8 0, .bool false, .int .u8 0, .int .u8 0, .int .u8 0, .int .u8 0, .int .u8 0, .int .u8 0, .int .u8 0, .int .u8 0, .int .u8 0, .int .u8 0, .int .u8 0, .int .u8 0, .int .u8 0, .int .u8 0, .int .u8 0, .int .u8 0, .int .u8 0, .int .u8 0, .int .u8 0, .int .u8 0, .int .u8 0, .int .u8 0, .int .u8 0, .int .u8 0, .int .u8 0, .int .u8 0, .int .u8 0, .int .u8 0, .int .u8 0, .int .u8 0, .int .u8 0, .int .u8 0, .int .u8 0, .int .u8 0, .int .u8 0, .int .u8 0, .int .u8 0, .int .u8 0, .int .u8 0, .int .u8 0, .int .u8 0, .int .u8 0, .int .u8 0, .int .u8 0, .int .u8 0, .int .u8 0, .int .u8 0, .int .u8 0, .int .u8 0, .int .u8 0, .int .u8 0, .int .u8 0, .int .u8 0, .int .u8 0, .int .u8 0, .int .u8 0, .int .u8 0, .int .u8 0, .int .u8 0, .int .u8 0, .int .u8 0, .int .u8 0, .int .u8 0, .int .u8 0, .bool false, .pointer none, .bool false]
set_option maxRecDepth 100000 in
theorem new_cells (c : Nat) : Cells (diskCells c) (newD c) (fun _ => .slice none 0 0) (.pointer none) where
  size := rfl
  c0 := rfl
  c1 := rfl
  seg i hi := by match i, hi with
    | 0, _ => rfl
    | 1, _ => rfl
  safe i hi := by match i, hi with
    | 0, _ => rfl
    | 1, _ => rfl
  sl i hi j hj := by
    match i, hi with
    | 0, _ => match j, hj with
      | 0, _ => rfl
      | 1, _ => rfl
      | 2, _ => rfl
      | 3, _ => rfl
      | 4, _ => rfl
      | 5, _ => rfl
      | 6, _ => rfl
      | 7, _ => rfl
      | 8, _ => rfl
      | 9, _ => rfl
      | 10, _ => rfl
      | 11, _ => rfl
      | 12, _ => rfl
      | 13, _ => rfl
      | 14, _ => rfl
      | 15, _ => rfl
      | 16, _ => rfl
      | 17, _ => rfl
      | 18, _ => rfl
      | 19, _ => rfl
      | 20, _ => rfl
      | 21, _ => rfl
      | 22, _ => rfl
      | 23, _ => rfl
      | 24, _ => rfl
      | 25, _ => rfl
      | 26, _ => rfl
      | 27, _ => rfl
      | 28, _ => rfl
      | 29, _ => rfl
      | 30, _ => rfl
      | 31, _ => rfl
      | n + 32, h => exact absurd h (by omega)
    | 1, _ => match j, hj with
      | 0, _ => rfl
      | 1, _ => rfl
      | 2, _ => rfl
      | 3, _ => rfl
      | 4, _ => rfl
      | 5, _ => rfl
      | 6, _ => rfl
      | 7, _ => rfl
      | 8, _ => rfl
      | 9, _ => rfl
      | 10, _ => rfl
      | 11, _ => rfl
      | 12, _ => rfl
      | 13, _ => rfl
      | 14, _ => rfl
      | 15, _ => rfl
      | 16, _ => rfl
      | 17, _ => rfl
      | 18, _ => rfl
      | 19, _ => rfl
      | 20, _ => rfl
      | 21, _ => rfl
      | 22, _ => rfl
      | 23, _ => rfl
      | 24, _ => rfl
      | 25, _ => rfl
      | 26, _ => rfl
      | 27, _ => rfl
      | 28, _ => rfl
      | 29, _ => rfl
      | 30, _ => rfl
      | 31, _ => rfl
      | n + 32, h => exact absurd h (by omega)
  lo i hi j hj := by
    match i, hi with
    | 0, _ => match j, hj with
      | 0, _ => rfl
      | 1, _ => rfl
      | 2, _ => rfl
      | 3, _ => rfl
      | 4, _ => rfl
      | 5, _ => rfl
      | 6, _ => rfl
      | 7, _ => rfl
      | 8, _ => rfl
      | 9, _ => rfl
      | 10, _ => rfl
      | 11, _ => rfl
      | 12, _ => rfl
      | 13, _ => rfl
      | 14, _ => rfl
      | 15, _ => rfl
      | 16, _ => rfl
      | 17, _ => rfl
      | 18, _ => rfl
      | 19, _ => rfl
      | 20, _ => rfl
      | 21, _ => rfl
      | 22, _ => rfl
      | 23, _ => rfl
      | 24, _ => rfl
      | 25, _ => rfl
      | 26, _ => rfl
      | 27, _ => rfl
      | 28, _ => rfl
      | 29, _ => rfl
      | 30, _ => rfl
      | 31, _ => rfl
      | n + 32, h => exact absurd h (by omega)
    | 1, _ => match j, hj with
      | 0, _ => rfl
      | 1, _ => rfl
      | 2, _ => rfl
      | 3, _ => rfl
      | 4, _ => rfl
      | 5, _ => rfl
      | 6, _ => rfl
      | 7, _ => rfl
      | 8, _ => rfl
      | 9, _ => rfl
      | 10, _ => rfl
      | 11, _ => rfl
      | 12, _ => rfl
      | 13, _ => rfl
      | 14, _ => rfl
      | 15, _ => rfl
      | 16, _ => rfl
      | 17, _ => rfl
      | 18, _ => rfl
      | 19, _ => rfl
      | 20, _ => rfl
      | 21, _ => rfl
      | 22, _ => rfl
      | 23, _ => rfl
      | 24, _ => rfl
      | 25, _ => rfl
      | 26, _ => rfl
      | 27, _ => rfl
      | 28, _ => rfl
      | 29, _ => rfl
      | 30, _ => rfl
      | 31, _ => rfl
      | n + 32, h => exact absurd h (by omega)
  wr i hi := by match i, hi with
    | 0, _ => rfl
    | 1, _ => rfl
  c136 := rfl
  c137 := rfl
theorem new_at (w : World) {c : Nat} (hc : c ≤ 1048576) : At (w.alloc (.cells (diskCells c) 57)) w.heap.size (fun j => j = w.heap.size) w.heap.size (newD c) :=
  ⟨diskCells c, fun _ => .slice none 0 0, .pointer none, fun _ _ => False, fun _ => False, newD_ok hc, Blk.new_ w _ _ rfl, new_cells c, fun _ _ => SegV.nil _ _, rfl, rfl, fun _ _ _ h => h.elim, fun _ h => h.elim, fun _ _ _ _ _ _ h => h.elim, fun j hj => by subst hj; simp⟩
theorem zero_disk (w : World) : (zeroValue 57).run Try.prog w = .ok (.agg #[.bool false, .int .i64 0, .slice none 0 0, .int .i64 0, .slice none 0 0, .int .i64 0, .int .u8 0, .int .u8 0, .int .u8 0, .int .u8 0, .int .u8 0, .int .u8 0, .int .u8 0, .int .u8 0, .int .u8 0, .int .u8 0, .int .u8 0, .int .u8 0, .int .u8 0, .int .u8 0, .int .u8 0, .int .u8 0, .int .u8 0, .int .u8 0, .int .u8 0, .int .u8 0, .int .u8 0, .int .u8 0, .int .u8 0, .int .u8 0, .int .u8 0, .int .u8 0, .int .u8 0, .int .u8 0, .int .u8 0, .int .u8 0, .int .u8 0, .int .u8 0, .int .u8 0, .int .u8 0, .int .u8 0, .int .u8 0, .int .u8 0, .int .u8 0, .int .u8 0, .int .u8 0, .int .u8 0, .int .u8 0, .int .u8 0, .int .u8 0, .int .u8 0, .int .u8 0, .int .u8 0, .int .u8 0, .int .u8 0, .int .u8 0, .int .u8 0, .int .u8 0, .int .u8 0, .int .u8 0, .int .u8 0, .int .u8 0, .int .u8 0, .int .u8 0, .int .u8 0, .int .u8 0, .int .u8 0, .int .u8 0, .int .u8 0, .int .u8 0, .bool false, .int .u8 0, .int .u8 0, .int .u8 0, .int .u8 0, .int .u8 0, .int .u8 0, .int .u8 0, .int .u8 0, .int .u8 0, .int .u8 0, .int .u8 0, .int .u8 0, .int .u8 0, .int .u8 0, .int .u8 0, .int .u8 0, .int .u8 0, .int .u8 0, .int .u8 0, .int .u8 0, .int .u8 0, .int .u8 0, .int .u8 0, .int .u8 0, .int .u8 0, .int .u8 0, .int .u8 0, .int .u8 0, .int .u8 0, .int .u8 0, .int .u8 0, .int .u8 0, .int .u8 0, .int .u8 0, .int .u8 0, .int .u8 0, .int .u8 0, .int .u8 0, .int .u8 0, .int .u8 0, .int .u8 0, .int .u8 0, .int .u8 0, .int .u8 0, .int .u8 0, .int .u8 0, .int .u8 0, .int .u8 0, .int .u8 0, .int .u8 0, .int .u8 0, .int .u8 0, .int .u8 0, .int .u8 0, .int .u8 0, .int .u8 0, .int .u8 0, .int .u8 0, .int .u8 0, .int .u8 0, .int .u8 0, .int .u8 0, .int .u8 0, .int .u8 0, .bool false, .pointer none, .bool false]) w := by kernel_rfl
set_option maxRecDepth 100000 in
set_option maxHeartbeats 1000000 in
theorem new_any (c : Nat) (hc : c ≤ 1048576) (w : World) : Calls Try.prog 14 #[.int .i64 c] w fun e w' => e = .returned (.tuple #[.pointer (some ⟨w.heap.size, 0, none⟩), .int .i64 0]) ∧ At w' w.heap.size (fun j => j = w.heap.size) w.heap.size (newD c) ∧ Below w.heap.size w w' := by
  have HA := Lib.hid (new_at w hc)
  have HB := Lib.hid ((Below.refl w.heap.size w).alloc (Nat.le_refl _) (.cells (diskCells c) 57))
  have hz := zero_disk
  have u1 : decide ((c : Int) < 0) = false := by simp
  have u2 : decide ((1048576 : Int) < (c : Int)) = false := by simp; omega
  go_enter Try.func14, Try.ntmps14
  go_wp2
  refine bodyPost_ret (v := .tuple #[.pointer (some ⟨w.heap.size, 0, none⟩), .int .i64 0]) (by simp [results, Try.results14, go_sem]) rfl ?_
  exact ⟨rfl, HA.out, HB.out⟩
theorem new_bad (c : Int) (hc : c < 0 ∨ 1048576 < c) (w : World) : Calls Try.prog 14 #[.int .i64 c] w fun e w' => e = .returned (.tuple #[.pointer none, .int .i64 2]) ∧ w = w' := by
  by_cases h : c < 0
  · have u1 : decide (c < 0) = true := by simpa using h
    clear hc h
    go_enter Try.func14, Try.ntmps14
    go_wp2
    refine bodyPost_ret (v := .tuple #[.pointer none, .int .i64 2]) (by simp [results, Try.results14, go_sem]) rfl ?_
    exact ⟨rfl, rfl⟩
  · have u1 : decide (c < 0) = false := by simpa using h
    have u2 : decide ((1048576 : Int) < c) = true := by simp; omega
    clear hc h
    go_enter Try.func14, Try.ntmps14
    go_wp2
    refine bodyPost_ret (v := .tuple #[.pointer none, .int .i64 2]) (by simp [results, Try.results14, go_sem]) rfl ?_
    exact ⟨rfl, rfl⟩
end Go.Proofs.Ytpohefpiidlnjaa.Dk
