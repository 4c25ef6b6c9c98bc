/-
  Rows of bytes, rows of these, as they lie; rows that a call makes of its own.
-/
import Derived.Test.YtnclbonoenjbeaaRecLow
import Derived.Test.YtnclbonoenjbeaaBatPlain
namespace Go.Proofs.Ytnclbonoenjbeaa.BatW
set_option linter.unusedVariables false
open Go.RowKit Go.Proofs Go.Proofs.Ytnclbonoenjbeaa Go.Proofs.Ytnclbonoenjbeaa.Wd Go.Proofs.Ytnclbonoenjbeaa.RecW
open Go.Proofs.Ytnclbonoenjbeaa.Rec (R)
open Go.Proofs.Ytnclbonoenjbeaa.Bat (B)

/-- A value that reads as bytes. -/
def SB (w : World) (k : Nat) (v : Value) (d : List UInt8) : Prop := ∃ A c, v = .slice A d.length c ∧ d.length ≤ c ∧ c ≤ maxLen ∧ Bytes w k A d
/-- Rows of bytes. -/
def BRows (w : World) (k : Nat) (A : Option Addr) (ls : B) : Prop :=
  ∀ j (h : j < ls.length), ∃ b off v, A = some ⟨b, off, none⟩ ∧ b < k ∧ w.cell? ⟨b, off + j, none⟩ = some v ∧ SB w k v ls[j]
/-- A value that reads as rows. -/
def SR (w : World) (k : Nat) (v : Value) (ls : B) : Prop := ∃ A c, v = .slice A ls.length c ∧ ls.length ≤ c ∧ c ≤ maxLen ∧ BRows w k A ls
/-- Rows of rows. -/
def BRows3 (w : World) (k : Nat) (A : Option Addr) (ls : List B) : Prop :=
  ∀ j (h : j < ls.length), ∃ b off v, A = some ⟨b, off, none⟩ ∧ b < k ∧ w.cell? ⟨b, off + j, none⟩ = some v ∧ SR w k v ls[j]
section
variable {w w' : World} {k k' : Nat} {v : Value} {A : Option Addr} {d : List UInt8} {ls : B} {ll : List B}
theorem SB.below (h : SB w k v d) (hb : Below k w w') : SB w' k v d := by obtain ⟨A, c, e, h1, h2, h3⟩ := h; exact ⟨A, c, e, h1, h2, Row.below h3 hb⟩
theorem SB.more (h : SB w k v d) (hk : k ≤ k') : SB w k' v d := by obtain ⟨A, c, e, h1, h2, h3⟩ := h; exact ⟨A, c, e, h1, h2, Row.more h3 hk⟩
theorem SB.one (h : SB w k v d) : v.oneCell' = true := by obtain ⟨A, c, rfl, _⟩ := h; rfl
theorem BRows.below (h : BRows w k A ls) (hb : Below k w w') : BRows w' k A ls := fun j hj => by
  obtain ⟨b, off, v, e, hb1, hc, hv⟩ := h j hj
  exact ⟨b, off, v, e, hb1, (hb.cell (p := ⟨b, _, none⟩) hb1).trans hc, hv.below hb⟩
theorem BRows.more (h : BRows w k A ls) (hk : k ≤ k') : BRows w k' A ls := fun j hj => by
  obtain ⟨b, off, v, e, hb1, hc, hv⟩ := h j hj
  exact ⟨b, off, v, e, by omega, hc, hv.more hk⟩
theorem BRows.grow (h : BRows w w.heap.size A ls) (hb : Below w.heap.size w w') : BRows w' w'.heap.size A ls := (h.below hb).more hb.size
theorem BRows.nil : BRows w k A [] := fun j hj => absurd hj (Nat.not_lt_zero _)
theorem BRows.take (h : BRows w k A ls) (m : Nat) : BRows w k A (ls.take m) := fun j hj => by
  have hj' : j < ls.length := by simp at hj; omega
  obtain ⟨b, off, v, e, hb1, hc, hv⟩ := h j hj'
  exact ⟨b, off, v, e, hb1, hc, by rw [List.getElem_take]; exact hv⟩
theorem SR.below (h : SR w k v ls) (hb : Below k w w') : SR w' k v ls := by obtain ⟨A, c, e, h1, h2, h3⟩ := h; exact ⟨A, c, e, h1, h2, h3.below hb⟩
theorem SR.more (h : SR w k v ls) (hk : k ≤ k') : SR w k' v ls := by obtain ⟨A, c, e, h1, h2, h3⟩ := h; exact ⟨A, c, e, h1, h2, h3.more hk⟩
theorem SR.one (h : SR w k v ls) : v.oneCell' = true := by obtain ⟨A, c, rfl, _⟩ := h; rfl
theorem BRows3.below (h : BRows3 w k A ll) (hb : Below k w w') : BRows3 w' k A ll := fun j hj => by
  obtain ⟨b, off, v, e, hb1, hc, hv⟩ := h j hj
  exact ⟨b, off, v, e, hb1, (hb.cell (p := ⟨b, _, none⟩) hb1).trans hc, hv.below hb⟩
theorem BRows3.more (h : BRows3 w k A ll) (hk : k ≤ k') : BRows3 w k' A ll := fun j hj => by
  obtain ⟨b, off, v, e, hb1, hc, hv⟩ := h j hj
  exact ⟨b, off, v, e, by omega, hc, hv.more hk⟩
theorem BRows3.grow (h : BRows3 w w.heap.size A ll) (hb : Below w.heap.size w w') : BRows3 w' w'.heap.size A ll := (h.below hb).more hb.size
theorem BRows3.nil : BRows3 w k A [] := fun j hj => absurd hj (Nat.not_lt_zero _)
theorem BRows3.take (h : BRows3 w k A ll) (m : Nat) : BRows3 w k A (ll.take m) := fun j hj => by
  have hj' : j < ll.length := by simp at hj; omega
  obtain ⟨b, off, v, e, hb1, hc, hv⟩ := h j hj'
  exact ⟨b, off, v, e, hb1, hc, by rw [List.getElem_take]; exact hv⟩
theorem BRows.lt (h : BRows w k A ls) {m : Nat} (hm : m < ls.length) : ∃ b off v A' c, A = some ⟨b, off, none⟩ ∧ b < k ∧ w.cell? ⟨b, off + m, none⟩ = some v ∧ v = .slice A' ls[m].length c ∧ ls[m].length ≤ c ∧ c ≤ maxLen ∧ Bytes w k A' ls[m] := by
  obtain ⟨b, off, v, e, hb1, hc, A', c, h1, h2, h3, h4⟩ := h m hm
  exact ⟨b, off, v, A', c, e, hb1, hc, h1, h2, h3, h4⟩
/-- A row of values that all read as bytes. -/
def Reads (w : World) (k : Nat) (xs : List Value) (ls : B) : Prop := xs.length = ls.length ∧ ∀ j (h : j < ls.length), ∃ v, xs[j]? = some v ∧ SB w k v ls[j]
theorem BRows.of_row {xs : List Value} (hr : Row w k A xs) (h : Reads w k xs ls) : BRows w k A ls := fun j hj => by
  obtain ⟨v, h1, h2⟩ := h.2 j hj
  have hl := h.1
  obtain ⟨b, off, e, hb, hc⟩ := hr j (by omega)
  refine ⟨b, off, v, e, hb, ?_, h2⟩
  rw [hc, ← h1, List.getElem?_eq_getElem]
theorem BRows.reads (h : BRows w k A ls) : ∃ xs, Row w k A xs ∧ Reads w k xs ls ∧ ∀ u ∈ xs, u.oneCell' = true := by
  have ex : ∀ j, ∃ v, (hj : j < ls.length) → (∃ b off, A = some ⟨b, off, none⟩ ∧ b < k ∧ w.cell? ⟨b, off + j, none⟩ = some v) ∧ SB w k v ls[j] := fun j => by
    by_cases hj : j < ls.length
    · obtain ⟨b, off, v, e, hb1, hc, hv⟩ := h j hj
      exact ⟨v, fun _ => ⟨⟨b, off, e, hb1, hc⟩, hv⟩⟩
    · exact ⟨undef, fun h => absurd h hj⟩
  refine ⟨(List.range ls.length).map fun j => (ex j).choose, fun j hj => ?_, ⟨by simp, fun j hj => ?_⟩, fun u hu => ?_⟩
  · have hj' : j < ls.length := by simpa using hj
    obtain ⟨⟨b, off, e, hb, hc⟩, _⟩ := (ex j).choose_spec hj'
    exact ⟨b, off, e, hb, by simpa using hc⟩
  · exact ⟨(ex j).choose, by simp [hj], ((ex j).choose_spec hj).2⟩
  · obtain ⟨j, hj, rfl⟩ := List.mem_map.1 hu
    exact ((ex j).choose_spec (List.mem_range.1 hj)).2.one
theorem Reads.nil : Reads w k [] [] := ⟨rfl, fun j hj => absurd hj (Nat.not_lt_zero _)⟩
theorem Reads.append {xs ys : List Value} {l m : B} (h : Reads w k xs l) (h' : Reads w k ys m) : Reads w k (xs ++ ys) (l ++ m) := by
  have hl := h.1
  have hm := h'.1
  refine ⟨by simp [hl, hm], fun j hj => ?_⟩
  by_cases hlt : j < l.length
  · obtain ⟨v, h1, h2⟩ := h.2 j hlt
    exact ⟨v, by rw [List.getElem?_append_left (by omega)]; exact h1, by rw [List.getElem_append_left hlt]; exact h2⟩
  · obtain ⟨v, h1, h2⟩ := h'.2 (j - l.length) (by simp at hj; omega)
    exact ⟨v, by rw [List.getElem?_append_right (by omega), hl]; exact h1, by rw [List.getElem_append_right (by omega)]; exact h2⟩
theorem Reads.one {d : List UInt8} (h : SB w k v d) : Reads w k [v] [d] := ⟨rfl, fun j hj => by
  have : j = 0 := by simpa using hj
  subst this
  exact ⟨v, rfl, h⟩⟩
theorem Reads.below {xs : List Value} (h : Reads w k xs ls) (hb : Below k w w') : Reads w' k xs ls := ⟨h.1, fun j hj => by obtain ⟨v, h1, h2⟩ := h.2 j hj; exact ⟨v, h1, h2.below hb⟩⟩
theorem Reads.more {xs : List Value} (h : Reads w k xs ls) (hk : k ≤ k') : Reads w k' xs ls := ⟨h.1, fun j hj => by obtain ⟨v, h1, h2⟩ := h.2 j hj; exact ⟨v, h1, h2.more hk⟩⟩
/-- A row of values that all read as rows. -/
def Reads3 (w : World) (k : Nat) (xs : List Value) (ll : List B) : Prop := xs.length = ll.length ∧ ∀ j (h : j < ll.length), ∃ v, xs[j]? = some v ∧ SR w k v ll[j]
theorem BRows3.of_row {xs : List Value} (hr : Row w k A xs) (h : Reads3 w k xs ll) : BRows3 w k A ll := fun j hj => by
  obtain ⟨v, h1, h2⟩ := h.2 j hj
  have hl := h.1
  obtain ⟨b, off, e, hb, hc⟩ := hr j (by omega)
  refine ⟨b, off, v, e, hb, ?_, h2⟩
  rw [hc, ← h1, List.getElem?_eq_getElem]
theorem BRows3.reads (h : BRows3 w k A ll) : ∃ xs, Row w k A xs ∧ Reads3 w k xs ll ∧ ∀ u ∈ xs, u.oneCell' = true := by
  have ex : ∀ j, ∃ v, (hj : j < ll.length) → (∃ b off, A = some ⟨b, off, none⟩ ∧ b < k ∧ w.cell? ⟨b, off + j, none⟩ = some v) ∧ SR w k v ll[j] := fun j => by
    by_cases hj : j < ll.length
    · obtain ⟨b, off, v, e, hb1, hc, hv⟩ := h j hj
      exact ⟨v, fun _ => ⟨⟨b, off, e, hb1, hc⟩, hv⟩⟩
    · exact ⟨undef, fun h => absurd h hj⟩
  refine ⟨(List.range ll.length).map fun j => (ex j).choose, fun j hj => ?_, ⟨by simp, fun j hj => ?_⟩, fun u hu => ?_⟩
  · have hj' : j < ll.length := by simpa using hj
    obtain ⟨⟨b, off, e, hb, hc⟩, _⟩ := (ex j).choose_spec hj'
    exact ⟨b, off, e, hb, by simpa using hc⟩
  · exact ⟨(ex j).choose, by simp [hj], ((ex j).choose_spec hj).2⟩
  · obtain ⟨j, hj, rfl⟩ := List.mem_map.1 hu
    exact ((ex j).choose_spec (List.mem_range.1 hj)).2.one
theorem Reads3.append {xs ys : List Value} {l m : List B} (h : Reads3 w k xs l) (h' : Reads3 w k ys m) : Reads3 w k (xs ++ ys) (l ++ m) := by
  have hl := h.1
  have hm := h'.1
  refine ⟨by simp [hl, hm], fun j hj => ?_⟩
  by_cases hlt : j < l.length
  · obtain ⟨v, h1, h2⟩ := h.2 j hlt
    exact ⟨v, by rw [List.getElem?_append_left (by omega)]; exact h1, by rw [List.getElem_append_left hlt]; exact h2⟩
  · obtain ⟨v, h1, h2⟩ := h'.2 (j - l.length) (by simp at hj; omega)
    exact ⟨v, by rw [List.getElem?_append_right (by omega), hl]; exact h1, by rw [List.getElem_append_right (by omega)]; exact h2⟩
theorem Reads3.one {d : B} (h : SR w k v d) : Reads3 w k [v] [d] := ⟨rfl, fun j hj => by
  have : j = 0 := by simpa using hj
  subst this
  exact ⟨v, rfl, h⟩⟩
theorem Reads3.nil : Reads3 w k [] [] := ⟨rfl, fun j hj => absurd hj (Nat.not_lt_zero _)⟩
theorem Reads3.below {xs : List Value} (h : Reads3 w k xs ll) (hb : Below k w w') : Reads3 w' k xs ll := ⟨h.1, fun j hj => by obtain ⟨v, h1, h2⟩ := h.2 j hj; exact ⟨v, h1, h2.below hb⟩⟩
theorem Reads3.more {xs : List Value} (h : Reads3 w k xs ll) (hk : k ≤ k') : Reads3 w k' xs ll := ⟨h.1, fun j hj => by obtain ⟨v, h1, h2⟩ := h.2 j hj; exact ⟨v, h1, h2.more hk⟩⟩
end
theorem SB.of_own {w : World} {base : Nat} {e : TypeId} {v : Value} {n : Nat} {d : List UInt8} (h : w.ownsRow base e 1 v n (bs d)) : SB w w.heap.size v d := by
  obtain ⟨A, c, rfl, hc, rfl, hb⟩ := own_bytes h
  have : c ≤ maxLen := by
    rcases h.2 with ⟨h, _⟩ | ⟨g, cap, cur, h, _, _, _, h8, _⟩
    · simp only [Value.slice.injEq] at h; have := h.2.2; subst this; simp [maxLen]
    · simp only [Value.slice.injEq] at h; have := h.2.2; omega
  exact ⟨A, c, rfl, hc, this, hb⟩

theorem own_oneT {w : World} {base : Nat} {e : TypeId} {size n : Nat} {v : Value} {xs : List Value} (h : w.ownsRow base e size v n xs) : v.oneCell' = true := by
  rcases h.2 with ⟨rfl, _⟩ | ⟨g', cap, cur, rfl, hb, _⟩ <;> rfl
theorem own_belowT {B : Nat} {e : TypeId} {k : Nat} {v : Value} {n : Nat} {xs : List Value} {w w' : World} (h : w.ownsRow B e k v n xs) (hb : Below w.heap.size w w') : w'.ownsRow B e k v n xs := by
  obtain ⟨h1, h2⟩ := h
  refine ⟨h1, ?_⟩
  rcases h2 with h2 | ⟨g, cap, cur, hv, hg, hh, r⟩
  · exact .inl h2
  · exact .inr ⟨g, cap, cur, hv, hg, (hb.block g (Array.getElem?_eq_some_iff.1 hh).1).trans hh, r⟩
/-- Blocks of a type, that nothing froze, but for one, lie as they lay. -/
def KeepT (t : TypeId) (row : Option Nat) (w w' : World) : Prop := ∀ (g : Nat) (cs : Array Value), some g ≠ row → w.heap[g]? = some (.cells cs t (0, 0)) → w'.heap[g]? = some (.cells cs t (0, 0))
section
variable {t : TypeId} {row : Option Nat} {w w' w'' : World}
theorem KeepT.refl (t : TypeId) (row : Option Nat) (w : World) : KeepT t row w w := fun _ _ _ h => h
theorem KeepT.trans (h : KeepT t row w w') (h' : KeepT t row w' w'') : KeepT t row w w'' := fun g cs hg h1 => h' g cs hg (h g cs hg h1)
theorem KeepT.below (h : Below w.heap.size w w') : KeepT t row w w' := fun g _ _ hg => (h.block g (Array.getElem?_eq_some_iff.1 hg).1).trans hg
theorem KeepT.alloc (w : World) (o : Obj) : KeepT t row w (w.alloc o) := fun g _ _ hg => (Below.heap_alloc w o g (Array.getElem?_eq_some_iff.1 hg).1).trans hg
theorem KeepT.set_ {g : Nat} {t' : TypeId} {cs : Array Value} (h : Blk w g t' cs) (ht : t' ≠ t) (i : Nat) (u : Value) : KeepT t row w (w.setCell ⟨g, i, none⟩ u) := fun k cs' _ hk => by
  have hne : k ≠ g := fun e => by subst e; exact Blk.ne_ h (cs' := cs') hk ht rfl
  exact (heap_setCell_other w _ k u hne).trans hk
theorem KeepT.grown (h : w.grownBy w' row) : KeepT t row w w' := fun k cs' hr hk => (h.block k (Array.getElem?_eq_some_iff.1 hk).1 hr).trans hk
theorem KeepT.grownOther {row' : Option Nat} (h : w.grownBy w' row) (hr : ∀ g, row = some g → ∃ t' cs, Blk w g t' cs ∧ t' ≠ t) : KeepT t row' w w' := fun k cs' _ hk => by
  refine (h.block k (Array.getElem?_eq_some_iff.1 hk).1 (fun e => ?_)).trans hk
  obtain ⟨t', cs, hg, ht⟩ := hr k e.symm
  exact Blk.ne_ (t := t') (t' := t) hg hk ht rfl
theorem own_T {B n : Nat} {v : Value} {xs : List Value} (h : w.ownsRow B t 1 v n xs) (hk : KeepT t row w w') (hr : ∀ g, v.ownBlock = some g → some g ≠ row) : w'.ownsRow B t 1 v n xs := by
  obtain ⟨h1, h2⟩ := h
  refine ⟨h1, ?_⟩
  rcases h2 with h2 | ⟨g, cap, cur, hv, hg, hh, r⟩
  · exact .inl h2
  · exact .inr ⟨g, cap, cur, hv, hg, hk g cur (hr g (by subst hv; rfl)) hh, r⟩
end
/-- A row of slices of bytes of the call's own. -/
def RowsAt (w : World) (k : Nat) (xs : List Value) (ls : B) : Prop := xs.length = ls.length ∧ ∀ j (h : j < ls.length), ∃ v, xs[j]? = some v ∧ w.ownsRow k 5 1 v ls[j].length (bs ls[j])
def Kept (w : World) (k : Nat) (v : Value) (ls : B) : Prop := ∃ xs, w.ownsRow k 24 1 v ls.length xs ∧ RowsAt w k xs ls
def Outs (w : World) (k : Nat) (v : Value) (ll : List B) (u : Value) : Prop :=
  ∃ xs, w.ownsRow k 37 1 v ll.length xs ∧ ∀ j (h : j < ll.length), ∃ v, xs[j]? = some v ∧ Kept w k v ll[j] ∧ ∀ g, v.ownBlock = some g → u.ownBlock ≠ some g
section
variable {w w' : World} {k : Nat} {v u : Value} {xs : List Value} {ls : B} {ll : List B}
theorem RowsAt.nil (w : World) (k : Nat) : RowsAt w k [] [] := ⟨rfl, fun j hj => absurd hj (Nat.not_lt_zero _)⟩
theorem RowsAt.keep (h : RowsAt w k xs ls) (hk : KeepT 5 none w w') : RowsAt w' k xs ls :=
  ⟨h.1, fun j hj => by obtain ⟨v, h1, h2⟩ := h.2 j hj; exact ⟨v, h1, own_T h2 hk (fun g _ => by simp)⟩⟩
theorem RowsAt.snoc {d : List UInt8} (h : RowsAt w k xs ls) (hv : w.ownsRow k 5 1 v d.length (bs d)) : RowsAt w k (xs ++ [v]) (ls ++ [d]) := by
  have hl := h.1
  refine ⟨by simp [hl], fun j hj => ?_⟩
  by_cases hlt : j < ls.length
  · obtain ⟨v, h1, h2⟩ := h.2 j hlt
    exact ⟨v, by rw [List.getElem?_append_left (by omega)]; exact h1, by rw [List.getElem_append_left hlt]; exact h2⟩
  · have : j = ls.length := by simp at hj; omega
    subst this
    exact ⟨v, by rw [List.getElem?_append_right (by omega), hl]; simp, by simpa using hv⟩
theorem Kept.nil (w : World) (k : Nat) : Kept w k (.slice none 0 0) [] := ⟨[], own_nil _ _ _, RowsAt.nil _ _⟩
theorem Kept.keep (h : Kept w k v ls) {row : Option Nat} (h1 : KeepT 5 none w w') (h2 : KeepT 24 row w w') (hr : ∀ g, v.ownBlock = some g → some g ≠ row) : Kept w' k v ls := by
  obtain ⟨xs, ho, hx⟩ := h
  exact ⟨xs, own_T ho h2 hr, hx.keep h1⟩
theorem Kept.below (h : Kept w k v ls) (hb : Below w.heap.size w w') : Kept w' k v ls := h.keep (row := none) (KeepT.below hb) (KeepT.below hb) (fun _ _ => by simp)
theorem Kept.reads (h : Kept w k v ls) : SR w w.heap.size v ls := by
  obtain ⟨xs, ho, hx⟩ := h
  obtain ⟨A, c, rfl, hr⟩ := own_slice ho
  have hc : ls.length ≤ c ∧ c ≤ maxLen := by
    rcases ho.2 with ⟨h, h0⟩ | ⟨g, cap, cur, h, _, _, h7, h8, _⟩
    · simp only [Value.slice.injEq] at h; have := h.2; have := this.2; subst this; simp [maxLen]; have := h.2.1; exact List.eq_nil_of_length_eq_zero this
    · simp only [Value.slice.injEq] at h; have := h.2.2; omega
  exact ⟨A, c, rfl, hc.1, hc.2, BRows.of_row hr ⟨hx.1, fun j hj => by obtain ⟨v, h1, h2⟩ := hx.2 j hj; exact ⟨v, h1, SB.of_own h2⟩⟩⟩
theorem Outs.nil (w : World) (k : Nat) (u : Value) : Outs w k (.slice none 0 0) [] u := ⟨[], own_nil _ _ _, fun j hj => absurd hj (Nat.not_lt_zero _)⟩
theorem Outs.keep (h : Outs w k v ll u) (h1 : KeepT 5 none w w') (h2 : KeepT 24 u.ownBlock w w') (h3 : KeepT 37 none w w') : Outs w' k v ll u := by
  obtain ⟨xs, ho, hx⟩ := h
  exact ⟨xs, own_T ho h3 (fun _ _ => by simp), fun j hj => by obtain ⟨v, e, hv, hu⟩ := hx j hj; exact ⟨v, e, hv.keep h1 h2 (fun g hg e => hu g hg e.symm), hu⟩⟩
theorem Outs.below (h : Outs w k v ll u) (hb : Below w.heap.size w w') : Outs w' k v ll u := h.keep (KeepT.below hb) (KeepT.below hb) (KeepT.below hb)
/-- What is kept is another block. -/
theorem Kept.lt (h : Kept w k v ls) {g : Nat} (hg : v.ownBlock = some g) : k ≤ g ∧ ∃ cs, Blk w g 24 cs := by obtain ⟨xs, ho, _⟩ := h; exact own_row ho hg
theorem Outs.lt (h : Outs w k v ll u) {g : Nat} (hg : v.ownBlock = some g) : k ≤ g ∧ ∃ cs, Blk w g 37 cs := by obtain ⟨xs, ho, _⟩ := h; exact own_row ho hg
theorem Outs.turn (h : Outs w k v ll u) {u' : Value} (hu : u'.ownBlock = u.ownBlock ∨ u'.ownBlock = none ∨ ∃ g, u'.ownBlock = some g ∧ w.heap.size ≤ g) : Outs w k v ll u' := by
  obtain ⟨xs, ho, hx⟩ := h
  refine ⟨xs, ho, fun j hj => ?_⟩
  obtain ⟨v, e, hv, h1⟩ := hx j hj
  refine ⟨v, e, hv, fun g hg => ?_⟩
  rcases hu with h2 | h2 | ⟨g', h2, h3⟩
  · rw [h2]; exact h1 g hg
  · rw [h2]; simp
  · rw [h2]; intro e
    obtain ⟨_, cs, hb⟩ := hv.lt hg
    have := hb.lt
    injection e with e; omega
theorem Outs.grow (h : Outs w k v ll u) (h1 : KeepT 5 none w w') (h2 : KeepT 24 u.ownBlock w w') (h3 : KeepT 37 none w w') {u' : Value} (hu : u'.ownBlock = u.ownBlock ∨ u'.ownBlock = none ∨ ∃ g, u'.ownBlock = some g ∧ w.heap.size ≤ g) : Outs w' k v ll u' := by
  obtain ⟨ys, hy, hyx⟩ := h
  refine ⟨ys, own_T hy h3 (fun _ _ => by simp), fun j hj => ?_⟩
  obtain ⟨v, e, hv, hne⟩ := hyx j hj
  refine ⟨v, e, hv.keep h1 h2 (fun g hg e => hne g hg e.symm), fun g hg => ?_⟩
  rcases hu with h4 | h4 | ⟨g', h4, h5⟩
  · rw [h4]; exact hne g hg
  · rw [h4]; simp
  · rw [h4]; intro e
    obtain ⟨_, cs, hb⟩ := hv.lt hg
    have := hb.lt
    injection e with e; omega
theorem Outs.out (h : Outs w k v ll u) : ∃ A c, v = .slice A ll.length c ∧ ll.length ≤ c ∧ c ≤ maxLen ∧ BRows3 w w.heap.size A ll := by
  obtain ⟨xs, ho, hx⟩ := h
  have hl := ho.1
  rw [Nat.mul_one] at hl
  obtain ⟨A, c, rfl, hr⟩ := own_slice ho
  have hc : ll.length ≤ c ∧ c ≤ maxLen := by
    rcases ho.2 with ⟨h, h0⟩ | ⟨g, cap, cur, h, _, _, h7, h8, _⟩
    · simp only [Value.slice.injEq] at h; have := h.2; have := this.2; subst this; simp [maxLen]; have := h.2.1; exact List.eq_nil_of_length_eq_zero this
    · simp only [Value.slice.injEq] at h; have := h.2.2; omega
  exact ⟨A, c, rfl, hc.1, hc.2, BRows3.of_row hr ⟨hl, fun j hj => by obtain ⟨v, h1, h2, _⟩ := hx j hj; exact ⟨v, h1, h2.reads⟩⟩⟩
end
end Go.Proofs.Ytnclbonoenjbeaa.BatW
