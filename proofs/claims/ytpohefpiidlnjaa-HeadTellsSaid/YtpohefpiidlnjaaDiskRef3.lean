/-
  A call of the document's disk, under way; the walk of Append.
-/
import Derived.Test.YtpohefpiidlnjaaDiskRef2
namespace Go.Proofs.Ytpohefpiidlnjaa.Dr
set_option linter.unusedVariables false
open Go Go.RowKit Go.Proofs Go.Proofs.Ytpohefpiidlnjaa Go.Proofs.Ytpohefpiidlnjaa.Wd
open Go.Proofs.Ytpohefpiidlnjaa.Dk (DS upd upd_eq upd_ne Fresh rd hd free own_empty Ok among_yes putD appD after died fused)
theorem rcells_one (s : DS) (v : Nat → Sl) (cl k : Int) : ∀ u ∈ (rcells s v cl k).toList, u.oneCell' = true := by
  intro u hu
  simp only [rcells, List.mem_cons, List.not_mem_nil, or_false] at hu
  rcases hu with rfl | rfl | rfl | rfl | rfl | rfl | rfl | rfl | rfl | rfl | rfl | rfl | rfl <;> rfl
theorem rx_size {X : Array Value} {s : DS} {v : Nat → Sl} {cl k : Int} (h : X = rcells s v cl k) : X.size = 13 := by rw [h]; rfl
theorem rx_one {X : Array Value} {s : DS} {v : Nat → Sl} {cl k : Int} (h : X = rcells s v cl k) : ∀ u ∈ X.toList, u.oneCell' = true := by rw [h]; exact rcells_one s v cl k
theorem RV.kills {w : World} {F : Nat → Prop} {s : DS} {v : Nat → Sl} {cl cl2 k : Int} (h : RV w F s v cl k) (fu : ∀ a b, (killed s).fuse = some (a, b) → cl2 = a ∧ k = b) : RV w F (killed s) v cl2 k := by
  obtain ⟨e1, e2, e3, e4, e5, e6⟩ := killed_all s
  exact ⟨by rw [e1, e2]; exact h.a0, by rw [e1, e2]; exact h.b0, by rw [e1, e2]; exact h.a1, by rw [e1, e2]; exact h.b1, by rw [e3]; exact h.c0, by rw [e4, e5]; exact h.d0, by rw [e3]; exact h.c1, by rw [e4, e5]; exact h.d1, fu⟩
theorem killed_ok {s : DS} (h : Ok s) : Ok (killed s) := by
  have hk := killed_all s
  obtain ⟨e1, e2, e3, e4, e5, e6⟩ := hk
  refine ⟨by rw [e6]; exact h.cap, by rw [e1, e6]; exact h.room, by rw [e1, e2]; exact h.safe, by rw [e3]; exact h.sl, by rw [e4]; exact h.lo, fun a p e => ?_⟩
  unfold killed at e
  rcases hs : s.fuse with _ | ⟨_ | c, q⟩
  · rw [hs] at e
    have e' : s.fuse = some (a, p) := e
    exact h.fuse a p e'
  · rw [hs] at e
    have e' : s.fuse = some (a, p) := e
    exact h.fuse a p e'
  · rw [hs] at e
    have e' : some (c, q) = some (a, p) := e
    cases e'
    have := h.fuse _ _ hs
    omega
theorem kpart_le {s : DS} (h : Ok s) : kpart s ≤ 9223372036854775807 := by
  unfold kpart
  rcases hs : s.fuse with _ | ⟨c, p⟩
  · simp
  · exact (h.fuse c p hs).2
theorem kpart_eq {s : DS} {cl k : Int} (fu : ∀ a b, s.fuse = some (a, b) → cl = a ∧ k = b) (hk : kb s = true) : k = (kpart s : Nat) := by
  unfold kb at hk
  unfold kpart
  rcases hs : s.fuse with _ | ⟨_ | c, p⟩
  · rw [hs] at hk; cases hk
  · exact (fu 0 p hs).2
  · rw [hs] at hk; cases hk
theorem below_row {B : Nat} {w W : World} (h : Below B w W) {g : Nat} (hg : B ≤ g) (cs : Array Value) : Below B w (W.setRow g cs) := ⟨h.os, h.tape, h.output, by simpa using h.size, fun k hk => (setRow_other W g k cs (by omega)).trans (h.block k hk)⟩
/-- A call's two boxes: the argument's, and the answer's. -/
def Two (F : Nat → Prop) (b : Nat) : Nat → Prop := fun j => F j ∨ j = b ∨ j = b + 1
/-- A call of the document's disk, under way: its boxes, and what the struct reads as. -/
structure ST (F : Nat → Prop) (w w1 : World) (X : Array Value) (t : DS) (v : Nat → Sl) (cl k : Int) : Prop where
  box : Blk w1 w.heap.size 69 X
  res : Blk w1 (w.heap.size + 1) 69 #[.int .i64 0, .slice none 0 0, .slice none 0 0, .slice none 0 0, .slice none 0 0, .slice none 0 0, .slice none 0 0, .slice none 0 0, .slice none 0 0, .bool false, .int .i64 0, .int .i64 0, .bool false]
  low : Below w.heap.size w w1
  rv : RV w1 (Two F w.heap.size) t v cl k
  lt : ∀ j, Two F w.heap.size j → j < w1.heap.size
section
variable {w w1 w2 : World} {F : Nat → Prop} {X : Array Value} {t : DS} {v : Nat → Sl} {cl k : Int}
theorem ST.start {s : DS} (h : RV w F s v cl k) (hF : ∀ j, F j → j < w.heap.size) (hX : X.size = 13) : ST F w ((w.alloc (.cells X 69)).alloc (.cells #[.int .i64 0, .slice none 0 0, .slice none 0 0, .slice none 0 0, .slice none 0 0, .slice none 0 0, .slice none 0 0, .slice none 0 0, .slice none 0 0, .bool false, .int .i64 0, .int .i64 0, .bool false] 69)) X s v cl k where
  box := (Blk.new_ w 69 X rfl).alloc _
  res := Blk.new_ (w.alloc (.cells X 69)) 69 #[.int .i64 0, .slice none 0 0, .slice none 0 0, .slice none 0 0, .slice none 0 0, .slice none 0 0, .slice none 0 0, .slice none 0 0, .slice none 0 0, .bool false, .int .i64 0, .int .i64 0, .bool false] (n := w.heap.size + 1) (by simp)
  low := ((Below.refl _ w).alloc (Nat.le_refl _) _).alloc (by simp) _
  rv := ((h.less (G := Two F w.heap.size) (fun j hj => by rcases hj with h | rfl | rfl; exact .inl h; exact .inr (Nat.le_refl _); exact .inr (by omega))).below ((Below.refl _ w).alloc (Nat.le_refl _) _)).below ((Below.refl _ _).alloc (Nat.le_refl _) _)
  lt j hj := by
    simp only [World.size_alloc]
    rcases hj with hj | rfl | rfl
    · have := hF j hj; omega
    · omega
    · omega
theorem ST.below (h : ST F w w1 X t v cl k) (hb : Below w1.heap.size w1 w2) : ST F w w2 X t v cl k :=
  ⟨h.box.below hb h.box.lt, h.res.below hb h.res.lt, h.low.trans (hb.mono h.low.size), h.rv.below hb, fun j hj => Nat.lt_of_lt_of_le (h.lt j hj) hb.size⟩
theorem ST.drew (h : ST F w w1 X t v cl k) : ST F w w1.drew X t v cl k := h.below ((Below.refl _ w1).drew)
theorem ST.put (h : ST F w w1 X t v cl k) (X2 : Array Value) : ST F w (w1.setRow w.heap.size X2) X2 t v cl k := by
  have hf : Fr (fun j => j = w.heap.size) w1 (w1.setRow w.heap.size X2) := ⟨rfl, rfl, rfl, by simp, fun j hj hne => setRow_other w1 _ j _ hne⟩
  exact ⟨h.box.row X2, h.res.rowFar (Nat.succ_ne_self _) X2, below_row h.low (Nat.le_refl _) X2, h.rv.fr hf (fun j hj => .inl (.inr (.inl hj))), fun j hj => by simpa using h.lt j hj⟩
theorem ST.cell (h : ST F w w1 X t v cl k) (i : Nat) (u : Value) : ST F w (w1.setCell ⟨w.heap.size, i, none⟩ u) (X.setIfInBounds i u) t v cl k := by
  have hf : Fr (fun j => j = w.heap.size) w1 (w1.setCell ⟨w.heap.size, i, none⟩ u) := Fr.setCell (F := fun j => j = w.heap.size) (p := ⟨w.heap.size, i, none⟩) (Fr.refl _ _) (.inl rfl) u
  exact ⟨h.box.set_ i u, h.res.far (p := ⟨w.heap.size, i, none⟩) (Nat.succ_ne_self _) u, h.low.setCell (p := ⟨w.heap.size, i, none⟩) (Nat.le_refl _) u, h.rv.fr hf (fun j hj => .inl (.inr (.inl hj))), fun j hj => by simpa using h.lt j hj⟩
theorem ST.re {t' : DS} {v' : Nat → Sl} {cl' k' : Int} (h : ST F w w1 X t v cl k) (hr : RV w1 (Two F w.heap.size) t' v' cl' k') : ST F w w1 X t' v' cl' k' := ⟨h.box, h.res, h.low, hr, h.lt⟩
theorem ST.kills {cl2 : Int} (h : ST F w w1 X t v cl k) (fu : ∀ a b, (killed t).fuse = some (a, b) → cl2 = a ∧ k = b) : ST F w w1 X (killed t) v cl2 k := h.re (h.rv.kills fu)
theorem ST.out (h : ST F w w1 X t v cl k) (hX : X = rcells t v cl k) (c : Nat) : Turned F (c, t) w (.returned (.tuple #[.agg X, .int .i64 (c : Nat)])) (w1.setRow (w.heap.size + 1) X) := by
  have hf : Fr (fun j => j = w.heap.size + 1) w1 (w1.setRow (w.heap.size + 1) X) := ⟨rfl, rfl, rfl, by simp, fun j hj hne => setRow_other w1 _ j _ hne⟩
  exact ⟨⟨v, cl, k, by rw [hX]; rfl, (h.rv.fr hf (fun j hj => .inl (.inr (.inr hj)))).less fun j hj => .inl (.inl hj)⟩, below_row h.low (Nat.le_succ _) _⟩
theorem ST.out1 (h : ST F w w1 X t v cl k) (hX : X = rcells t v cl k) : Turned1 F t w (.returned (.agg X)) (w1.setRow (w.heap.size + 1) X) := by
  have hf : Fr (fun j => j = w.heap.size + 1) w1 (w1.setRow (w.heap.size + 1) X) := ⟨rfl, rfl, rfl, by simp, fun j hj hne => setRow_other w1 _ j _ hne⟩
  exact ⟨⟨v, cl, k, by rw [hX]; rfl, (h.rv.fr hf (fun j hj => .inl (.inr (.inr hj)))).less fun j hj => .inl (.inl hj)⟩, below_row h.low (Nat.le_succ _) _⟩
/-- A slice of the call's own, made behind the boxes. -/
theorem ST.own {n c : Nat} {A : Option Addr} {l : List UInt8} (h : ST F w w1 X t v cl k) (hb : Below w1.heap.size w1 w2) (ho : w2.ownsRow w1.heap.size 5 1 (.slice A n c) n (bs l)) : Ref w2 (Two F w.heap.size) (A, n, c) l := Ref.of_own ho (fun j hj => h.lt j hj)
end
theorem RV.puts0 {w : World} {F : Nat → Prop} {s : DS} {v : Nat → Sl} {cl k : Int} (h : RV w F s v cl k) (hs : s.safe 0 ≤ (s.all 0).length) {b : List UInt8} {q : Nat} {x : Sl} (hx : Ref w F x ((s.all 0).drop (s.safe 0) ++ b.take q)) : RV w F (putD 0 b q s) (upd v 2 x) cl k :=
  ⟨by show Ref w F (v 1) ((s.all 0 ++ b.take q).take (s.safe 0)); rw [List.take_append_of_le_length hs]; exact h.a0, by show Ref w F x ((s.all 0 ++ b.take q).drop (s.safe 0)); rw [List.drop_append_of_le_length hs]; exact hx, h.a1, h.b1, h.c0, h.d0, h.c1, h.d1, h.fu⟩
theorem RV.puts1 {w : World} {F : Nat → Prop} {s : DS} {v : Nat → Sl} {cl k : Int} (h : RV w F s v cl k) (hs : s.safe 1 ≤ (s.all 1).length) {b : List UInt8} {q : Nat} {x : Sl} (hx : Ref w F x ((s.all 1).drop (s.safe 1) ++ b.take q)) : RV w F (putD 1 b q s) (upd v 4 x) cl k :=
  ⟨h.a0, h.b0, by show Ref w F (v 3) ((s.all 1 ++ b.take q).take (s.safe 1)); rw [List.take_append_of_le_length hs]; exact h.a1, by show Ref w F x ((s.all 1 ++ b.take q).drop (s.safe 1)); rw [List.drop_append_of_le_length hs]; exact hx, h.c0, h.d0, h.c1, h.d1, h.fu⟩
section
variable {w : World} {F : Nat → Prop} {s : DS} {v : Nat → Sl} {cl k : Int}
end
end Go.Proofs.Ytpohefpiidlnjaa.Dr
