/-
  The document's order by value; what its Put needs and answers.
-/
import Derived.Test.YtelplccbcbegkaaOrderRef4
namespace Go.Proofs.Ytelplccbcbegkaa.OrW
set_option linter.unusedVariables false
open Go Go.RowKit Go.Proofs Go.Proofs.Ytelplccbcbegkaa Go.Proofs.Ytelplccbcbegkaa.Wd Go.Proofs.Ytelplccbcbegkaa.GrW Go.Proofs.Ytelplccbcbegkaa.Ord
open Go.Proofs.Ytelplccbcbegkaa.Gr (OK putL outs intos Path edgesTo ev)

theorem cell_same {w w' : World} {b : Nat} (h : w'.heap[b]? = w.heap[b]?) (o : Nat) : w'.cell? ⟨b, o, none⟩ = w.cell? ⟨b, o, none⟩ := World.cell?_of_block (w := w) (a := ⟨b, o, none⟩) h
theorem nums_set {w : World} {A : Option Addr} {l : List Int} (h : Nums w w.heap.size A l) {g : Nat} (i : Nat) (v : Value) (hA : ∀ off, A ≠ some ⟨g, off, none⟩) : Nums (w.setCell ⟨g, i, none⟩ v) (w.setCell ⟨g, i, none⟩ v).heap.size A l := fun j hj => by
  obtain ⟨b, off, e, hb, hc⟩ := h j hj
  exact ⟨b, off, e, by simpa using hb, (cell_same (heap_setCell_other w ⟨g, i, none⟩ b v (fun e2 => hA off (by rw [e]; subst e2; rfl))) _).trans hc⟩
theorem edges_set {w : World} {A : Option Addr} {l : List (Int × Int)} (h : EdgesAt w w.heap.size A l) {g : Nat} (i : Nat) (v : Value) (hA : ∀ off, A ≠ some ⟨g, off, none⟩) : EdgesAt (w.setCell ⟨g, i, none⟩ v) (w.setCell ⟨g, i, none⟩ v).heap.size A l := fun j hj => by
  obtain ⟨b, off, e, hb, hc, hd⟩ := h j hj
  have := heap_setCell_other w ⟨g, i, none⟩ b v (fun e2 => hA off (by rw [e]; subst e2; rfl))
  exact ⟨b, off, e, by simpa using hb, (cell_same this _).trans hc, (cell_same this _).trans hd⟩
/-- A row lies in a block that there is. -/
def Lies (w : World) (A : Option Addr) : Prop := ∀ b off, A = some ⟨b, off, none⟩ → b < w.heap.size
theorem Lies.below {w w' : World} {A : Option Addr} {k : Nat} (h : Lies w A) (hb : Below k w w') : Lies w' A := fun b off e => Nat.lt_of_lt_of_le (h b off e) hb.size
theorem Lies.none (w : World) : Lies w none := fun b off e => by cases e
theorem Lies.of_own {w : World} {base size m c : Nat} {e : TypeId} {A : Option Addr} {xs : List Value} (h : w.ownsRow base e size (.slice A m c) m xs) : Lies w A := fun b off e2 => by
  subst e2
  obtain ⟨-, cs, hc⟩ := own_row h rfl
  exact hc.lt
/-- The document's order: its edges, its vertices by places. -/
structure RO (w : World) (n : Nat) (A : Option Addr) (q c : Nat) (Am : Option Addr) (cm : Nat) (L : List (List Int)) (V : List Nat) : Prop where
  ed : EdgesAt w w.heap.size A (edgesTo L n)
  q1 : q = (edgesTo L n).length
  q2 : q ≤ c
  q3 : c ≤ maxLen
  nums : Nums w w.heap.size Am (zs V)
  k1 : n ≤ cm
  k2 : cm ≤ maxLen
  la : Lies w A
  lm : Lies w Am
section
variable {w w' : World} {n : Nat} {A : Option Addr} {q c : Nat} {Am : Option Addr} {cm : Nat} {L : List (List Int)} {V : List Nat}
theorem RO.below (h : RO w n A q c Am cm L V) (hb : Below w.heap.size w w') : RO w' n A q c Am cm L V :=
  { h with ed := edges_more h.ed hb, nums := h.nums.grow hb, la := h.la.below hb, lm := h.lm.below hb }
theorem RO.set_ (h : RO w n A q c Am cm L V) {g : Nat} (i : Nat) (v : Value) (hA : ∀ off, A ≠ some ⟨g, off, none⟩) (hM : ∀ off, Am ≠ some ⟨g, off, none⟩) : RO (w.setCell ⟨g, i, none⟩ v) n A q c Am cm L V :=
  { h with ed := edges_set h.ed i v hA, nums := nums_set h.nums i v hM, la := fun b off e => by simpa using h.la b off e, lm := fun b off e => by simpa using h.lm b off e }
end
/-- A row where it was, or in a block that is new. -/
def NewB (w w' : World) (A A' : Option Addr) : Prop := A' = A ∨ ∀ b off, A' = some ⟨b, off, none⟩ → w.heap.size ≤ b ∧ b < w'.heap.size
theorem NewB.refl (w w' : World) (A : Option Addr) : NewB w w' A A := .inl rfl
theorem NewB.of_own {w w' : World} {base size m c : Nat} {e : TypeId} {A A' : Option Addr} {xs : List Value} (h : w'.ownsRow base e size (.slice A' m c) m xs) (hb : w.heap.size ≤ base) : NewB w w' A A' := .inr fun b off e2 => by
  have hl := Lies.of_own h b off e2
  subst e2
  exact ⟨Nat.le_trans hb (own_row h rfl).1, hl⟩
theorem NewB.on {w w' w2 : World} {A A' : Option Addr} (h : NewB w w' A A') (hs : w'.heap.size ≤ w2.heap.size) : NewB w w2 A A' := h.imp id fun h b off e => ⟨(h b off e).1, Nat.lt_of_lt_of_le (h b off e).2 hs⟩
theorem NewB.from {w0 w w' : World} {A A' : Option Addr} (h : NewB w w' A A') (hs : w0.heap.size ≤ w.heap.size) : NewB w0 w' A A' := h.imp id fun h b off e => ⟨Nat.le_trans hs (h b off e).1, (h b off e).2⟩
/-- A row that is where it was, or new, is in no block that there was not, nor is. -/
theorem NewB.far {w w1 w' : World} {A A' : Option Addr} (h : NewB w1 w' A A') (hl : Lies w A) {g : Nat} (h1 : w.heap.size ≤ g) (h2 : g < w1.heap.size) : ∀ off, A' ≠ some ⟨g, off, none⟩ := fun off e => by
  rcases h with rfl | h
  · have := hl g off e; omega
  · have := (h g off e).1; omega
/-- What the document's Put answers. -/
def PutR (w : World) (n : Nat) (A : Option Addr) (q c : Nat) (Am : Option Addr) (cm : Nat) (L : List (List Int)) (P V : List Nat) (u v : Int) (e : Ending) (w' : World) : Prop :=
  Below w.heap.size w w' ∧ if (isV n u && isV n v) = true then ∃ (cc k : Nat) (L' : List (List Int)) (P' V' : List Nat) (A' : Option Addr) (q' c' : Nat) (Am' : Option Addr) (cm' : Nat), e = .returned (.tuple #[ov n A' q' c' Am' n cm', .int .i64 (cc : Nat), .int .i64 (k : Nat)]) ∧ Put1 n L P V u.toNat v.toNat cc k L' P' V' ∧ RO w' n A' q' c' Am' cm' L' V' ∧ q' ≤ q + 1 ∧ NewB w w' A A' ∧ NewB w w' Am Am'
  else e = .returned (.tuple #[ov n A q c Am n cm, .int .i64 0, .int .i64 2])
/-- The document's graph's Put, of two vertices. -/
theorem refputE {w : World} {n : Nat} {L : List (List Int)} (ok : OK n L) {A : Option Addr} {q c : Nat} (hq : q = (edgesTo L n).length) (hqc : q ≤ c) (hcm : c ≤ maxLen) (hbig : q ≤ 1000000) (hE : EdgesAt w w.heap.size A (edgesTo L n)) (hA : Lies w A) (a b : Nat) (ha : a < n) (hb : b < n) (hne : a ≠ b) :
    Calls Try.prog 64 #[rv n A q c, .int .i64 (a : Nat), .int .i64 (b : Nat)] w fun e w' => ∃ (A' : Option Addr) (q' c' : Nat) (bb : Bool), e = .returned (.tuple #[rv n A' q' c', .bool bb, .int .i64 0]) ∧ Below w.heap.size w w' ∧ EdgesAt w' w'.heap.size A' (edgesTo (putL L a b) n) ∧ q' = (edgesTo (putL L a b) n).length ∧ q' ≤ c' ∧ c' ≤ maxLen ∧ q' ≤ q + 1 ∧ Lies w' A' ∧ NewB w w' A A' := by
  refine (refput_any w n A q c _ hq hqc hcm hbig hE (a : Nat) (b : Nat)).mono ?_
  rintro e w' ⟨hB, hP⟩
  have va : isV n (a : Int) = true := by unfold isV; simp; omega
  have vb : isV n (b : Int) = true := by unfold isV; simp; omega
  have hc : canPut n (a : Int) (b : Int) = true := by unfold canPut; rw [va, vb]; simp; omega
  rw [if_neg (by rw [hc]; simp)] at hP
  by_cases hh : hasE n L a b = true
  · rw [if_pos ((Gr.mem_has ok).2 hh)] at hP
    rw [Gr.put_same ok ha hb hne hh]
    exact ⟨A, q, c, false, hP, hB, edges_more hE hB, hq, hqc, hcm, by omega, hA.below hB, .inl rfl⟩
  · have hh' : hasE n L a b = false := Bool.eq_false_iff.2 hh
    rw [if_neg (fun e => hh ((Gr.mem_has ok).1 e))] at hP
    obtain ⟨A', c', he, ho⟩ := hP
    rw [Gr.tells_put ok ha hb hne hh'] at ho
    obtain ⟨h1, h2, h3, h4⟩ := EdgesAt.of_own ho
    exact ⟨A', q + 1, c', true, he, hB, h1, h2, h3, h4, by omega, Lies.of_own ho, NewB.of_own ho (Nat.le_refl _)⟩
/-- Reach in the graph within. -/
theorem reachW {w : World} {n : Nat} (hn : n ≤ 30000) {L : List (List Int)} (ok : OK n L) {P : List Nat} (hup : Up L P) {lo hi : Nat} {A : Option Addr} {q c : Nat} (hq : q = (edgesTo (wL n L P lo hi) n).length) (hqc : q ≤ c) (hcm : c ≤ maxLen) (hbig : q ≤ 1000000) (hE : EdgesAt w w.heap.size A (edgesTo (wL n L P lo hi) n)) (x y : Nat) (hx : x < n) (hy : y < n) (h1 : lo ≤ P.getD x 0) (h2 : P.getD y 0 ≤ hi) :
    Calls Try.prog 63 #[rv n A q c, .int .i64 (x : Nat), .int .i64 (y : Nat)] w fun e w' => ∃ b : Bool, e = .returned (.bool b) ∧ (b = true ↔ Path L x y) ∧ Below w.heap.size w w' := by
  refine (refreach_any w n hn _ (wL_ok ok) A q c hq hqc hcm hbig hE (x : Nat) (y : Nat)).mono ?_
  rintro e w' ⟨b, rfl, h3, h4⟩
  refine ⟨b, rfl, ?_, h4⟩
  rw [h3]
  unfold reached
  rw [Int.toNat_natCast, Int.toNat_natCast, wL_iff ok hup h1 h2]
  have va : isV n (x : Int) = true := by unfold isV; simp; omega
  have vb : isV n (y : Int) = true := by unfold isV; simp; omega
  exact ⟨fun h => h.2.2, fun h => ⟨va, vb, h⟩⟩
/-- The boxes of Put: the order that came in, the one that is answered. -/
structure PT (w wr : World) (n : Nat) (A : Option Addr) (q c : Nat) (Am : Option Addr) (cm : Nat) : Prop where
  low : Below w.heap.size w wr
  b0 : Blk wr w.heap.size 55 #[.int .i64 (n : Int), .slice A q c, .slice Am n cm]
  b1 : Blk wr (w.heap.size + 1) 55 #[.int .i64 0, .slice none 0 0, .slice none 0 0]
section
variable {w wr w' : World} {n : Nat} {A : Option Addr} {q c : Nat} {Am : Option Addr} {cm : Nat}
theorem PT.start (w : World) (n : Nat) (A : Option Addr) (q c : Nat) (Am : Option Addr) (cm : Nat) : PT w ((w.alloc (.cells #[.int .i64 (n : Int), .slice A q c, .slice Am n cm] 55)).alloc (.cells #[.int .i64 0, .slice none 0 0, .slice none 0 0] 55)) n A q c Am cm :=
  ⟨((Below.refl _ w).alloc (Nat.le_refl _) _).alloc (by simp) _, (Blk.new_ w _ _ rfl).alloc _, Blk.new_ _ _ _ (by simp)⟩
theorem PT.below (h : PT w wr n A q c Am cm) (hb : Below wr.heap.size wr w') : PT w w' n A q c Am cm := ⟨h.low.trans (hb.mono h.low.size), h.b0.below hb h.b0.lt, h.b1.below hb h.b1.lt⟩
theorem PT.graph (h : PT w wr n A q c Am cm) (A' : Option Addr) (q' c' : Nat) : PT w ((wr.setCell ⟨w.heap.size, 0, none⟩ (.int .i64 (n : Int))).setCell ⟨w.heap.size, 1, none⟩ (.slice A' q' c')) n A' q' c' Am cm :=
  ⟨(h.low.setCell (p := ⟨w.heap.size, 0, none⟩) (Nat.le_refl _) _).setCell (p := ⟨w.heap.size, 1, none⟩) (Nat.le_refl _) _, (h.b0.set_ 0 _).set_ 1 _, (h.b1.farN (by omega) _).farN (by omega) _⟩
theorem PT.at_ (h : PT w wr n A q c Am cm) (Am' : Option Addr) (cm' : Nat) : PT w (wr.setCell ⟨w.heap.size, 2, none⟩ (.slice Am' n cm')) n A q c Am' cm' :=
  ⟨h.low.setCell (p := ⟨w.heap.size, 2, none⟩) (Nat.le_refl _) _, h.b0.set_ 2 _, h.b1.farN (by omega) _⟩
theorem PT.fin (h : PT w wr n A q c Am cm) (x y z : Value) : Below w.heap.size w (((wr.setCell ⟨w.heap.size + 1, 0, none⟩ x).setCell ⟨w.heap.size + 1, 1, none⟩ y).setCell ⟨w.heap.size + 1, 2, none⟩ z) :=
  ((h.low.setCell (p := ⟨w.heap.size + 1, 0, none⟩) (Nat.le_succ _) x).setCell (p := ⟨w.heap.size + 1, 1, none⟩) (Nat.le_succ _) y).setCell (p := ⟨w.heap.size + 1, 2, none⟩) (Nat.le_succ _) z
end
end Go.Proofs.Ytelplccbcbegkaa.OrW
