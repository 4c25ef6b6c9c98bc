/-
  What an argument of calls reads as; what is told of a graph beside the document's.
-/
import Derived.Test.YtclbpohhmaojcaaGraphTellsPl
import Derived.Test.YtclbpohhmaojcaaGraphArg
namespace Go.Proofs.Ytclbpohhmaojcaa.GrW
set_option linter.unusedVariables false
open Go Go.RowKit Go.Proofs Go.Proofs.Ytclbpohhmaojcaa Go.Proofs.Ytclbpohhmaojcaa.Wd Go.ChangeShapes Go.WideShapes
open Go.Proofs.Ytclbpohhmaojcaa.Gr (OK ofL IsR outs intos ev edgesTo putL cutL)
/-- What is done: what, and two numbers. -/
def CallsAt (w : World) (B : Nat) (A : Option Addr) (l : List (Nat × Int × Int)) : Prop := ∀ j (h : j < l.length), ∃ b off, A = some ⟨b, off, none⟩ ∧ b < B ∧ w.cell? ⟨b, off + j * 3, none⟩ = some (.int .u8 (l[j].1 : Nat)) ∧ w.cell? ⟨b, off + j * 3 + 1, none⟩ = some (.int .i64 l[j].2.1) ∧ w.cell? ⟨b, off + j * 3 + 2, none⟩ = some (.int .i64 l[j].2.2) ∧ l[j].1 < 256
theorem CallsAt.below {w w' : World} {B : Nat} {A : Option Addr} {l : List (Nat × Int × Int)} (h : CallsAt w B A l) (hb : Below B w w') : CallsAt w' B A l := fun j hj => by
  obtain ⟨b, off, h1, h2, h3, h4, h5, h6⟩ := h j hj
  exact ⟨b, off, h1, h2, (hb.cell (p := ⟨b, _, none⟩) h2).trans h3, (hb.cell (p := ⟨b, _, none⟩) h2).trans h4, (hb.cell (p := ⟨b, _, none⟩) h2).trans h5, h6⟩
section
variable {H : Type} {enc : TypeId × Value → H} {W : World}
theorem call_field {base : Nat} {spare : Nat → Bool} {held : Bool} {fuel : Nat} {cs : List Value} {x : DataW H × List MemPlace} {fs : Array Field} {i : Nat} {f : Field} (hu : Try.prog.underlying 56 = some (.struct fs)) (hf : fs[i]? = some f) (ht : f.type = 3) (h : DataW.trod enc Try.prog W base spare held fuel 56 cs = some x) :
    ∃ z, cs[f.offset]? = some (.int .i64 z) := by
  obtain ⟨xs, m, _, _, hl, hlen, hg⟩ := DataW.trod_struct hu h
  have h1 := hg i f hf
  rw [ht, List.getElem?_eq_getElem (by rw [hlen]; exact (Array.getElem?_eq_some_iff.1 hf).1)] at h1
  obtain ⟨z, hz, _⟩ := DataW.trod_int Try.underlying3 h1
  have h2 : ((cs.drop f.offset).take (Try.prog.cellsOf 3))[0]? = some (.int .i64 z) := by rw [hz]; rfl
  rw [List.getElem?_take_of_lt (by rw [show Try.prog.cellsOf 3 = 1 by kernel_rfl]; omega), List.getElem?_drop] at h2
  exact ⟨z, h2⟩
theorem call_what {base : Nat} {spare : Nat → Bool} {held : Bool} {fuel : Nat} {cs : List Value} {x : DataW H × List MemPlace} {fs : Array Field} {i : Nat} {f : Field} (hu : Try.prog.underlying 56 = some (.struct fs)) (hf : fs[i]? = some f) (ht : f.type = 5) (h : DataW.trod enc Try.prog W base spare held fuel 56 cs = some x) :
    ∃ z : Nat, cs[f.offset]? = some (.int .u8 (z : Int)) ∧ z < 256 := by
  obtain ⟨xs, m, _, _, hl, hlen, hg⟩ := DataW.trod_struct hu h
  have h1 := hg i f hf
  rw [ht, List.getElem?_eq_getElem (by rw [hlen]; exact (Array.getElem?_eq_some_iff.1 hf).1)] at h1
  obtain ⟨z, hz, hw⟩ := DataW.trod_int Try.underlying5 h1
  have h2 : ((cs.drop f.offset).take (Try.prog.cellsOf 5))[0]? = some (.int .u8 z) := by rw [hz]; rfl
  rw [List.getElem?_take_of_lt (by rw [show Try.prog.cellsOf 5 = 1 by kernel_rfl]; omega), List.getElem?_drop] at h2
  obtain ⟨a, rfl, ha⟩ := u8_of hw.2
  exact ⟨a, h2, ha⟩
theorem open_calls {base : Nat} {spare : Nat → Bool} {held : Bool} {fuel : Nat} {v : Value} {x : DataW H × List MemPlace} (hs : ∀ b, spare b = true) (h : DataW.trod enc Try.prog W base spare held fuel 48 [v] = some x) :
    ∃ (l : List (Nat × Int × Int)) (A : Option Addr) (c : Nat), v = .slice A l.length c ∧ l.length ≤ c ∧ c ≤ maxLen ∧ CallsAt W W.heap.size A l := by
  rcases Deep.open_slice Try.underlying48 h with ⟨hcs, _⟩ | ⟨a, len, cap, m, n, D, Pl, hcs, _, hl, hm, hmm, _, hx⟩
  · simp at hcs
    subst hcs
    exact ⟨[], none, 0, rfl, Nat.le_refl _, by simp [maxLen], fun j hj => by simp at hj⟩
  · simp at hcs
    subst hcs
    have hlm : len ≤ m := by rw [hmm]; split <;> omega
    have hC : Try.prog.cellsOf 56 = 3 := by kernel_rfl
    rw [hC] at hx
    obtain ⟨q, hq⟩ := Deep.choose_lt (n := len) (α := List Value × Nat × Int × Int) (p := fun i s => W.cells? base (a.add (i * 3)) 3 = some s.1 ∧ s.1[0]? = some (.int .u8 (s.2.1 : Int)) ∧ s.1[1]? = some (.int .i64 s.2.2.1) ∧ s.1[2]? = some (.int .i64 s.2.2.2) ∧ s.2.1 < 256) (fun i hi => by
      obtain ⟨cs', h1, h2⟩ := hx i (by omega)
      obtain ⟨z0, h3, h6⟩ := call_what (i := 0) Try.underlying56 rfl rfl h2
      obtain ⟨z1, h4⟩ := call_field (i := 1) Try.underlying56 rfl rfl h2
      obtain ⟨z2, h5⟩ := call_field (i := 2) Try.underlying56 rfl rfl h2
      exact ⟨(cs', z0, z1, z2), h1, h3, h4, h5, h6⟩)
    have hspot : 0 < len → a.spot = none := fun h0 => by
      obtain ⟨h1, _⟩ := hq 0 h0
      obtain ⟨_, _, hcell⟩ := World.cells?_some h1
      have h2 := hcell 0 (by omega)
      rw [List.getElem?_eq_getElem (by have := (World.cells?_some h1).2.1; omega)] at h2
      simpa [Addr.add] using World.cell?_spot h2
    refine ⟨(List.range len).map fun i => (q i).2, some a, cap, by simp, by simpa using hl, hm, fun j hj => ?_⟩
    have hj' : j < len := by simpa using hj
    obtain ⟨h1, h3, h4, h5, h6⟩ := hq j hj'
    obtain ⟨_, hlen, hcell⟩ := World.cells?_some h1
    obtain ⟨b, off, spot⟩ := a
    have hspot' : spot = none := hspot (by omega)
    subst hspot'
    have hcells : ∀ i v, (q j).1[i]? = some v → W.cell? ⟨b, off + j * 3 + i, none⟩ = some v := fun i v hv => by
      have hi : i < 3 := by have := (List.getElem?_eq_some_iff.1 hv).1; omega
      have := hcell i hi
      rw [Deep.add_add, Addr.add_lit, hv, ← Nat.add_assoc] at this
      exact this
    have hb : b < W.heap.size := lt_of_cell (hcells 0 _ h3)
    have e : ((List.range len).map fun i => (q i).2)[j] = (q j).2 := by simp
    refine ⟨b, off, rfl, hb, ?_, ?_, ?_, ?_⟩
    · rw [e]; exact hcells 0 _ h3
    · rw [e]; exact hcells 1 _ h4
    · rw [e]; exact hcells 2 _ h5
    · rw [e]; exact h6
end
/-- A graph, and the document's beside it in a box. -/
structure TG (w wr : World) (F : Nat → Prop) (g n : Nat) (L : List (List Int)) (bm nm : Nat) (A : Option Addr) (q c : Nat) (E : List (Int × Int)) : Prop where
  gr : GAt wr w.heap.size F g n L
  sub : ∀ j, F j → w.heap.size ≤ j
  low : Below w.heap.size w wr
  box : Blk wr bm 52 #[.int .i64 (nm : Int), .slice A q c]
  boxL : w.heap.size ≤ bm
  boxF : ¬ F bm
  edges : EdgesAt wr wr.heap.size A E
  edF : ∀ b off, A = some ⟨b, off, none⟩ → ¬ F b ∧ b < wr.heap.size ∧ b ≠ bm
  len : q = E.length
  cap : q ≤ c
  max : c ≤ maxLen
theorem edges_at {w w' : World} {B B' : Nat} {A : Option Addr} {E : List (Int × Int)} (h : EdgesAt w B A E) (hk : ∀ b off o, A = some ⟨b, off, none⟩ → b < B → w'.cell? ⟨b, o, none⟩ = w.cell? ⟨b, o, none⟩) (hB : B ≤ B') : EdgesAt w' B' A E := fun j hj => by
  obtain ⟨b, off, h1, h2, h3, h4⟩ := h j hj
  exact ⟨b, off, h1, by omega, (hk b off _ h1 h2).trans h3, (hk b off _ h1 h2).trans h4⟩
theorem cell_of_block {w w' : World} {b : Nat} (h : w'.heap[b]? = w.heap[b]?) (o : Nat) : w'.cell? ⟨b, o, none⟩ = w.cell? ⟨b, o, none⟩ := World.cell?_of_block (w := w) (a := ⟨b, o, none⟩) h
section
variable {w wr w' : World} {F : Nat → Prop} {g n : Nat} {L : List (List Int)} {bm nm : Nat} {A : Option Addr} {q c : Nat} {E : List (Int × Int)}
theorem TG.below (h : TG w wr F g n L bm nm A q c E) (hb : Below wr.heap.size wr w') : TG w w' F g n L bm nm A q c E where
  gr := h.gr.below hb
  sub := h.sub
  low := h.low.trans (hb.mono h.low.size)
  box := h.box.below hb h.box.lt
  boxL := h.boxL
  boxF := h.boxF
  edges := edges_more h.edges hb
  edF := fun b off e => by obtain ⟨h1, h2, h3⟩ := h.edF b off e; exact ⟨h1, Nat.lt_of_lt_of_le h2 hb.size, h3⟩
  len := h.len
  cap := h.cap
  max := h.max
theorem TG.exist (h : TG w wr F g n L bm nm A q c E) : TG w wr (fun k => F k ∧ k < wr.heap.size) g n L bm nm A q c E where
  gr := h.gr.exist
  sub := fun j hj => h.sub j hj.1
  low := h.low
  box := h.box
  boxL := h.boxL
  boxF := fun e => h.boxF e.1
  edges := h.edges
  edF := fun b off e => by obtain ⟨h1, h2, h3⟩ := h.edF b off e; exact ⟨fun e => h1 e.1, h2, h3⟩
  len := h.len
  cap := h.cap
  max := h.max
theorem TG.upd {n' : Nat} {L' : List (List Int)} (h : TG w wr F g n L bm nm A q c E) (hU : Upd w.heap.size F g n' L' wr w') : ∃ F', TG w w' F' g n' L' bm nm A q c E := by
  obtain ⟨F', h1, h2, h3⟩ := hU
  refine ⟨F', h1, fun j hj => (h3 j hj).elim (h.sub j) (fun e => Nat.le_trans h.low.size e), h.low.trans (h2.low h.sub h.low.size), (h2.block _ h.box.lt h.boxF).trans h.box, h.boxL, fun e => (h3 _ e).elim h.boxF (fun e => by have := h.box.lt; omega), ?_, fun b off e => ?_, h.len, h.cap, h.max⟩
  · exact edges_at h.edges (fun b off o e hb => cell_of_block (h2.block b hb (h.edF b off e).1) o) h2.size
  · obtain ⟨e1, e2, e3⟩ := h.edF b off e
    exact ⟨fun e => (h3 _ e).elim e1 (fun e => by omega), Nat.lt_of_lt_of_le e2 h2.size, e3⟩
/-- What the document answers instead: the edges where they were, or anew. -/
structure RefRes (wr w' : World) (A A' : Option Addr) (q' c' : Nat) (E' : List (Int × Int)) : Prop where
  low : Below wr.heap.size wr w'
  edges : EdgesAt w' w'.heap.size A' E'
  at_ : A' = A ∨ ∀ b off, A' = some ⟨b, off, none⟩ → wr.heap.size ≤ b ∧ b < w'.heap.size
  len : q' = E'.length
  cap : q' ≤ c'
  max : c' ≤ maxLen
theorem RefRes.of_own {A' : Option Addr} {q' c' : Nat} {E' : List (Int × Int)} (hb : Below wr.heap.size wr w') (h : w'.ownsRow wr.heap.size 32 2 (.slice A' q' c') q' (ev E')) : RefRes wr w' A A' q' c' E' := by
  obtain ⟨h1, h2, h3, h4⟩ := EdgesAt.of_own h
  refine ⟨hb, h1, .inr fun b off e => ?_, h2, h3, h4⟩
  subst e
  rcases h.2 with ⟨hv, -⟩ | ⟨gg, cap, cur, hv, hg, hh, -⟩
  · cases hv
  · cases hv
    exact ⟨hg, (show Blk w' b 32 cur from hh).lt⟩
/-- The answer is kept: in the box. -/
theorem TG.keep {nm' : Nat} {A' : Option Addr} {q' c' : Nat} {E' : List (Int × Int)} (h : TG w wr F g n L bm nm A q c E) (hF : ∀ j, F j → j < wr.heap.size) (hr : RefRes wr w' A A' q' c' E') {w2 : World} (hb2 : Below w'.heap.size w' w2) :
    TG w ((w2.setCell ⟨bm, 0, none⟩ (.int .i64 (nm' : Int))).setCell ⟨bm, 1, none⟩ (.slice A' q' c')) F g n L bm nm' A' q' c' E' := by
  have h1 := (h.below hr.low).below hb2
  have hed : ∀ b off, A' = some ⟨b, off, none⟩ → ¬ F b ∧ b < w2.heap.size ∧ b ≠ bm := fun b off e => by
    rcases hr.at_ with e2 | e2
    · exact h1.edF b off (by rw [← e2]; exact e)
    · obtain ⟨e3, e4⟩ := e2 b off e
      exact ⟨fun hf => by have := hF b hf; omega, Nat.lt_of_lt_of_le e4 hb2.size, fun e5 => by have := h.box.lt; omega⟩
  have hset : ∀ (W : World) (i : Nat) (u : Value) (b o : Nat), b ≠ bm → (W.setCell ⟨bm, i, none⟩ u).cell? ⟨b, o, none⟩ = W.cell? ⟨b, o, none⟩ := fun W i u b o hne => cell_of_block (heap_setCell_other W ⟨bm, i, none⟩ b u hne) o
  refine ⟨(h1.gr.fr ((Fr.refl (fun k => k = bm) w2).set_ rfl 0 _ |>.set_ rfl 1 _) (fun k hk e => h1.boxF (by rw [← e]; exact hk))), h.sub, (h1.low.setCell (p := ⟨bm, 0, none⟩) h.boxL _).setCell (p := ⟨bm, 1, none⟩) h.boxL _, (h1.box.set_ 0 _).set_ 1 _, h.boxL, h.boxF, ?_, fun b off e => ?_, hr.len, hr.cap, hr.max⟩
  · refine edges_at (edges_more hr.edges hb2) (fun b off o e hb => ?_) (by simp)
    rw [hset _ _ _ _ _ (hed b off e).2.2, hset _ _ _ _ _ (hed b off e).2.2]
  · obtain ⟨e1, e2, e3⟩ := hed b off e
    exact ⟨e1, by simpa using e2, e3⟩
end
/-- What Put, Cut and Grow leave and tell, of whatever numbers. -/
def pL (n : Nat) (L : List (List Int)) (u v : Int) : List (List Int) := if canPut n u v then putL L u.toNat v.toNat else L
def pB (n : Nat) (L : List (List Int)) (u v : Int) : Bool := canPut n u v && !hasE n L u v
def pC (n : Nat) (u v : Int) : Int := if canPut n u v then 0 else 2
def cL (n : Nat) (L : List (List Int)) (u v : Int) : List (List Int) := if isV n u && isV n v then cutL L u.toNat v.toNat else L
def gL (n : Nat) (L : List (List Int)) (k : Int) : List (List Int) := if canGrow n k then growL L k.toNat else L
def gN (n : Nat) (k : Int) : Nat := if canGrow n k then n + k.toNat else n
def gC (n : Nat) (k : Int) : Int := if canGrow n k then 0 else 2
theorem canPut_iff {n : Nat} {u v : Int} : canPut n u v = true ↔ isV n u = true ∧ isV n v = true ∧ u ≠ v := by
  unfold canPut
  simp only [Bool.and_eq_true, decide_eq_true_eq, and_assoc]
section
variable {n : Nat} {L : List (List Int)}
theorem pL_ok (ok : OK n L) (u v : Int) : OK n (pL n L u v) := by
  unfold pL
  split
  · rename_i h
    obtain ⟨h1, h2, h3⟩ := canPut_iff.1 h
    obtain ⟨a, rfl, ha⟩ := isV_nat h1
    obtain ⟨b, rfl, hb⟩ := isV_nat h2
    exact ok.put ha hb (fun e => h3 (by rw [Int.toNat_natCast, Int.toNat_natCast] at e; rw [e]))
  · exact ok
theorem cL_ok (ok : OK n L) (u v : Int) : OK n (cL n L u v) := by
  unfold cL
  split
  · rename_i h
    rw [Bool.and_eq_true] at h
    obtain ⟨a, rfl, ha⟩ := isV_nat h.1
    obtain ⟨b, rfl, hb⟩ := isV_nat h.2
    exact ok.cut ha hb
  · exact ok
theorem gL_ok (ok : OK n L) (k : Int) : OK (gN n k) (gL n L k) := by
  unfold gN gL
  split
  · exact ok.grow _
  · exact ok
theorem put_t {w : World} {base g : Nat} {F : Nat → Prop} (h : GAt w base F g n L) (ok : OK n L) (hn : n ≤ 30000) (hbase : base ≤ w.heap.size) (u v : Int) : Calls Try.prog 21 #[.pointer (some ⟨g, 0, none⟩), .int .i64 u, .int .i64 v] w fun e w' => e = .returned (.tuple #[.bool (pB n L u v), .int .i64 (pC n u v)]) ∧ Upd base F g n (pL n L u v) w w' := by
  refine (put_all w base g n F L h (ok.rises hn) hbase u v).mono ?_
  intro e w' hP
  unfold PutOut at hP
  unfold pB pC pL
  by_cases hc : canPut n u v = true
  · rw [if_pos hc] at hP ⊢
    rw [if_pos hc, hc, Bool.true_and]
    exact hP
  · rw [if_neg hc] at hP ⊢
    rw [if_neg hc, Bool.eq_false_iff.2 hc, Bool.false_and]
    obtain ⟨rfl, rfl⟩ := hP
    exact ⟨rfl, Upd.refl h⟩
theorem cut_t {w : World} {base g : Nat} {F : Nat → Prop} (h : GAt w base F g n L) (ok : OK n L) (hn : n ≤ 30000) (hbase : base ≤ w.heap.size) (u v : Int) : Calls Try.prog 23 #[.pointer (some ⟨g, 0, none⟩), .int .i64 u, .int .i64 v] w fun e w' => e = .returned (.bool (decide ((u, v) ∈ edgesTo L n))) ∧ Upd base F g n (cL n L u v) w w' := by
  refine (cut_all w base g n F L h (ok.rises hn) hbase u v).mono ?_
  intro e w' hP
  have hd : decide ((u, v) ∈ edgesTo L n) = hasE n L u v := by rw [Bool.eq_iff_iff, decide_eq_true_eq]; exact Gr.mem_has ok
  unfold CutOut at hP
  unfold cL
  by_cases hc : (isV n u && isV n v) = true
  · rw [if_pos hc] at hP ⊢
    rw [hd]
    exact hP
  · rw [if_neg hc] at hP ⊢
    obtain ⟨rfl, rfl⟩ := hP
    have hf : decide ((u, v) ∈ edgesTo L n) = false := by
      rw [decide_eq_false_iff_not]
      intro hm
      have hlt := Gr.flt_less (u := u) (v := v) (E := edgesTo L n)
      rw [Gr.tells_uncut ok (Bool.eq_false_iff.2 hc), decide_eq_true hm] at hlt
      simp at hlt
    rw [hf]
    exact ⟨rfl, Upd.refl h⟩
theorem grow_t {w : World} {base g : Nat} {F : Nat → Prop} (h : GAt w base F g n L) (hn : n ≤ 10000) (hbase : base ≤ w.heap.size) (k : Int) : Calls Try.prog 28 #[.pointer (some ⟨g, 0, none⟩), .int .i64 k] w fun e w' => e = .returned (.int .i64 (gC n k)) ∧ Upd base F g (gN n k) (gL n L k) w w' := by
  refine (grow_all w base g n F L h hbase hn k).mono ?_
  intro e w' hP
  unfold GrowOut at hP
  unfold gC gN gL
  by_cases hc : canGrow n k = true
  · rw [if_pos hc] at hP
    rw [if_pos hc, if_pos hc, if_pos hc]
    exact hP
  · rw [if_neg hc] at hP
    rw [if_neg hc, if_neg hc, if_neg hc]
    obtain ⟨rfl, rfl⟩ := hP
    exact ⟨rfl, Upd.refl h⟩
theorem refput_t {w : World} {A : Option Addr} {q c : Nat} (ok : OK n L) (hq : q = (edgesTo L n).length) (hqc : q ≤ c) (hcm : c ≤ maxLen) (hbig : q ≤ 1000000) (hE : EdgesAt w w.heap.size A (edgesTo L n)) (u v : Int) : Calls Try.prog 26 #[rv n A q c, .int .i64 u, .int .i64 v] w fun e w' => ∃ A' q' c', e = .returned (.tuple #[rv n A' q' c', .bool (pB n L u v), .int .i64 (pC n u v)]) ∧ q' ≤ q + 1 ∧ RefRes w w' A A' q' c' (edgesTo (pL n L u v) n) := by
  refine (refput_any w n A q c _ hq hqc hcm hbig hE u v).mono ?_
  rintro e w' ⟨hB, hP⟩
  unfold pB pC pL
  by_cases hc : canPut n u v = true
  · rw [if_neg (by rw [hc]; simp)] at hP
    rw [if_pos hc, if_pos hc, hc, Bool.true_and]
    obtain ⟨h1, h2, h3⟩ := canPut_iff.1 hc
    obtain ⟨a, rfl, ha⟩ := isV_nat h1
    obtain ⟨b, rfl, hb⟩ := isV_nat h2
    have hab : a ≠ b := fun e => h3 (by rw [e])
    rw [Int.toNat_natCast, Int.toNat_natCast]
    by_cases hh : hasE n L a b = true
    · rw [if_pos ((Gr.mem_has ok).2 hh)] at hP
      rw [Gr.put_same ok ha hb hab hh, hh]
      exact ⟨A, q, c, hP, by omega, hB, edges_more hE hB, .inl rfl, hq, hqc, hcm⟩
    · have hh' : hasE n L a b = false := Bool.eq_false_iff.2 hh
      rw [if_neg (fun e => hh ((Gr.mem_has ok).1 e))] at hP
      obtain ⟨A', c', he, ho⟩ := hP
      rw [Gr.tells_put ok ha hb hab hh'] at ho
      rw [hh']
      exact ⟨A', q + 1, c', he, Nat.le_refl _, RefRes.of_own hB ho⟩
  · rw [if_pos (Bool.eq_false_iff.2 hc)] at hP
    rw [if_neg hc, if_neg hc, Bool.eq_false_iff.2 hc, Bool.false_and]
    exact ⟨A, q, c, hP, by omega, hB, edges_more hE hB, .inl rfl, hq, hqc, hcm⟩
theorem refcut_t {w : World} {A : Option Addr} {q c : Nat} (ok : OK n L) (hq : q = (edgesTo L n).length) (hqc : q ≤ c) (hcm : c ≤ maxLen) (hbig : q ≤ 1000000) (hE : EdgesAt w w.heap.size A (edgesTo L n)) (u v : Int) : Calls Try.prog 27 #[rv n A q c, .int .i64 u, .int .i64 v] w fun e w' => ∃ A' q' c', e = .returned (.tuple #[rv n A' q' c', .bool (decide ((u, v) ∈ edgesTo L n))]) ∧ q' ≤ q ∧ RefRes w w' A A' q' c' (edgesTo (cL n L u v) n) := by
  refine (refcut_any w n A q c _ hq hqc hcm hbig hE u v).mono ?_
  rintro e w' ⟨hB, A', m, c', hm, he, ho⟩
  have hle : m ≤ q := by rw [hm, hq]; exact List.length_filter_le _ _
  rw [hm, hq, Gr.flt_less] at he
  refine ⟨A', m, c', by rw [he, ← hm], hle, ?_⟩
  have e2 : Gr.flt u v (edgesTo L n) = edgesTo (cL n L u v) n := by
    unfold cL
    by_cases hc : (isV n u && isV n v) = true
    · rw [if_pos hc]
      rw [Bool.and_eq_true] at hc
      obtain ⟨a, rfl, ha⟩ := isV_nat hc.1
      obtain ⟨b, rfl, hb⟩ := isV_nat hc.2
      exact Gr.tells_cut ok ha hb
    · rw [if_neg hc]
      exact Gr.tells_uncut ok (Bool.eq_false_iff.2 hc)
  rw [e2] at ho
  exact RefRes.of_own hB ho
theorem refgrow_t {w : World} {A : Option Addr} {q c : Nat} (ok : OK n L) (hn : n ≤ 10000) (hq : q = (edgesTo L n).length) (hqc : q ≤ c) (hcm : c ≤ maxLen) (hE : EdgesAt w w.heap.size A (edgesTo L n)) (k : Int) : Calls Try.prog 29 #[rv n A q c, .int .i64 k] w fun e w' => e = .returned (.tuple #[rv (gN n k) A q c, .int .i64 (gC n k)]) ∧ RefRes w w' A A q c (edgesTo (gL n L k) (gN n k)) := by
  refine (refgrow_any w n hn A q c k).mono ?_
  rintro e w' ⟨he, hB⟩
  unfold gN gC gL
  by_cases hc : canGrow n k = true
  · rw [if_pos hc] at he
    rw [if_pos hc, if_pos hc, if_pos hc, Gr.tells_grow ok]
    exact ⟨he, hB, edges_more hE hB, .inl rfl, hq, hqc, hcm⟩
  · rw [if_neg hc] at he
    rw [if_neg hc, if_neg hc, if_neg hc]
    exact ⟨he, hB, edges_more hE hB, .inl rfl, hq, hqc, hcm⟩
end
end Go.Proofs.Ytclbpohhmaojcaa.GrW
