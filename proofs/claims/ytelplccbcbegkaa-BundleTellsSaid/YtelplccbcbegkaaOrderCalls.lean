/-
  What an argument of calls reads as; an order beside the document's.
-/
import Derived.Test.YtelplccbcbegkaaOrderRef7
namespace Go.Proofs.Ytelplccbcbegkaa.OrW
set_option linter.unusedVariables false
open Go Go.RowKit Go.Proofs Go.Proofs.Ytelplccbcbegkaa Go.Proofs.Ytelplccbcbegkaa.Wd Go.Proofs.Ytelplccbcbegkaa.GrW Go.Proofs.Ytelplccbcbegkaa.Ord Go.ChangeShapes Go.WideShapes
open Go.Proofs.Ytelplccbcbegkaa.Gr (OK putL outs intos Path edgesTo ev)

/-- What is done: to grow or not, and two numbers. -/
def OCalls (w : World) (B : Nat) (A : Option Addr) (l : List (Bool × Int × Int)) : Prop := ∀ j (h : j < l.length), ∃ b off, A = some ⟨b, off, none⟩ ∧ b < B ∧ w.cell? ⟨b, off + j * 3, none⟩ = some (.bool l[j].1) ∧ w.cell? ⟨b, off + j * 3 + 1, none⟩ = some (.int .i64 l[j].2.1) ∧ w.cell? ⟨b, off + j * 3 + 2, none⟩ = some (.int .i64 l[j].2.2)
theorem OCalls.below {w w' : World} {B : Nat} {A : Option Addr} {l : List (Bool × Int × Int)} (h : OCalls w B A l) (hb : Below B w w') : OCalls w' B A l := fun j hj => by
  obtain ⟨b, off, h1, h2, h3, h4, h5⟩ := h j hj
  exact ⟨b, off, h1, h2, (hb.cell (p := ⟨b, _, none⟩) h2).trans h3, (hb.cell (p := ⟨b, _, none⟩) h2).trans h4, (hb.cell (p := ⟨b, _, none⟩) h2).trans h5⟩
section
variable {H : Type} {enc : TypeId × Value → H} {W : World}
end
/-- An order, and the document's beside it in a box. -/
structure TO (w wr : World) (F : Nat → Prop) (o n : Nat) (L : List (List Int)) (P V : List Nat) (bm n2 : Nat) (A : Option Addr) (q c : Nat) (Am : Option Addr) (cm : Nat) (L2 : List (List Int)) (V2 : List Nat) : Prop where
  on : OnF w wr F o n L P V
  box : Blk wr bm 55 #[.int .i64 (n2 : Int), .slice A q c, .slice Am n2 cm]
  boxL : w.heap.size ≤ bm
  boxF : ¬ F bm
  ro : RO wr n2 A q c Am cm L2 V2
  edF : ∀ b off, A = some ⟨b, off, none⟩ → ¬ F b ∧ b ≠ bm
  nmF : ∀ b off, Am = some ⟨b, off, none⟩ → ¬ F b ∧ b ≠ bm
theorem nums_at {w w' : World} {B B' : Nat} {A : Option Addr} {l : List Int} (h : Nums w B A l) (hk : ∀ b off o, A = some ⟨b, off, none⟩ → b < B → w'.cell? ⟨b, o, none⟩ = w.cell? ⟨b, o, none⟩) (hB : B ≤ B') : Nums w' B' A l := fun j hj => by
  obtain ⟨b, off, h1, h2, h3⟩ := h j hj
  exact ⟨b, off, h1, by omega, (hk b off _ h1 h2).trans h3⟩
theorem edges_at {w w' : World} {B B' : Nat} {A : Option Addr} {E : List (Int × Int)} (h : EdgesAt w B A E) (hk : ∀ b off o, A = some ⟨b, off, none⟩ → b < B → w'.cell? ⟨b, o, none⟩ = w.cell? ⟨b, o, none⟩) (hB : B ≤ B') : EdgesAt w' B' A E := fun j hj => by
  obtain ⟨b, off, h1, h2, h3, h4⟩ := h j hj
  exact ⟨b, off, h1, by omega, (hk b off _ h1 h2).trans h3, (hk b off _ h1 h2).trans h4⟩
section
variable {w wr w' : World} {F : Nat → Prop} {o n : Nat} {L : List (List Int)} {P V : List Nat} {bm n2 : Nat} {A : Option Addr} {q c : Nat} {Am : Option Addr} {cm : Nat} {L2 : List (List Int)} {V2 : List Nat}
theorem TO.below (h : TO w wr F o n L P V bm n2 A q c Am cm L2 V2) (hb : Below wr.heap.size wr w') : TO w w' F o n L P V bm n2 A q c Am cm L2 V2 where
  on := h.on.below hb
  box := h.box.below hb h.box.lt
  boxL := h.boxL
  boxF := h.boxF
  ro := h.ro.below hb
  edF := h.edF
  nmF := h.nmF
/-- The order is another; the document's is as it was. -/
theorem TO.upd {n' : Nat} {L' : List (List Int)} {P' V' : List Nat} (h : TO w wr F o n L P V bm n2 A q c Am cm L2 V2) (hU : OUpd w.heap.size F o n' L' P' V' wr w') : ∃ F', TO w w' F' o n' L' P' V' bm n2 A q c Am cm L2 V2 := by
  obtain ⟨F', h1, h2, h3⟩ := h.on.upd hU
  refine ⟨F', h1, (h2.block _ h.box.lt h.boxF).trans h.box, h.boxL, fun e => (h3 _ e).elim h.boxF (fun e => by have := h.box.lt; omega), { h.ro with ed := ?_, nums := ?_, la := ?_, lm := ?_ }, fun b off e => ?_, fun b off e => ?_⟩
  · exact edges_at h.ro.ed (fun b off o e hb => cell_same (h2.block b hb (h.edF b off e).1) o) h2.size
  · exact nums_at h.ro.nums (fun b off o e hb => cell_same (h2.block b hb (h.nmF b off e).1) o) h2.size
  · exact fun b off e => Nat.lt_of_lt_of_le (h.ro.la b off e) h2.size
  · exact fun b off e => Nat.lt_of_lt_of_le (h.ro.lm b off e) h2.size
  · obtain ⟨e1, e2⟩ := h.edF b off e
    exact ⟨fun e3 => (h3 _ e3).elim e1 (fun e3 => by have := h.ro.la b off e; omega), e2⟩
  · obtain ⟨e1, e2⟩ := h.nmF b off e
    exact ⟨fun e3 => (h3 _ e3).elim e1 (fun e3 => by have := h.ro.lm b off e; omega), e2⟩
/-- What the document answers is kept: in the box. -/
theorem TO.keep {n3 : Nat} {A' : Option Addr} {q' c' : Nat} {Am' : Option Addr} {cm' : Nat} {L3 : List (List Int)} {V3 : List Nat} (h : TO w wr F o n L P V bm n2 A q c Am cm L2 V2) (hb : Below wr.heap.size wr w') (hr : RO w' n3 A' q' c' Am' cm' L3 V3) (hA : NewB wr w' A A') (hM : NewB wr w' Am Am') {w2 : World} (hb2 : Below w'.heap.size w' w2) :
    TO w (((w2.setCell ⟨bm, 0, none⟩ (.int .i64 (n3 : Int))).setCell ⟨bm, 1, none⟩ (.slice A' q' c')).setCell ⟨bm, 2, none⟩ (.slice Am' n3 cm')) F o n L P V bm n3 A' q' c' Am' cm' L3 V3 := by
  have h1 := (h.below hb).below hb2
  have hed : ∀ b off, A' = some ⟨b, off, none⟩ → ¬ F b ∧ b ≠ bm := fun b off e => by
    rcases hA with e2 | e2
    · exact h.edF b off (by rw [← e2]; exact e)
    · obtain ⟨e3, e4⟩ := e2 b off e
      exact ⟨fun hf => by have := (h.on.f1 b hf).2; omega, fun e5 => by have := h.box.lt; omega⟩
  have hnm : ∀ b off, Am' = some ⟨b, off, none⟩ → ¬ F b ∧ b ≠ bm := fun b off e => by
    rcases hM with e2 | e2
    · exact h.nmF b off (by rw [← e2]; exact e)
    · obtain ⟨e3, e4⟩ := e2 b off e
      exact ⟨fun hf => by have := (h.on.f1 b hf).2; omega, fun e5 => by have := h.box.lt; omega⟩
  have f1 : ∀ off, A' ≠ some ⟨bm, off, none⟩ := fun off e => (hed _ _ e).2 rfl
  have f2 : ∀ off, Am' ≠ some ⟨bm, off, none⟩ := fun off e => (hnm _ _ e).2 rfl
  have hfr : Fr (fun k => k = bm) w2 (((w2.setCell ⟨bm, 0, none⟩ (.int .i64 (n3 : Int))).setCell ⟨bm, 1, none⟩ (.slice A' q' c')).setCell ⟨bm, 2, none⟩ (.slice Am' n3 cm')) := (((Fr.refl (fun k => k = bm) w2).set_ rfl 0 _).set_ rfl 1 _).set_ rfl 2 _
  refine ⟨⟨h1.on.ord.fr hfr (fun k hk e => h1.boxF (by rw [← e]; exact hk)), fun k e => by simpa using h1.on.f1 k e, ((h1.on.low.setCell (p := ⟨bm, 0, none⟩) h.boxL _).setCell (p := ⟨bm, 1, none⟩) h.boxL _).setCell (p := ⟨bm, 2, none⟩) h.boxL _⟩, ((h1.box.set_ 0 _).set_ 1 _).set_ 2 _, h.boxL, h.boxF, ?_, hed, hnm⟩
  exact (((hr.below hb2).set_ 0 _ f1 f2).set_ 1 _ f1 f2).set_ 2 _ f1 f2
end
/-- What Put tells and leaves, of whatever numbers. -/
def PutD (n : Nat) (L : List (List Int)) (P V : List Nat) (u v : Int) (cc k : Nat) (L' : List (List Int)) (P' V' : List Nat) : Prop :=
  if (isV n u && isV n v) = true then Put1 n L P V u.toNat v.toNat cc k L' P' V' else cc = 0 ∧ k = 2 ∧ L' = L ∧ P' = P ∧ V' = V
theorem PutD.det {n : Nat} {L L1 L2 : List (List Int)} {P V P1 V1 P2 V2 : List Nat} {u v : Int} {c k c2 k2 : Nat} (h : PutD n L P V u v c k L1 P1 V1) (g : PutD n L P V u v c2 k2 L2 P2 V2) : c = c2 ∧ k = k2 ∧ L1 = L2 ∧ P1 = P2 ∧ V1 = V2 := by
  unfold PutD at h g
  by_cases hc : (isV n u && isV n v) = true
  · rw [if_pos hc] at h g
    exact h.det g
  · rw [if_neg hc] at h g
    obtain ⟨rfl, rfl, rfl, rfl, rfl⟩ := h
    obtain ⟨rfl, rfl, rfl, rfl, rfl⟩ := g
    exact ⟨rfl, rfl, rfl, rfl, rfl⟩
theorem PutD.st {n : Nat} {L L' : List (List Int)} {P V P' V' : List Nat} {u v : Int} {c k : Nat} (h : PutD n L P V u v c k L' P' V') (hs : OSt n L P V) : OSt n L' P' V' := by
  unfold PutD at h
  by_cases hc : (isV n u && isV n v) = true
  · rw [if_pos hc] at h
    rw [Bool.and_eq_true] at hc
    obtain ⟨a, rfl, ha⟩ := isV_nat hc.1
    obtain ⟨b, rfl, hb⟩ := isV_nat hc.2
    exact h.st hs ha hb
  · rw [if_neg hc] at h
    obtain ⟨-, -, rfl, rfl, rfl⟩ := h
    exact hs
theorem PutD.few {n : Nat} {L L' : List (List Int)} {P V P' V' : List Nat} {u v : Int} {c k : Nat} (h : PutD n L P V u v c k L' P' V') : c ≤ n ∧ k ≤ 25 := by
  unfold PutD at h
  by_cases hc : (isV n u && isV n v) = true
  · rw [if_pos hc] at h
    exact ⟨h.few, by rcases h.code.2 with e | e <;> omega⟩
  · rw [if_neg hc] at h
    exact ⟨by omega, by omega⟩
theorem putD_o {w : World} {base o n : Nat} {F : Nat → Prop} {L : List (List Int)} {P V : List Nat} (h : OAt w base F o n L P V) (hs : OSt n L P V) (hn : n ≤ 15000) (u v : Int) :
    Calls Try.prog 30 #[.pointer (some ⟨o, 0, none⟩), .int .i64 u, .int .i64 v] w fun e w' => ∃ (c k : Nat) (L' : List (List Int)) (P' V' : List Nat), e = .returned (.tuple #[.int .i64 (c : Nat), .int .i64 (k : Nat)]) ∧ PutD n L P V u v c k L' P' V' ∧ OUpd base F o n L' P' V' w w' := by
  by_cases hc : (isV n u && isV n v) = true
  · have hc2 := hc
    rw [Bool.and_eq_true] at hc2
    obtain ⟨a, rfl, ha⟩ := isV_nat hc2.1
    obtain ⟨b, rfl, hb⟩ := isV_nat hc2.2
    refine (putOS_any h hs hn a b ha hb).mono ?_
    rintro e w' ⟨c, k, L', P', V', rfl, h1, h2⟩
    exact ⟨c, k, L', P', V', rfl, by unfold PutD; rw [if_pos hc]; exact h1, h2⟩
  · refine (putO_refused w base o n F L P V h u v (fun e => hc (by rw [Bool.and_eq_true]; exact e))).mono ?_
    rintro e w' ⟨rfl, rfl⟩
    exact ⟨0, 2, L, P, V, rfl, by unfold PutD; rw [if_neg hc]; exact ⟨rfl, rfl, rfl, rfl, rfl⟩, OUpd.refl h⟩
theorem putD_r {w : World} {n : Nat} (hn : n ≤ 10000) {L : List (List Int)} {P V : List Nat} (hs : OSt n L P V) {A : Option Addr} {q c : Nat} {Am : Option Addr} {cm : Nat} (hR : RO w n A q c Am cm L V) (hbig : q ≤ 100000) (u v : Int) :
    Calls Try.prog 47 #[ov n A q c Am n cm, .int .i64 u, .int .i64 v] w fun e w' => ∃ (cc k : Nat) (L' : List (List Int)) (P' V' : List Nat) (A' : Option Addr) (q' c' : Nat) (Am' : Option Addr) (cm' : Nat), e = .returned (.tuple #[ov n A' q' c' Am' n cm', .int .i64 (cc : Nat), .int .i64 (k : Nat)]) ∧ PutD n L P V u v cc k L' P' V' ∧ Below w.heap.size w w' ∧ RO w' n A' q' c' Am' cm' L' V' ∧ q' ≤ q + 1 ∧ NewB w w' A A' ∧ NewB w w' Am Am' := by
  refine (putR_any w n hn L P V hs A q c Am cm hR hbig u v).mono ?_
  rintro e w' ⟨hB, hP⟩
  by_cases hc : (isV n u && isV n v) = true
  · rw [if_pos hc] at hP
    obtain ⟨cc, k, L', P', V', A', q', c', Am', cm', h1, h2, h3⟩ := hP
    exact ⟨cc, k, L', P', V', A', q', c', Am', cm', h1, by unfold PutD; rw [if_pos hc]; exact h2, hB, h3⟩
  · rw [if_neg hc] at hP
    exact ⟨0, 2, L, P, V, A, q, c, Am, cm, hP, by unfold PutD; rw [if_neg hc]; exact ⟨rfl, rfl, rfl, rfl, rfl⟩, hB, hR.below hB, by omega, .refl _ _ _, .refl _ _ _⟩
/-- What Grow leaves and tells, of whatever number. -/
def oN (n : Nat) (k : Int) : Nat := if canGrow n k then n + k.toNat else n
def oC (n : Nat) (k : Int) : Int := if canGrow n k then 0 else 2
def oL (n : Nat) (L : List (List Int)) (k : Int) : List (List Int) := if canGrow n k then growL L k.toNat else L
def oP (n : Nat) (P : List Nat) (k : Int) : List Nat := if canGrow n k then gro P n k.toNat else P
theorem oSt {n : Nat} {L : List (List Int)} {P V : List Nat} (h : OSt n L P V) (k : Int) : OSt (oN n k) (oL n L k) (oP n P k) (oP n V k) := by
  unfold oN oL oP
  by_cases hc : canGrow n k = true
  · rw [if_pos hc, if_pos hc, if_pos hc, if_pos hc]
    exact ⟨h.ok.grow _, h.perm.gro _, h.up.gro h.ok h.perm _⟩
  · rw [if_neg hc, if_neg hc, if_neg hc, if_neg hc]
    exact h
theorem oN_le {n : Nat} {k : Int} (h : k ≤ 4 ∨ 10000 < k) : oN n k ≤ n + 4 := by
  unfold oN canGrow
  split
  · rename_i hc
    rw [Bool.and_eq_true, decide_eq_true_eq, decide_eq_true_eq] at hc
    omega
  · omega
theorem growD_o {w : World} {base o n : Nat} {F : Nat → Prop} {L : List (List Int)} {P V : List Nat} (h : OAt w base F o n L P V) (hs : OSt n L P V) (hn : n ≤ 10000) (k : Int) :
    Calls Try.prog 42 #[.pointer (some ⟨o, 0, none⟩), .int .i64 k] w fun e w' => e = .returned (.int .i64 (oC n k)) ∧ OUpd base F o (oN n k) (oL n L k) (oP n P k) (oP n V k) w w' := by
  refine (growO_any w base o n F L P V h hs.perm hn k).mono ?_
  intro e w' hG
  unfold OGrowOut at hG
  unfold oN oC oL oP
  by_cases hc : canGrow n k = true
  · rw [if_pos hc] at hG
    rw [if_pos hc, if_pos hc, if_pos hc, if_pos hc, if_pos hc]
    exact hG
  · rw [if_neg hc] at hG
    rw [if_neg hc, if_neg hc, if_neg hc, if_neg hc, if_neg hc]
    obtain ⟨rfl, rfl⟩ := hG
    exact ⟨rfl, OUpd.refl h⟩
theorem growD_r {w : World} {n : Nat} (hn : n ≤ 10000) {L : List (List Int)} {P V : List Nat} (hs : OSt n L P V) {A : Option Addr} {q c : Nat} {Am : Option Addr} {cm : Nat} (hR : RO w n A q c Am cm L V) (k : Int) :
    Calls Try.prog 46 #[ov n A q c Am n cm, .int .i64 k] w fun e w' => ∃ (Am' : Option Addr) (cm' : Nat), e = .returned (.tuple #[ov (oN n k) A q c Am' (oN n k) cm', .int .i64 (oC n k)]) ∧ Below w.heap.size w w' ∧ RO w' (oN n k) A q c Am' cm' (oL n L k) (oP n V k) ∧ NewB w w' Am Am' := by
  refine (growR_any w n hn A q c Am cm V hs.perm.la hR.nums k).mono ?_
  intro e w' hG
  unfold GrowR at hG
  unfold oN oC oL oP
  by_cases hc : canGrow n k = true
  · rw [if_pos hc] at hG
    rw [if_pos hc, if_pos hc, if_pos hc, if_pos hc]
    obtain ⟨A', c', rfl, ho, hB⟩ := hG
    obtain ⟨n1, n2, n3, n4⟩ := Nums.of_own ho
    refine ⟨A', c', rfl, hB, { hR.below hB with ed := ?_, q1 := ?_, nums := n1, k1 := n3, k2 := n4, lm := Lies.of_own ho }, NewB.of_own ho (Nat.le_refl _)⟩
    · rw [Gr.tells_grow hs.ok]; exact edges_more hR.ed hB
    · rw [Gr.tells_grow hs.ok]; exact hR.q1
  · rw [if_neg hc] at hG
    rw [if_neg hc, if_neg hc, if_neg hc, if_neg hc]
    exact ⟨Am, cm, hG.1, hG.2, hR.below hG.2, .refl _ _ _⟩
end Go.Proofs.Ytelplccbcbegkaa.OrW
