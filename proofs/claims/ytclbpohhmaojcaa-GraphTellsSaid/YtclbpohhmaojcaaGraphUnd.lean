/-
  The memory of GraphUndone: a graph, its copy, what was told ahead, the edges that are new.
-/
import Derived.Test.YtclbpohhmaojcaaGraphUndPl
namespace Go.Proofs.Ytclbpohhmaojcaa.GrW
set_option linter.unusedVariables false
open Go Go.RowKit Go.Proofs Go.Proofs.Ytclbpohhmaojcaa Go.Proofs.Ytclbpohhmaojcaa.Wd
open Go.Proofs.Ytclbpohhmaojcaa.Gr (OK ofL IsR outs intos ev edgesTo putL cutL)

theorem GAt.exist {w : World} {base g n : Nat} {F : Nat → Prop} {L : List (List Int)} (h : GAt w base F g n L) : GAt w base (fun k => F k ∧ k < w.heap.size) g n L := by
  obtain ⟨r, c, cur, h1, h2, h3, h4, h5, h6, h7, f1, f2, f3⟩ := h
  refine ⟨r, c, cur, h1, h2, h3, h4, h5, h6, h7, ⟨f1, h1.lt⟩, ⟨f2, h3.blk.lt⟩, fun i v b hi hv hb => ⟨f3 i v b hi hv hb, ?_⟩⟩
  obtain ⟨v2, e1, e2⟩ := h3.row i hi
  rw [hv] at e1
  cases e1
  exact (e2.owns hb).2
/-- The blocks that may be another: the graph's, and new ones. -/
def Gs (B0 B1 B3 : Nat) (k : Nat) : Prop := (B0 ≤ k ∧ k < B1) ∨ B3 ≤ k
/-- The graph, and the row of the edges that are new. -/
structure UG (B0 B1 B3 : Nat) (F : Nat → Prop) (w3 wr : World) (g n : Nat) (L : List (List Int)) (fv : Value) (fl : List (Int × Int)) : Prop where
  gr : GAt wr B0 F g n L
  sub : ∀ j, F j → Gs B0 B1 B3 j
  own : wr.ownsRow B3 32 2 fv fl.length (ev fl)
  sep : ∀ q, fv.ownBlock = some q → ¬ F q
  fr : Fr (Gs B0 B1 B3) w3 wr
theorem UG.size {B0 B1 B3 : Nat} {F : Nat → Prop} {w3 wr : World} {g n : Nat} {L : List (List Int)} {fv : Value} {fl : List (Int × Int)} (h : UG B0 B1 B3 F w3 wr g n L fv fl) : w3.heap.size ≤ wr.heap.size := h.fr.size
theorem UG.below {B0 B1 B3 : Nat} {F : Nat → Prop} {w3 wr w' : World} {g n : Nat} {L : List (List Int)} {fv : Value} {fl : List (Int × Int)} (h : UG B0 B1 B3 F w3 wr g n L fv fl) (hb : Below wr.heap.size wr w') : UG B0 B1 B3 F w3 w' g n L fv fl where
  gr := h.gr.below hb
  sub := h.sub
  own := own_belowW h.own hb
  sep := h.sep
  fr := h.fr.trans (Fr.of_below (F := fun _ => False) hb) (fun _ _ e => e.elim)
theorem UG.exist {B0 B1 B3 : Nat} {F : Nat → Prop} {w3 wr : World} {g n : Nat} {L : List (List Int)} {fv : Value} {fl : List (Int × Int)} (h : UG B0 B1 B3 F w3 wr g n L fv fl) : UG B0 B1 B3 (fun k => F k ∧ k < wr.heap.size) w3 wr g n L fv fl where
  gr := h.gr.exist
  sub := fun j hj => h.sub j hj.1
  own := h.own
  sep := fun q hq hF => h.sep q hq hF.1
  fr := h.fr
theorem UG.upd {B0 B1 B3 : Nat} {F : Nat → Prop} {w3 wr w' : World} {g n : Nat} {L L' : List (List Int)} {fv : Value} {fl : List (Int × Int)} (h : UG B0 B1 B3 F w3 wr g n L fv fl) (h3 : B3 ≤ w3.heap.size) (hu : Upd B0 F g n L' wr w') : ∃ F', UG B0 B1 B3 F' w3 w' g n L' fv fl := by
  obtain ⟨F', h1, h2, h4⟩ := hu
  have hs := h.size
  refine ⟨F', h1, fun j hj => (h4 j hj).elim (h.sub j) (fun e => .inr (by omega)), own_keep h.own (fun q hq => ?_), fun q hq hF => ?_, h.fr.trans h2 (fun j _ hj => h.sub j hj)⟩
  · obtain ⟨_, cs, hb⟩ := own_row h.own hq
    exact h2.block q hb.lt (h.sep q hq)
  · obtain ⟨_, cs, hb⟩ := own_row h.own hq
    rcases h4 q hF with e | e
    · exact h.sep q hq e
    · have := hb.lt; omega
theorem UG.app {B0 B1 B3 : Nat} {F : Nat → Prop} {w3 wr w' : World} {g n : Nat} {L : List (List Int)} {fv fv' : Value} {fl : List (Int × Int)} {x : Int × Int} (h : UG B0 B1 B3 F w3 wr g n L fv fl) (h3 : B3 ≤ w3.heap.size)
    (ho : w'.ownsRow B3 32 2 fv' (fl.length + 1) (ev fl ++ ev [x])) (hg : wr.grownBy w' fv.ownBlock) (hv : ∀ q, fv'.ownBlock = some q → fv.ownBlock = some q ∨ q = wr.heap.size) : UG B0 B1 B3 (fun k => F k ∧ k < wr.heap.size) w3 w' g n L fv' (fl ++ [x]) where
  gr := h.gr.exist.fr (Fr.of_grown (F := fun k => fv.ownBlock = some k) hg (fun q hq => hq)) (fun k hk e => h.sep k e hk.1)
  sub := fun j hj => h.sub j hj.1
  own := by rw [List.length_append, Gr.ev_append]; exact ho
  sep := fun q hq hF => by
    rcases hv q hq with e | e
    · exact h.sep q e hF.1
    · have := hF.2; omega
  fr := h.fr.trans (Fr.of_grown (F := fun k => fv.ownBlock = some k) hg (fun q hq => hq)) (fun j _ hj => .inr (own_row h.own hj).1)
/-- All that lay ahead of the graph's own blocks is as it was. -/
theorem UG.low {B0 B1 B3 : Nat} {F : Nat → Prop} {w w3 wr : World} {g n : Nat} {L : List (List Int)} {fv : Value} {fl : List (Int × Int)} (h : UG B0 B1 B3 F w3 wr g n L fv fl) (hB : Below B0 w w3) (h0 : B0 ≤ w.heap.size) (h03 : B0 ≤ B3) : Below B0 w wr :=
  hB.trans (h.fr.low (fun k hk => by rcases hk with e | e <;> omega) (Nat.le_trans h0 hB.size))
/-- What lies between is as it was. -/
theorem UG.mid {B0 B1 B3 : Nat} {F : Nat → Prop} {w3 wr : World} {g n : Nat} {L : List (List Int)} {fv : Value} {fl : List (Int × Int)} (h : UG B0 B1 B3 F w3 wr g n L fv fl) {k : Nat} (h1 : B1 ≤ k) (h2 : k < B3) (h3 : B3 ≤ w3.heap.size) : wr.heap[k]? = w3.heap[k]? :=
  h.fr.block k (by omega) (fun e => by unfold Gs at e; omega)
/-- Put and Has, at numbers among the vertices. -/
theorem hasE_range {n : Nat} {x : Int} (hn : 0 < n) : ∃ a : Nat, x % (n : Int) = (a : Int) ∧ a < n := by
  have h1 := Int.emod_nonneg x (b := (n : Int)) (by omega)
  have h2 := Int.emod_lt_of_pos x (b := (n : Int)) (by omega)
  exact ⟨(x % (n : Int)).toNat, by omega, by omega⟩
theorem put_fresh {w : World} {base g n : Nat} {F : Nat → Prop} {L : List (List Int)} (h : GAt w base F g n L) (ok : OK n L) (hn : n ≤ 30000) (hbase : base ≤ w.heap.size) {a b : Nat} (ha : a < n) (hb : b < n) (hne : a ≠ b) : Calls Try.prog 21 #[.pointer (some ⟨g, 0, none⟩), .int .i64 a, .int .i64 b] w fun e w' => e = .returned (.tuple #[.bool (!hasE n L a b), .int .i64 0]) ∧ Upd base F g n (putL L a b) w w' := by
  refine (put_all w base g n F L h (ok.rises hn) hbase a b).mono ?_
  intro e w' hP
  unfold PutOut at hP
  rw [if_pos (by unfold canPut; rw [Gr.isV_of ha, Gr.isV_of hb]; simp; omega)] at hP
  exact hP
theorem put_equal {w : World} {base g n : Nat} {F : Nat → Prop} {L : List (List Int)} (h : GAt w base F g n L) (ok : OK n L) (hn : n ≤ 30000) (hbase : base ≤ w.heap.size) (a : Nat) : Calls Try.prog 21 #[.pointer (some ⟨g, 0, none⟩), .int .i64 a, .int .i64 a] w fun e w' => e = .returned (.tuple #[.bool false, .int .i64 2]) ∧ w' = w := by
  refine (put_all w base g n F L h (ok.rises hn) hbase a a).mono ?_
  intro e w' hP
  unfold PutOut at hP
  rw [if_neg (by unfold canPut; simp)] at hP
  exact hP
theorem cut_fresh {w : World} {base g n : Nat} {F : Nat → Prop} {L : List (List Int)} (h : GAt w base F g n L) (ok : OK n L) (hn : n ≤ 30000) (hbase : base ≤ w.heap.size) {a b : Nat} (ha : a < n) (hb : b < n) : Calls Try.prog 23 #[.pointer (some ⟨g, 0, none⟩), .int .i64 a, .int .i64 b] w fun e w' => e = .returned (.bool (hasE n L a b)) ∧ Upd base F g n (cutL L a b) w w' := by
  refine (cut_all w base g n F L h (ok.rises hn) hbase a b).mono ?_
  intro e w' hP
  unfold CutOut at hP
  rw [if_pos (by rw [Gr.isV_of ha, Gr.isV_of hb]; rfl)] at hP
  exact hP
theorem has_c {w : World} {base g n : Nat} {F : Nat → Prop} {L : List (List Int)} (h : GAt w base F g n L) (ok : OK n L) (hn : n ≤ 30000) (u v : Int) (b : Bool) (hb : hasE n L u v = b) : Calls Try.prog 18 #[.pointer (some ⟨g, 0, none⟩), .int .i64 u, .int .i64 v] w fun e w' => e = .returned (.bool b) ∧ Below w.heap.size w w' := by
  refine (has_any w base g n F L h (ok.rises hn) u v).mono ?_
  rintro e w' ⟨rfl, q, rfl⟩
  rw [hb]
  exact ⟨rfl, bdrewN (Below.refl _ _) q⟩
/-- A row of edges that lies between. -/
theorem same_own {w : World} {base base' : Nat} {A A' : Option Addr} {n c n' c' : Nat} {l m : List (Int × Int)} (h : w.ownsRow base 32 2 (.slice A n c) n (ev l)) (h' : w.ownsRow base' 32 2 (.slice A' n' c') n' (ev m)) :
    Calls Try.prog 22 #[.slice A n c, .slice A' n' c'] w fun e w' => e = .returned (.bool (decide (l = m))) ∧ Below w.heap.size w w' := by
  obtain ⟨h1, h2, h3, h4⟩ := EdgesAt.of_own h
  obtain ⟨k1, k2, k3, k4⟩ := EdgesAt.of_own h'
  exact sameEdges_any A A' c c' l m n n' h2 k2 h3 h4 w h1 k1
end Go.Proofs.Ytclbpohhmaojcaa.GrW
