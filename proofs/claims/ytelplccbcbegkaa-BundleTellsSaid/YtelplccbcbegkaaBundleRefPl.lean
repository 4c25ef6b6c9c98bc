/-
  What the document's bundles do, plainly.
-/
import Derived.Test.YtelplccbcbegkaaOrderCalls
import Derived.Test.YtelplccbcbegkaaBundleCycle
namespace Go.Proofs.Ytelplccbcbegkaa.Ord
set_option linter.unusedVariables false
open Go.Proofs.Ytelplccbcbegkaa.Gr (E Path Inside OK outs intos Cyc putL edgesTo)
open Go.Proofs.Ytelplccbcbegkaa.GrW (isV growL canGrow isV_nat)
open Go.Proofs.Ytelplccbcbegkaa.OrW (PutD CycL)

theorem isV_of {n a : Nat} (h : a < n) : isV n (a : Int) = true := by unfold isV; simp; omega
theorem PutI.detP {n : Nat} {L L1 L2 : List (List Int)} {P A P1 A1 P2 A2 : List Nat} {x : Int × Int} {c k c2 k2 : Nat} (h : PutI n L P A x c k L1 P1 A1) (g : PutI n L P A x c2 k2 L2 P2 A2) : c = c2 ∧ k = k2 ∧ L1 = L2 ∧ P1 = P2 ∧ A1 = A2 := by
  rcases h with ⟨h0, rfl, rfl, rfl, rfl, rfl⟩ | ⟨a, b, ha, hb, e, h⟩
  · rcases g with ⟨-, rfl, rfl, rfl, rfl, rfl⟩ | ⟨a, b, ha, hb, e, -⟩
    · exact ⟨rfl, rfl, rfl, rfl, rfl⟩
    · rw [e] at h0
      simp [isV_of ha, isV_of hb] at h0
  · rcases g with ⟨h0, -⟩ | ⟨a2, b2, -, -, e2, g⟩
    · rw [e] at h0
      simp [isV_of ha, isV_of hb] at h0
    · rw [e, Prod.mk.injEq, Int.natCast_inj, Int.natCast_inj] at e2
      obtain ⟨rfl, rfl⟩ := e2
      exact h.det g
theorem PutD_i {n : Nat} {L L' : List (List Int)} {P V P' V' : List Nat} {u v : Int} {c k : Nat} (h : PutD n L P V u v c k L' P' V') : PutI n L P V (u, v) c k L' P' V' := by
  unfold OrW.PutD at h
  by_cases hc : (isV n u && isV n v) = true
  · rw [if_pos hc] at h
    rw [Bool.and_eq_true] at hc
    obtain ⟨a, rfl, ha⟩ := isV_nat hc.1
    obtain ⟨b, rfl, hb⟩ := isV_nat hc.2
    exact .inr ⟨a, b, ha, hb, rfl, h⟩
  · rw [if_neg hc] at h
    obtain ⟨rfl, rfl, rfl, rfl, rfl⟩ := h
    exact .inl ⟨Bool.eq_false_iff.2 hc, rfl, rfl, rfl, rfl, rfl⟩
theorem Ran.detP' {n : Nat} {L L1 : List (List Int)} {P A P1 A1 : List Nat} {es : List (Int × Int)} (h : Ran n L P A es L1 P1 A1) : ∀ {P2 A2 : List Nat} {L2 : List (List Int)} {es2 : List (Int × Int)}, Ran n L P A es2 L2 P2 A2 → es = es2 → L1 = L2 ∧ P1 = P2 ∧ A1 = A2 := by
  induction h with
  | nil =>
    intro P2 A2 L2 es2 h2 hes
    cases h2 with
    | nil => exact ⟨rfl, rfl, rfl⟩
    | snoc _ _ => simp at hes
  | snoc h1 h3 ih =>
    intro P2 A2 L2 es2 h2 hes
    cases h2 with
    | nil => simp at hes
    | snoc k1 k3 =>
      obtain ⟨e1, e2⟩ := List.append_inj' hes rfl
      simp only [List.cons.injEq, and_true] at e2
      subst e2
      obtain ⟨rfl, rfl, rfl⟩ := ih k1 e1
      exact (h3.detP k3).2.2
theorem Ran.detP {n : Nat} {L L1 L2 : List (List Int)} {P A P1 A1 P2 A2 : List Nat} {es : List (Int × Int)} (h : Ran n L P A es L1 P1 A1) (g : Ran n L P A es L2 P2 A2) : L1 = L2 ∧ P1 = P2 ∧ A1 = A2 := h.detP' g rfl
theorem FitsC.det {n : Nat} {L : List (List Int)} {P A : List Nat} {more : Int} {es : List (Int × Int)} {k k2 : Nat} (h : FitsC n L P A more es k) (g : FitsC n L P A more es k2) : k = k2 := by
  unfold FitsC at h g
  by_cases hc : canGrow n more = true
  · rw [if_pos hc] at h g
    obtain ⟨i, L1, P1, A1, h⟩ := h
    obtain ⟨i2, L2, P2, A2, g⟩ := g
    exact (h.det g).2.1
  · rw [if_neg hc] at h g
    rw [h, g]
theorem cycL_det {L : List (List Int)} {x : Int × Int} {l m : List Nat} (h : CycL L x l) (g : CycL L x m) : l = m := by
  obtain ⟨a, b, rfl, h⟩ := h
  obtain ⟨a2, b2, e, g⟩ := g
  rw [Prod.mk.injEq, Int.natCast_inj, Int.natCast_inj] at e
  obtain ⟨rfl, rfl⟩ := e
  rcases h with ⟨h1, rfl⟩ | ⟨h1, h2⟩ <;> rcases g with ⟨g1, rfl⟩ | ⟨g1, g2⟩
  · rfl
  · exact absurd h1 g1
  · exact absurd g1 h1
  · exact h2.uniq g2
/-- How many of the first vertices have another place. -/
def rch (P P' : List Nat) (i : Nat) : Nat := (List.range i).countP fun v => decide (P'.getD v 0 ≠ P.getD v 0)
theorem rch_succ (P P' : List Nat) (i : Nat) : rch P P' (i + 1) = rch P P' i + if P'.getD i 0 ≠ P.getD i 0 then 1 else 0 := by
  unfold rch
  rw [List.range_succ, List.countP_append]
  congr 1
  by_cases h : P'.getD i 0 ≠ P.getD i 0
  · rw [if_pos h, List.countP_cons_of_pos (by simpa using h)]; rfl
  · rw [if_neg h, List.countP_cons_of_neg (by simpa using h)]; rfl
theorem perm_map {n : Nat} {P A : List Nat} (h : Perm n P A) : ((List.range n).map fun p => A.getD p 0).Perm (List.range n) := by
  rw [List.perm_ext_iff_of_nodup]
  · intro v
    rw [List.mem_map, List.mem_range]
    constructor
    · rintro ⟨p, hp, rfl⟩
      exact (h.ap p (List.mem_range.1 hp)).1
    · intro hv
      exact ⟨P.getD v 0, List.mem_range.2 (h.pa v hv).1, (h.pa v hv).2⟩
  · unfold List.Nodup
    rw [List.pairwise_map]
    refine List.Pairwise.imp_of_mem ?_ (List.pairwise_lt_range (n := n))
    intro a b ha hb hab e
    have := h.injA (List.mem_range.1 ha) (List.mem_range.1 hb) e
    omega
  · exact List.nodup_range
theorem bch_rch {n : Nat} {P A : List Nat} (h : Perm n P A) (P' : List Nat) : bch A P' n = rch P P' n := by
  have e := (perm_map h).countP_eq (fun v => decide (P'.getD v 0 ≠ P.getD v 0))
  rw [List.countP_map] at e
  unfold bch rch
  rw [← e]
  refine List.countP_congr fun p hp => ?_
  have h2 := (h.ap p (List.mem_range.1 hp)).2
  simp only [Function.comp_apply, h2]
/-- The fewest steps, as the document tells them: -1 if there is no way. -/
def StepsIs (L : List (List Int)) (tz v : Nat) (r : Int) : Prop := (∃ d : Nat, Least L tz v d ∧ r = (d : Int)) ∨ ((∀ d, ¬ Least L tz v d) ∧ r = -1)
theorem StepsIs.iff {L : List (List Int)} {tz v d : Nat} {r : Int} (h : StepsIs L tz v r) : r = (d : Int) ↔ Least L tz v d := by
  rcases h with ⟨d2, h1, rfl⟩ | ⟨h1, rfl⟩
  · constructor
    · intro e
      have : d2 = d := by omega
      rw [← this]; exact h1
    · intro h2
      rw [h1.uniq h2]
  · exact ⟨fun e => by omega, fun h2 => absurd h2 (h1 d)⟩
/-- The distances as the document finds them: after k rounds, and the first i edges of the next. -/
structure Wave (n : Nat) (L : List (List Int)) (tz k i : Nat) (f : List Nat) : Prop where
  len : f.length = n
  right : ∀ v, f.getD v 0 ≠ 0 → Least L tz v (f.getD v 0 - 1) ∧ f.getD v 0 ≤ k + 1
  all : ∀ v d, Least L tz v d → d + 1 ≤ k → f.getD v 0 = d + 1
  seen : ∀ j (hj : j < (edgesTo L n).length), j < i → ∀ x y : Nat, (edgesTo L n)[j] = ((x : Int), (y : Int)) → f.getD y 0 = k → f.getD x 0 ≠ 0
section
variable {n : Nat} {L : List (List Int)} {tz k i : Nat} {f : List Nat}
theorem getD_put {f : List Nat} {a b x : Nat} (ha : a < f.length) : (f.set a x).getD b 0 = if b = a then x else f.getD b 0 := by
  simp only [List.getD, List.getElem?_set]
  by_cases e : a = b
  · subst e; simp [ha]
  · rw [if_neg e, if_neg (fun e2 => e e2.symm)]
theorem Wave.start (hto : tz < n) : Wave n L tz 1 0 ((List.replicate n 0).set tz 1) := by
  have hg : ∀ v, ((List.replicate n 0).set tz 1).getD v 0 = if v = tz then 1 else 0 := fun v => by
    rw [getD_put (by simpa using hto)]
    congr 1
    simp [List.getD, List.getElem?_replicate]; split <;> rfl
  refine ⟨by simp, fun v hv => ?_, fun v d h1 h2 => ?_, fun j hj h => absurd h (Nat.not_lt_zero _)⟩
  · rw [hg] at hv ⊢
    by_cases e : v = tz
    · subst e; rw [if_pos rfl]; exact ⟨.top, by omega⟩
    · rw [if_neg e] at hv; exact absurd rfl hv
  · have hd : d = 0 := by omega
    subst hd
    rw [hg, h1.zero, if_pos rfl]
/-- An edge that tells nothing new. -/
theorem Wave.skip (h : Wave n L tz k i f) (hi : i < (edgesTo L n).length) {x y : Nat} (he : (edgesTo L n)[i] = ((x : Int), (y : Int))) (hn : ¬ (f.getD y 0 = k ∧ f.getD x 0 = 0)) : Wave n L tz k (i + 1) f := by
  refine ⟨h.len, h.right, h.all, fun j hj hji x2 y2 e hy => ?_⟩
  by_cases e2 : j < i
  · exact h.seen j hj e2 x2 y2 e hy
  · have : j = i := by omega
    subst this
    rw [he, Prod.mk.injEq, Int.natCast_inj, Int.natCast_inj] at e
    obtain ⟨rfl, rfl⟩ := e
    exact fun e0 => hn ⟨hy, e0⟩
theorem edge_in {n : Nat} {L : List (List Int)} {i : Nat} (hi : i < (edgesTo L n).length) {x y : Nat} (he : (edgesTo L n)[i] = ((x : Int), (y : Int))) : E L x y ∧ x < n := by
  have hm := List.getElem_mem hi
  rw [he] at hm
  obtain ⟨u, hu, h1, h2⟩ := Gr.mem_edgesTo.1 hm
  have h1 : (x : Int) = (u : Int) := h1
  have : x = u := by omega
  subst this
  exact ⟨h2, hu⟩
theorem edge_at {n : Nat} {L : List (List Int)} {x y : Nat} (he : E L x y) (hx : x < n) : ∃ i, ∃ hi : i < (edgesTo L n).length, (edgesTo L n)[i] = ((x : Int), (y : Int)) := by
  have hm : ((x : Int), (y : Int)) ∈ edgesTo L n := Gr.mem_edgesTo.2 ⟨x, hx, rfl, he⟩
  obtain ⟨i, hi, e⟩ := List.getElem_of_mem hm
  exact ⟨i, hi, e⟩
/-- An edge whose begin is found. -/
theorem Wave.found (h : Wave n L tz k i f) (hk : 1 ≤ k) (hi : i < (edgesTo L n).length) {x y : Nat} (he : (edgesTo L n)[i] = ((x : Int), (y : Int))) (hy : f.getD y 0 = k) (hx : f.getD x 0 = 0) : Wave n L tz k (i + 1) (f.set x (k + 1)) := by
  obtain ⟨e1, hxn⟩ := edge_in hi he
  have hg : ∀ v, (f.set x (k + 1)).getD v 0 = if v = x then k + 1 else f.getD v 0 := fun v => getD_put (by rw [h.len]; exact hxn)
  obtain ⟨hly, -⟩ := h.right y (by omega)
  have hlx : Least L tz x k := by
    have h1 : Steps L tz x ((k - 1) + 1) := .step e1 (by rw [hy] at hly; exact hly.1)
    rw [show (k - 1) + 1 = k by omega] at h1
    obtain ⟨d', h2, h3⟩ := h1.least
    by_cases h4 : d' + 1 ≤ k
    · have := h.all x d' h3 h4; omega
    · have : d' = k := by omega
      rw [← this]; exact h3
  refine ⟨by rw [List.length_set, h.len], fun v hv => ?_, fun v d h1 h2 => ?_, fun j hj hji x2 y2 e hy2 => ?_⟩
  · rw [hg] at hv ⊢
    by_cases e : v = x
    · rw [if_pos e, e]; exact ⟨hlx, Nat.le_refl _⟩
    · rw [if_neg e] at hv ⊢; exact h.right v hv
  · rw [hg]
    by_cases e : v = x
    · subst e
      have := hlx.uniq h1
      omega
    · rw [if_neg e]; exact h.all v d h1 h2
  · rw [hg] at hy2 ⊢
    by_cases e2 : x2 = x
    · rw [if_pos e2]; omega
    · rw [if_neg e2]
      by_cases e3 : y2 = x
      · rw [if_pos e3] at hy2; omega
      · rw [if_neg e3] at hy2
        by_cases e4 : j < i
        · exact h.seen j hj e4 x2 y2 e hy2
        · have : j = i := by omega
          subst this
          rw [he, Prod.mk.injEq, Int.natCast_inj, Int.natCast_inj] at e
          exact absurd e.1.symm e2
/-- A round is over. -/
theorem Wave.round (ok : OK n L) (hk : 1 ≤ k) (h : Wave n L tz k (edgesTo L n).length f) : Wave n L tz (k + 1) 0 f := by
  refine ⟨h.len, fun v hv => ⟨(h.right v hv).1, by have := (h.right v hv).2; omega⟩, fun v d h1 h2 => ?_, fun j hj hji => absurd hji (Nat.not_lt_zero _)⟩
  by_cases h3 : d + 1 ≤ k
  · exact h.all v d h1 h3
  · obtain ⟨d', rfl⟩ : ∃ d', d = d' + 1 := ⟨d - 1, by omega⟩
    obtain ⟨u, he, hu⟩ := h1.next
    have hfu := h.all u d' hu (by omega)
    have hvn := (E.lt ok he).1
    obtain ⟨j, hj, ej⟩ := edge_at he hvn
    have hne := h.seen j hj hj v u ej (by omega)
    have := (h.right v hne).1.uniq h1
    omega
theorem Wave.done (ok : OK n L) (hto : tz < n) (h : Wave n L tz (n + 1) 0 f) (v : Nat) : StepsIs L tz v ((f.getD v 0 : Nat) - 1 : Int) := by
  by_cases hv : f.getD v 0 = 0
  · right
    refine ⟨fun d hd => ?_, by rw [hv]; rfl⟩
    have h1 := hd.few ok hto
    have := h.all v d hd (by omega)
    omega
  · left
    exact ⟨f.getD v 0 - 1, (h.right v hv).1, by omega⟩
end
/-- On the way that the document tells. -/
structure Onto (L : List (List Int)) (tz fz : Nat) (out : List Nat) (at_ d : Nat) : Prop where
  here : Least L tz at_ d
  way : ∀ l, WayTo L tz at_ (at_ :: l) → WayTo L tz fz (out ++ l)
  long : ∀ d0, Least L tz fz d0 → out.length + d = d0 + 1
section
variable {L : List (List Int)} {tz fz : Nat}
theorem Onto.start {d : Nat} (h : Least L tz fz d) : Onto L tz fz [fz] fz d := ⟨h, fun l hl => hl, fun d0 h0 => by rw [h.uniq h0]; simp; omega⟩
theorem Onto.go {out : List Nat} {a d v : Nat} (h : Onto L tz fz out a (d + 1)) (he : E L a v) (hv : Least L tz v d) (hmin : ∀ u', E L a u' → Least L tz u' d → v ≤ u') : Onto L tz fz (out ++ [v]) v d where
  here := hv
  way := fun l hl => by
    have := h.way (v :: l) (.step h.here he hv hmin hl)
    rw [List.append_assoc]; exact this
  long := fun d0 h0 => by have := h.long d0 h0; rw [List.length_append]; simp; omega
theorem Onto.end_ {out : List Nat} {d : Nat} (h : Onto L tz fz out tz d) : WayTo L tz fz out := by
  have := h.way [] .here
  rwa [List.append_nil] at this
theorem Onto.pos {out : List Nat} {a d : Nat} (h : Onto L tz fz out a d) (hne : a ≠ tz) : ∃ d', d = d' + 1 := by
  cases d with
  | zero => exact absurd h.here.zero hne
  | succ d => exact ⟨d, rfl⟩
/-- The least one so far, of those that are looked at from the top down. -/
structure Pick (L : List (List Int)) (tz a d N j : Nat) (r : Int) : Prop where
  some_ : r ≠ -1 → ∃ v : Nat, r = (v : Int) ∧ v < N ∧ E L a v ∧ Least L tz v d ∧ ∀ u, j ≤ u → E L a u → Least L tz u d → v ≤ u
  none_ : r = -1 → ∀ u, j ≤ u → E L a u → ¬ Least L tz u d
theorem Pick.start {n a d N : Nat} (ok : OK n L) (hN : N = n) : Pick L tz a d N N (-1) := ⟨fun h => absurd rfl h, fun _ u hu he => by have := (E.lt ok he).2; omega⟩
theorem Pick.yes {a d N j : Nat} {r : Int} (h : Pick L tz a d N (j + 1) r) (hj : j < N) (he : E L a j) (hd : Least L tz j d) : Pick L tz a d N j (j : Int) :=
  ⟨fun _ => ⟨j, rfl, hj, he, hd, fun u hu _ _ => hu⟩, fun e => by omega⟩
theorem Pick.no {a d N j : Nat} {r : Int} (h : Pick L tz a d N (j + 1) r) (hn : ¬ (E L a j ∧ Least L tz j d)) : Pick L tz a d N j r := by
  refine ⟨fun e => ?_, fun e u hu he hd => ?_⟩
  · obtain ⟨v, h1, h2, h3, h4, h5⟩ := h.some_ e
    refine ⟨v, h1, h2, h3, h4, fun u hu he hd => ?_⟩
    by_cases e2 : u = j
    · subst e2; exact absurd ⟨he, hd⟩ hn
    · exact h5 u (by omega) he hd
  · by_cases e2 : u = j
    · subst e2; exact hn ⟨he, hd⟩
    · exact h.none_ e u (by omega) he hd
theorem Pick.end_ {a d N : Nat} {r : Int} (h : Pick L tz a d N 0 r) (ha : Least L tz a (d + 1)) : ∃ v : Nat, r = (v : Int) ∧ v < N ∧ E L a v ∧ Least L tz v d ∧ ∀ u, E L a u → Least L tz u d → v ≤ u := by
  obtain ⟨u, h1, h2⟩ := ha.next
  by_cases e : r = -1
  · exact absurd h2 (h.none_ e u (Nat.zero_le _) h1)
  · obtain ⟨v, g1, g2, g3, g4, g5⟩ := h.some_ e
    exact ⟨v, g1, g2, g3, g4, fun u hu hd => g5 u (Nat.zero_le _) hu hd⟩
end
end Go.Proofs.Ytelplccbcbegkaa.Ord
