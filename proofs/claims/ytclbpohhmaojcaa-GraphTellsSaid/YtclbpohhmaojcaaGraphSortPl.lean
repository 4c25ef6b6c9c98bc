/-
  What sorting is, plainly: the least vertex that is free, again and again.
-/
import Derived.Test.YtclbpohhmaojcaaGraphReachPl
namespace Go.Proofs.Ytclbpohhmaojcaa.Gr
set_option linter.unusedVariables false
open Go.Proofs.Ytclbpohhmaojcaa.GrW (add rk Rises ins)

/-- The rows of a vertex. -/
def outs (L : List (List Int)) (v : Nat) : List Int := L.getD (2 * v) []
def intos (L : List (List Int)) (v : Nat) : List Int := L.getD (2 * v + 1) []
/-- What goes out comes in. -/
def Cons (n : Nat) (L : List (List Int)) : Prop := ∀ u v : Nat, u < n → v < n → ((v : Int) ∈ outs L u ↔ (u : Int) ∈ intos L v)
/-- A vertex that is not told, all that goes to it told. -/
def Free (n : Nat) (L : List (List Int)) (out : List Int) (v : Nat) : Prop := v < n ∧ (v : Int) ∉ out ∧ ∀ u ∈ intos L v, u ∈ out
inductive Topo (n : Nat) (L : List (List Int)) : List Int → Prop
  | nil : Topo n L []
  | snoc {out : List Int} {v : Nat} : Topo n L out → Free n L out v → (∀ u, Free n L out u → v ≤ u) → Topo n L (out ++ [(v : Int)])
/-- How many vertices are not told. -/
def unt (n : Nat) (out : List Int) : Nat := (List.range n).countP fun (v : Nat) => !out.contains (v : Int)
theorem countP_less {p q : Nat → Bool} {v : Nat} (hp : p v = true) (hq : ∀ x, q x = (p x && decide (x ≠ v))) : ∀ {n : Nat}, v < n → (List.range n).countP q + 1 = (List.range n).countP p
  | 0, h => by omega
  | n + 1, h => by
    rw [List.range_succ, List.countP_append, List.countP_append]
    by_cases e : v = n
    · subst e
      have h1 : (List.range v).countP q = (List.range v).countP p := by
        apply List.countP_congr
        intro x hx
        have : x ≠ v := by have := List.mem_range.1 hx; omega
        rw [hq x]; simp [this]
      rw [h1]
      simp [hq, hp]
    · have ih := countP_less (p := p) (q := q) hp hq (n := n) (by omega)
      have h1 : q n = p n := by rw [hq n]; simp [Ne.symm e]
      simp only [List.countP_cons, List.countP_nil, h1]
      omega
theorem unt_snoc {n : Nat} {out : List Int} {v : Nat} (hv : v < n) (h : (v : Int) ∉ out) : unt n (out ++ [(v : Int)]) + 1 = unt n out := by
  unfold unt
  refine countP_less (v := v) (by simpa using h) (fun x => ?_) hv
  rw [Bool.eq_iff_iff]
  simp only [Bool.not_eq_true', Bool.and_eq_true, decide_eq_true_eq]
  rw [← Bool.not_eq_true, ← Bool.not_eq_true, List.contains_iff_mem, List.contains_iff_mem, List.mem_append, List.mem_singleton]
  constructor
  · intro h; exact ⟨fun e => h (.inl e), fun e => h (.inr (by rw [e]))⟩
  · rintro ⟨h1, h2⟩ (h | h)
    · exact h1 h
    · exact h2 (by omega)
theorem Topo.length {n : Nat} {L : List (List Int)} {out : List Int} (h : Topo n L out) : out.length + unt n out = n := by
  induction h with
  | nil => simp [unt]
  | snoc _ hf _ ih =>
    have := unt_snoc hf.1 hf.2.1
    rw [List.length_append, List.length_singleton]
    omega
/-- All that goes to who is told was told ahead of it. -/
theorem Topo.preds {n : Nat} {L : List (List Int)} {out : List Int} (h : Topo n L out) : ∀ v : Nat, (v : Int) ∈ out → ∀ u ∈ intos L v, u ∈ out := by
  induction h with
  | nil => intro v hv; simp at hv
  | @snoc out v' _ hf _ ih =>
    intro v hv u hu
    rw [List.mem_append] at hv ⊢
    rcases hv with hv | hv
    · exact .inl (ih v hv u hu)
    · have : v = v' := by simp at hv; omega
      subst this
      exact .inl (hf.2.2 u hu)
theorem Topo.inside {n : Nat} {L : List (List Int)} {out : List Int} (h : Topo n L out) : ∀ x ∈ out, ∃ v : Nat, x = v ∧ v < n := by
  induction h with
  | nil => intro v hv; simp at hv
  | @snoc out v' _ hf _ ih =>
    intro x hx
    rw [List.mem_append, List.mem_singleton] at hx
    rcases hx with hx | hx
    · exact ih x hx
    · exact ⟨v', hx, hf.1⟩
/-- How many go to a vertex that are not told. -/
def lef (L : List (List Int)) (out : List Int) (v : Nat) : Nat := (intos L v).countP fun u => !out.contains u
theorem lef_nil (L : List (List Int)) (v : Nat) : lef L [] v = (intos L v).length := by
  unfold lef; simp
theorem lef_zero {L : List (List Int)} {out : List Int} {v : Nat} : lef L out v = 0 ↔ ∀ u ∈ intos L v, u ∈ out := by
  unfold lef
  rw [List.countP_eq_zero]
  simp
theorem countP_snoc {l out : List Int} {x : Int} (hx : x ∉ out) (hl : l.Pairwise (· < ·)) : l.countP (fun u => !(out ++ [x]).contains u) + (if x ∈ l then 1 else 0) = l.countP (fun u => !out.contains u) := by
  induction l with
  | nil => simp
  | cons y l ih =>
    rw [List.pairwise_cons] at hl
    have ih := ih hl.2
    simp only [List.countP_cons]
    by_cases e : x = y
    · subst e
      have hn : x ∉ l := fun h => by have := hl.1 x h; omega
      have h1 : (!(out ++ [x]).contains x) = false := by simp
      have h2 : (!out.contains x) = true := by simpa using hx
      rw [h1, h2]
      rw [if_neg hn] at ih
      simp
      simpa using ih
    · have h1 : (!(out ++ [x]).contains y) = (!out.contains y) := by
        rw [Bool.eq_iff_iff]; simp; intro h e2; exact e e2.symm
      rw [h1]
      have h2 : (x ∈ y :: l) = (x ∈ l) := by simp [e]
      simp only [h2]
      omega
theorem lef_snoc {n : Nat} {L : List (List Int)} {out : List Int} {v w : Nat} (hr : Rises L) (hc : Cons n L) (hv : v < n) (hw : w < n) (h : (v : Int) ∉ out) : lef L (out ++ [(v : Int)]) w + (if (w : Int) ∈ outs L v then 1 else 0) = lef L out w := by
  unfold lef
  have := countP_snoc (l := intos L w) h (hr.at_ (2 * w + 1)).1
  rw [← this]
  have e : ((w : Int) ∈ outs L v) = ((v : Int) ∈ intos L w) := propext (hc v w hv hw)
  simp only [e]
/-- Where the vertices that are free stand, and what is left, ahead of a round. -/
structure Sorts (n : Nat) (L : List (List Int)) (out free left : List Int) : Prop where
  topo : Topo n L out
  rises : free.Pairwise (· < ·)
  free : ∀ x, x ∈ free ↔ ∃ v : Nat, x = v ∧ Free n L out v
  left : left = (List.range n).map fun v => (lef L out v : Int)
/-- Within the round of v: the ends of v's first j edges are less. -/
structure Less (n : Nat) (L : List (List Int)) (out : List Int) (v : Nat) (rest free left : List Int) (j : Nat) : Prop where
  rises : free.Pairwise (· < ·)
  free : ∀ x, x ∈ free ↔ x ∈ rest ∨ (x ∈ (outs L v).take j ∧ left.getD x.toNat 0 = 0)
  left : left = (List.range n).map fun w => (lef L out w : Int) - (if (w : Int) ∈ (outs L v).take j then 1 else 0)
theorem left_at {n : Nat} {f : Nat → Int} {w : Nat} (hw : w < n) : ((List.range n).map f).getD w 0 = f w := by
  simp [List.getD, hw]
theorem Sorts.start {n : Nat} {L : List (List Int)} {out left : List Int} {x : Int} {rest : List Int} (h : Sorts n L out (x :: rest) left) : ∃ v : Nat, x = v ∧ Free n L out v ∧ (∀ u, Free n L out u → v ≤ u) ∧ Less n L out v rest rest left 0 := by
  obtain ⟨v, rfl, hf⟩ := (h.free x).1 (List.mem_cons_self ..)
  have hp := List.pairwise_cons.1 h.rises
  refine ⟨v, rfl, hf, fun u hu => ?_, hp.2, fun y => by simp, ?_⟩
  · have := (h.free u).2 ⟨u, rfl, hu⟩
    rw [List.mem_cons] at this
    rcases this with e | e
    · omega
    · have := hp.1 u e; omega
  · rw [h.left]; simp
theorem rising_add {l : List Int} (h : l.Pairwise (· < ·)) (x : Int) : (add l x).Pairwise (· < ·) := by
  unfold add
  split
  · exact h
  · rename_i hn
    have hn : x ∉ l := by simpa using hn
    induction l with
    | nil => simp [ins, rk]
    | cons y l ih =>
      have hp := List.pairwise_cons.1 h
      have ih := ih hp.2 (by simpa using fun e => hn (List.mem_cons_of_mem _ e)) (fun e => hn (List.mem_cons_of_mem _ e))
      by_cases hyx : y < x
      · have e : ins (y :: l) (rk (y :: l) x) x = y :: ins l (rk l x) x := by
          simp [ins, rk, hyx]
        rw [e, List.pairwise_cons]
        refine ⟨fun z hz => ?_, ih⟩
        unfold ins at hz
        rw [List.mem_append, List.mem_cons] at hz
        rcases hz with hz | hz | hz
        · exact hp.1 z (List.mem_of_mem_take hz)
        · omega
        · exact hp.1 z (List.mem_of_mem_drop hz)
      · have hxy : x < y := by have : x ≠ y := fun e => hn (by rw [e]; exact List.mem_cons_self ..); omega
        have e0 : rk (y :: l) x = 0 := by
          unfold rk
          rw [List.countP_eq_zero]
          intro z hz
          rw [List.mem_cons] at hz
          simp only [decide_eq_true_eq]
          rcases hz with hz | hz
          · omega
          · have := hp.1 z hz; omega
        rw [e0]
        unfold ins
        rw [List.take_zero, List.drop_zero, List.nil_append, List.pairwise_cons]
        refine ⟨fun z hz => ?_, h⟩
        rw [List.mem_cons] at hz
        rcases hz with hz | hz
        · omega
        · have := hp.1 z hz; omega
theorem mem_add {l : List Int} {x y : Int} : y ∈ add l x ↔ y = x ∨ y ∈ l := by
  unfold add
  split
  · rename_i h
    have h : x ∈ l := by simpa using h
    exact ⟨.inr, fun e => e.elim (fun e => by rw [e]; exact h) id⟩
  · unfold ins
    rw [List.mem_append, List.mem_cons]
    have := List.take_append_drop (rk l x) l
    constructor
    · rintro (h | h | h)
      · exact .inr (List.mem_of_mem_take h)
      · exact .inl h
      · exact .inr (List.mem_of_mem_drop h)
    · rintro (h | h)
      · exact .inr (.inl h)
      · rw [← this, List.mem_append] at h
        exact h.elim .inl (fun h => .inr (.inr h))
theorem take_snoc_mem {l : List Int} {j : Nat} (hj : j < l.length) {y : Int} : y ∈ l.take (j + 1) ↔ y ∈ l.take j ∨ y = l[j] := by
  rw [List.take_succ_eq_append_getElem hj, List.mem_append, List.mem_singleton]
theorem not_in_take {l : List Int} (h : l.Pairwise (· < ·)) {j : Nat} (hj : j < l.length) : l[j] ∉ l.take j := fun hm => by
  obtain ⟨i, hi, he⟩ := List.getElem_of_mem hm
  rw [List.getElem_take] at he
  have hi' : i < j := by rw [List.length_take] at hi; omega
  have := List.pairwise_iff_getElem.1 h i j (by omega) hj hi'
  omega
/-- What stands for w when one is taken. -/
theorem Less.left_now {n : Nat} {L : List (List Int)} {out : List Int} {v : Nat} {rest free left : List Int} {j : Nat} (hr : Rises L) (h : Less n L out v rest free left j) (hj : j < (outs L v).length) {w : Nat} (hw : (outs L v)[j] = (w : Int)) (hwn : w < n) : left.getD w 0 = (lef L out w : Int) := by
  rw [h.left, left_at hwn]
  have : (w : Int) ∉ (outs L v).take j := by rw [← hw]; exact not_in_take (hr.at_ (2 * v)).1 hj
  simp [this]
theorem Less.left_set {n : Nat} {L : List (List Int)} {out : List Int} {v : Nat} {rest free left : List Int} {j : Nat} (hr : Rises L) (h : Less n L out v rest free left j) (hj : j < (outs L v).length) {w : Nat} (hw : (outs L v)[j] = (w : Int)) (hwn : w < n) :
    left.set w ((lef L out w : Int) - 1) = (List.range n).map fun w => (lef L out w : Int) - (if (w : Int) ∈ (outs L v).take (j + 1) then 1 else 0) := by
  rw [h.left]
  apply List.ext_getElem
  · simp
  · intro i h1 h2
    have hi : i < n := by simpa using h2
    by_cases e : w = i
    · subst e
      have : (w : Int) ∈ (outs L v).take (j + 1) := (take_snoc_mem hj).2 (.inr hw.symm)
      simp [this]
    · rw [List.getElem_set_ne e]
      have e2 : ((i : Int) ∈ (outs L v).take (j + 1)) = ((i : Int) ∈ (outs L v).take j) := propext ⟨fun hm => ((take_snoc_mem hj).1 hm).resolve_right (fun e3 => by rw [hw] at e3; omega), fun hm => (take_snoc_mem hj).2 (.inl hm)⟩
      simp [e2]
theorem left_len {n : Nat} {f : Nat → Int} : ((List.range n).map f).length = n := by simp
theorem Less.next {n : Nat} {L : List (List Int)} {out : List Int} {v : Nat} {rest free left : List Int} {j : Nat} (hr : Rises L) (h : Less n L out v rest free left j) (hj : j < (outs L v).length) {w : Nat} (hw : (outs L v)[j] = (w : Int)) (hwn : w < n) (hp : ∀ x ∈ outs L v, 0 ≤ x) :
    Less n L out v rest (if (lef L out w : Int) - 1 = 0 then add free w else free) (left.set w ((lef L out w : Int) - 1)) (j + 1) := by
  have hlen : left.length = n := by rw [h.left]; simp
  refine ⟨by split; exact rising_add h.rises _; exact h.rises, fun x => ?_, h.left_set hr hj hw hwn⟩
  have hset : ∀ x : Int, 0 ≤ x → (left.set w ((lef L out w : Int) - 1)).getD x.toNat 0 = if x = w then (lef L out w : Int) - 1 else left.getD x.toNat 0 := fun x hx => by
    simp only [List.getD]
    by_cases e : x = w
    · subst e
      simp [hlen, hwn]
    · rw [List.getElem?_set_ne (by omega), if_neg e]
  have hfree : x ∈ (if (lef L out w : Int) - 1 = 0 then add free w else free) ↔ x ∈ free ∨ (x = w ∧ (lef L out w : Int) - 1 = 0) := by
    split
    · rename_i h1; rw [mem_add]; simp [h1]; exact Or.comm
    · rename_i h1; simp [h1]
  rw [hfree, h.free x, take_snoc_mem hj, hw]
  have hnot : (w : Int) ∉ (outs L v).take j := by rw [← hw]; exact not_in_take (hr.at_ (2 * v)).1 hj
  constructor
  · rintro ((h1 | ⟨h1, h2⟩) | ⟨h1, h2⟩)
    · exact .inl h1
    · have h0 := hp x (List.mem_of_mem_take h1)
      refine .inr ⟨.inl h1, ?_⟩
      rw [hset x h0, if_neg (fun e => hnot (by rw [← e]; exact h1))]; exact h2
    · refine .inr ⟨.inr h1, ?_⟩
      rw [hset x (by omega), if_pos h1]; exact h2
  · rintro (h1 | ⟨h1, h2⟩)
    · exact .inl (.inl h1)
    · have h0 : 0 ≤ x := h1.elim (fun e => hp x (List.mem_of_mem_take e)) (fun e => by omega)
      rw [hset x h0] at h2
      by_cases e : x = w
      · rw [if_pos e] at h2; exact .inr ⟨e, h2⟩
      · rw [if_neg e] at h2; exact .inl (.inr ⟨h1.resolve_right e, h2⟩)
theorem Less.done {n : Nat} {L : List (List Int)} {out : List Int} {v : Nat} {rest free left left0 : List Int} (hr : Rises L) (hc : Cons n L) (hi : Inside n L) (hs : Sorts n L out ((v : Int) :: rest) left0) (hf : Free n L out v) (hm : ∀ u, Free n L out u → v ≤ u) (h : Less n L out v rest free left (outs L v).length) :
    Sorts n L (out ++ [(v : Int)]) free left := by
  have hleft : left = (List.range n).map fun w => (lef L (out ++ [(v : Int)]) w : Int) := by
    rw [h.left]
    apply List.map_congr_left
    intro w hw
    have := lef_snoc hr hc hf.1 (List.mem_range.1 hw) hf.2.1
    rw [List.take_length]
    split <;> rename_i h1 <;> simp only [h1, if_true, if_false] at this <;> omega
  refine ⟨.snoc hs.topo hf hm, h.rises, fun x => ?_, hleft⟩
  have hvv : (v : Int) ∉ intos L v := fun e => hf.2.1 (hf.2.2 _ e)
  have hp := List.pairwise_cons.1 hs.rises
  rw [h.free x, List.take_length]
  constructor
  · rintro (h1 | ⟨h1, h2⟩)
    · obtain ⟨u, rfl, hu⟩ := (hs.free x).1 (List.mem_cons_of_mem _ h1)
      refine ⟨u, rfl, hu.1, fun e => ?_, fun y hy => List.mem_append_left _ (hu.2.2 y hy)⟩
      rw [List.mem_append, List.mem_singleton] at e
      have := hp.1 u h1
      exact e.elim hu.2.1 (fun e => by omega)
    · obtain ⟨h3, h4⟩ := hi.at_ (2 * v) h1
      obtain ⟨u, rfl⟩ : ∃ u : Nat, x = u := ⟨x.toNat, by omega⟩
      have hun : u < n := by omega
      rw [Int.toNat_natCast, hleft, left_at hun] at h2
      have hz := lef_zero.1 (show lef L (out ++ [(v : Int)]) u = 0 by omega)
      have hvu : (v : Int) ∈ intos L u := (hc v u hf.1 hun).1 h1
      refine ⟨u, rfl, hun, fun e => ?_, hz⟩
      rw [List.mem_append, List.mem_singleton] at e
      rcases e with e | e
      · exact hf.2.1 (hs.topo.preds u e v hvu)
      · have : u = v := by omega
        subst this
        exact hvv hvu
  · rintro ⟨u, rfl, hu⟩
    by_cases hvu : (v : Int) ∈ intos L u
    · refine .inr ⟨(hc v u hf.1 hu.1).2 hvu, ?_⟩
      rw [Int.toNat_natCast, hleft, left_at hu.1, lef_zero.2 hu.2.2]; rfl
    · have : (u : Int) ∈ (v : Int) :: rest := (hs.free u).2 ⟨u, rfl, hu.1, fun e => hu.2.1 (List.mem_append_left _ e), fun y hy => by
        have := hu.2.2 y hy
        rw [List.mem_append, List.mem_singleton] at this
        exact this.resolve_right (fun e => hvu (by rw [← e]; exact hy))⟩
      rw [List.mem_cons] at this
      exact .inl (this.resolve_left (fun e => hu.2.1 (by rw [e]; simp)))
/-- The first loop. -/
def fr0 (L : List (List Int)) (k : Nat) : List Int := ((List.range k).filter fun v => (intos L v).isEmpty).map (fun (v : Nat) => (v : Int))
def left0 (n : Nat) (L : List (List Int)) (k : Nat) : List Int := (List.range n).map fun v => if v < k then ((intos L v).length : Int) else 0
theorem fr0_succ (L : List (List Int)) (k : Nat) : fr0 L (k + 1) = if (intos L k).length = 0 then fr0 L k ++ [(k : Int)] else fr0 L k := by
  unfold fr0
  rw [List.range_succ, List.filter_append, List.map_append]
  split
  · rename_i h; rw [List.length_eq_zero_iff] at h; simp [h]
  · rename_i h
    have : intos L k ≠ [] := fun e => h (by rw [e]; rfl)
    simp [this]
theorem left0_succ {n : Nat} (L : List (List Int)) {k : Nat} (hk : k < n) : left0 n L (k + 1) = (left0 n L k).set k ((intos L k).length : Int) := by
  unfold left0
  apply List.ext_getElem
  · simp
  · intro i h1 h2
    by_cases e : k = i
    · subst e; simp
    · rw [List.getElem_set_ne e]
      have : (i < k + 1) = (i < k) := propext ⟨fun h => by omega, fun h => by omega⟩
      simp [this]
theorem fr0_length (L : List (List Int)) (k : Nat) : (fr0 L k).length ≤ k := by
  unfold fr0
  rw [List.length_map]
  exact Nat.le_trans (List.length_filter_le _ _) (by simp)
theorem Sorts.zero (n : Nat) (L : List (List Int)) : Sorts n L [] (fr0 L n) (left0 n L n) := by
  refine ⟨.nil, ?_, fun x => ?_, ?_⟩
  · unfold fr0
    rw [List.pairwise_map]
    exact (List.Pairwise.sublist List.filter_sublist List.pairwise_lt_range).imp (fun h => by omega)
  · unfold fr0
    simp only [List.mem_map, List.mem_filter, List.mem_range, List.isEmpty_iff]
    constructor
    · rintro ⟨v, ⟨h1, h2⟩, rfl⟩
      exact ⟨v, rfl, h1, by simp, by rw [h2]; simp⟩
    · rintro ⟨v, rfl, h1, -, h2⟩
      refine ⟨v, ⟨h1, ?_⟩, rfl⟩
      apply List.eq_nil_iff_forall_not_mem.2
      intro u hu
      simpa using h2 u hu
  · unfold left0
    apply List.map_congr_left
    intro v hv
    rw [if_pos (List.mem_range.1 hv), lef_nil]
theorem Sorts.len {n : Nat} {L : List (List Int)} {out free left : List Int} (h : Sorts n L out free left) : left.length = n := by rw [h.left]; simp
theorem Less.len {n : Nat} {L : List (List Int)} {out : List Int} {v : Nat} {rest free left : List Int} {j : Nat} (h : Less n L out v rest free left j) : left.length = n := by rw [h.left]; simp
theorem lef_le {L : List (List Int)} (hr : Rises L) (out : List Int) (v : Nat) : lef L out v ≤ 1000000 := Nat.le_trans List.countP_le_length (hr.at_ (2 * v + 1)).2
end Go.Proofs.Ytclbpohhmaojcaa.Gr
