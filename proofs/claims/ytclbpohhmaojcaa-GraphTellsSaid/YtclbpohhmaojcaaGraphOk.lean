/-
  A graph's rows, plainly: what stays so when edges are put and cut.
-/
import Derived.Test.YtclbpohhmaojcaaGraphRefuse
import Derived.Test.YtclbpohhmaojcaaGraphSort
namespace Go.Proofs.Ytclbpohhmaojcaa.Gr
set_option linter.unusedVariables false
open Go.Proofs.Ytclbpohhmaojcaa.GrW (add rem rk Rises ins del isV hasE canPut rising_len)

/-- The rows of a graph of n vertices: rising, of vertices alone, what goes out comes in, none goes to itself. -/
structure OK (n : Nat) (L : List (List Int)) : Prop where
  len : L.length = 2 * n
  rise : ∀ i, (L.getD i []).Pairwise (· < ·)
  ins : ∀ i, ∀ x ∈ L.getD i [], (0 : Int) ≤ x ∧ x < n
  cons : Cons n L
  self : ∀ v : Nat, v < n → (v : Int) ∉ outs L v
theorem OK.many {n : Nat} {L : List (List Int)} (h : OK n L) (i : Nat) : (L.getD i []).length ≤ n := by
  have := rising_len (a := 0) (b := n) (by omega) (h.rise i) (h.ins i)
  omega
theorem of_mem {L : List (List Int)} {l : List Int} (h : l ∈ L) : ∃ i, l = L.getD i [] := by
  obtain ⟨i, hi, rfl⟩ := List.getElem_of_mem h
  exact ⟨i, by simp [List.getD, hi]⟩
theorem OK.rises {n : Nat} {L : List (List Int)} (h : OK n L) (hn : n ≤ 30000) : Rises L := fun l hl => by
  obtain ⟨i, rfl⟩ := of_mem hl
  exact ⟨h.rise i, by have := h.many i; omega⟩
theorem OK.inside {n : Nat} {L : List (List Int)} (h : OK n L) : Inside n L := fun l hl => by
  obtain ⟨i, rfl⟩ := of_mem hl
  exact h.ins i
theorem OK.empty (n : Nat) : OK n (List.replicate (2 * n) []) := by
  have e : ∀ i, (List.replicate (2 * n) ([] : List Int)).getD i [] = [] := fun i => by
    simp only [List.getD]
    by_cases h : i < 2 * n
    · simp [h]
    · rw [List.getElem?_eq_none (by simp; omega)]; rfl
  exact ⟨by simp, fun i => by rw [e]; exact List.Pairwise.nil, fun i x hx => by rw [e] at hx; simp at hx, fun u v _ _ => by unfold outs intos; rw [e, e]; simp, fun v _ => by unfold outs; rw [e]; simp⟩
theorem getD_set {L : List (List Int)} {i : Nat} (hi : i < L.length) (l : List Int) (j : Nat) : (L.set i l).getD j [] = if j = i then l else L.getD j [] := by
  simp only [List.getD]
  by_cases e : j = i
  · subst e; simp [hi]
  · rw [List.getElem?_set_ne (fun h => e h.symm), if_neg e]
theorem rising_del {l : List Int} (h : l.Pairwise (· < ·)) (x : Int) : (rem l x).Pairwise (· < ·) := by
  unfold rem
  split
  · unfold del
    rw [← List.eraseIdx_eq_take_drop_succ]
    exact h.sublist (List.eraseIdx_sublist ..)
  · exact h
/-- Where a number stands in a rising row that holds it. -/
theorem at_rk {l : List Int} (h : l.Pairwise (· < ·)) {x : Int} (hx : x ∈ l) : ∃ hk : rk l x < l.length, l[rk l x] = x := by
  induction l with
  | nil => simp at hx
  | cons y l ih =>
    have hp := List.pairwise_cons.1 h
    rw [List.mem_cons] at hx
    by_cases e : x = y
    · subst e
      have e0 : rk (x :: l) x = 0 := by
        unfold rk
        rw [List.countP_eq_zero]
        intro z hz
        rw [List.mem_cons] at hz
        simp only [decide_eq_true_eq]
        rcases hz with hz | hz
        · omega
        · have := hp.1 z hz; omega
      exact ⟨by rw [e0]; simp, by simp [e0]⟩
    · have hx' : x ∈ l := hx.resolve_left e
      obtain ⟨hk, he⟩ := ih hp.2 hx'
      have hyx := hp.1 x hx'
      have e0 : rk (y :: l) x = rk l x + 1 := by unfold rk; simp [hyx]
      exact ⟨by rw [e0]; simpa using hk, by simp [e0, he]⟩
theorem mem_rem {l : List Int} (h : l.Pairwise (· < ·)) {x y : Int} : y ∈ rem l x ↔ y ∈ l ∧ y ≠ x := by
  unfold rem
  split
  · rename_i hx
    have hx : x ∈ l := by simpa using hx
    obtain ⟨hk, he⟩ := at_rk h hx
    unfold del
    have e : l.take (rk l x) ++ x :: l.drop (rk l x + 1) = l := by
      have := List.drop_eq_getElem_cons hk
      rw [he] at this
      rw [← this, List.take_append_drop]
    rw [List.mem_append]
    rw [← e, List.pairwise_append, List.pairwise_cons] at h
    have e2 : ∀ z, z ∈ l ↔ z ∈ l.take (rk l x) ∨ z = x ∨ z ∈ l.drop (rk l x + 1) := fun z => by
      conv => lhs; rw [← e]
      rw [List.mem_append, List.mem_cons]
    rw [e2]
    constructor
    · rintro (h1 | h1)
      · exact ⟨.inl h1, fun e => by have := h.2.2 y h1 x (List.mem_cons_self ..); omega⟩
      · exact ⟨.inr (.inr h1), fun e => by have := h.2.1.1 y h1; omega⟩
    · rintro ⟨h1 | h1 | h1, h2⟩
      · exact .inl h1
      · exact absurd h1 h2
      · exact .inr h1
  · rename_i hx
    have hx : x ∉ l := by simpa using hx
    exact ⟨fun h => ⟨h, fun e => hx (by rw [← e]; exact h)⟩, And.left⟩
theorem put_getD {n : Nat} {L : List (List Int)} (h : OK n L) {k m : Nat} (hk : k < n) (hm : m < n) (i : Nat) : (putL L k m).getD i [] = if i = 2 * k then add (L.getD i []) m else if i = 2 * m + 1 then add (L.getD i []) k else L.getD i [] := by
  have hl := h.len
  unfold putL
  rw [getD_set (by rw [List.length_set]; omega), getD_set (by omega)]
  by_cases e1 : i = 2 * m + 1
  · subst e1
    rw [if_pos rfl, if_neg (by omega), if_pos rfl]
  · rw [if_neg e1, if_neg e1]
    by_cases e2 : i = 2 * k
    · subst e2; rw [if_pos rfl]
    · rw [if_neg e2, if_neg e2]
theorem cut_getD {n : Nat} {L : List (List Int)} (h : OK n L) {k m : Nat} (hk : k < n) (hm : m < n) (i : Nat) : (cutL L k m).getD i [] = if i = 2 * k then rem (L.getD i []) m else if i = 2 * m + 1 then rem (L.getD i []) k else L.getD i [] := by
  have hl := h.len
  unfold cutL
  rw [getD_set (by rw [List.length_set]; omega), getD_set (by omega)]
  by_cases e1 : i = 2 * m + 1
  · subst e1
    rw [if_pos rfl, if_neg (by omega), if_pos rfl]
  · rw [if_neg e1, if_neg e1]
    by_cases e2 : i = 2 * k
    · subst e2; rw [if_pos rfl]
    · rw [if_neg e2, if_neg e2]
theorem put_out {n : Nat} {L : List (List Int)} (h : OK n L) {k m : Nat} (hk : k < n) (hm : m < n) (u : Nat) (x : Int) : x ∈ outs (putL L k m) u ↔ x ∈ outs L u ∨ (u = k ∧ x = m) := by
  unfold outs
  rw [put_getD h hk hm]
  by_cases e : u = k
  · subst e
    rw [if_pos rfl, mem_add]
    simp; exact Or.comm
  · rw [if_neg (by omega), if_neg (by omega)]
    simp [e]
theorem put_in {n : Nat} {L : List (List Int)} (h : OK n L) {k m : Nat} (hk : k < n) (hm : m < n) (v : Nat) (x : Int) : x ∈ intos (putL L k m) v ↔ x ∈ intos L v ∨ (v = m ∧ x = k) := by
  unfold intos
  rw [put_getD h hk hm]
  by_cases e : v = m
  · subst e
    rw [if_neg (by omega), if_pos rfl, mem_add]
    simp; exact Or.comm
  · rw [if_neg (by omega), if_neg (by omega)]
    simp [e]
theorem cut_out {n : Nat} {L : List (List Int)} (h : OK n L) {k m : Nat} (hk : k < n) (hm : m < n) (u : Nat) (x : Int) : x ∈ outs (cutL L k m) u ↔ x ∈ outs L u ∧ ¬ (u = k ∧ x = m) := by
  unfold outs
  rw [cut_getD h hk hm]
  by_cases e : u = k
  · subst e
    rw [if_pos rfl, mem_rem (h.rise _)]
    simp
  · rw [if_neg (by omega), if_neg (by omega)]
    simp [e]
theorem cut_in {n : Nat} {L : List (List Int)} (h : OK n L) {k m : Nat} (hk : k < n) (hm : m < n) (v : Nat) (x : Int) : x ∈ intos (cutL L k m) v ↔ x ∈ intos L v ∧ ¬ (v = m ∧ x = k) := by
  unfold intos
  rw [cut_getD h hk hm]
  by_cases e : v = m
  · subst e
    rw [if_neg (by omega), if_pos rfl, mem_rem (h.rise _)]
    simp
  · rw [if_neg (by omega), if_neg (by omega)]
    simp [e]
theorem OK.put {n : Nat} {L : List (List Int)} (h : OK n L) {k m : Nat} (hk : k < n) (hm : m < n) (hne : k ≠ m) : OK n (putL L k m) where
  len := by unfold putL; simp [h.len]
  rise := fun i => by
    rw [put_getD h hk hm]
    split
    · exact rising_add (h.rise i) _
    · split
      · exact rising_add (h.rise i) _
      · exact h.rise i
  ins := fun i x hx => by
    rw [put_getD h hk hm] at hx
    split at hx
    · rw [mem_add] at hx
      rcases hx with hx | hx
      · omega
      · exact h.ins i x hx
    · split at hx
      · rw [mem_add] at hx
        rcases hx with hx | hx
        · omega
        · exact h.ins i x hx
      · exact h.ins i x hx
  cons := fun u v hu hv => by
    rw [put_out h hk hm, put_in h hk hm, h.cons u v hu hv]
    constructor
    · rintro (h | ⟨h1, h2⟩)
      · exact .inl h
      · exact .inr ⟨by omega, by omega⟩
    · rintro (h | ⟨h1, h2⟩)
      · exact .inl h
      · exact .inr ⟨by omega, by omega⟩
  self := fun v hv e => by
    rw [put_out h hk hm] at e
    rcases e with e | e
    · exact h.self v hv e
    · omega
theorem OK.cut {n : Nat} {L : List (List Int)} (h : OK n L) {k m : Nat} (hk : k < n) (hm : m < n) : OK n (cutL L k m) where
  len := by unfold cutL; simp [h.len]
  rise := fun i => by
    rw [cut_getD h hk hm]
    split
    · exact rising_del (h.rise i) _
    · split
      · exact rising_del (h.rise i) _
      · exact h.rise i
  ins := fun i x hx => by
    rw [cut_getD h hk hm] at hx
    split at hx
    · exact h.ins i x ((mem_rem (h.rise i)).1 hx).1
    · split at hx
      · exact h.ins i x ((mem_rem (h.rise i)).1 hx).1
      · exact h.ins i x hx
  cons := fun u v hu hv => by
    rw [cut_out h hk hm, cut_in h hk hm, h.cons u v hu hv]
    have : (u = k ∧ (v : Int) = m) ↔ (v = m ∧ (u : Int) = k) := ⟨fun ⟨a, b⟩ => ⟨by omega, by omega⟩, fun ⟨a, b⟩ => ⟨by omega, by omega⟩⟩
    rw [this]
  self := fun v hv e => by
    rw [cut_out h hk hm] at e
    exact h.self v hv e.1
/-- Rising rows of the same numbers are the same. -/
theorem rising_ext : ∀ {a b : List Int}, a.Pairwise (· < ·) → b.Pairwise (· < ·) → (∀ x, x ∈ a ↔ x ∈ b) → a = b
  | [], [], _, _, _ => rfl
  | [], y :: b, _, _, h => by have := (h y).2 (List.mem_cons_self ..); simp at this
  | x :: a, [], _, _, h => by have := (h x).1 (List.mem_cons_self ..); simp at this
  | x :: a, y :: b, ha, hb, h => by
    have pa := List.pairwise_cons.1 ha
    have pb := List.pairwise_cons.1 hb
    have e : x = y := by
      have h1 := (h x).1 (List.mem_cons_self ..)
      have h2 := (h y).2 (List.mem_cons_self ..)
      rw [List.mem_cons] at h1 h2
      rcases h1 with h1 | h1
      · exact h1
      · rcases h2 with h2 | h2
        · exact h2.symm
        · have := pb.1 x h1; have := pa.1 y h2; omega
    subst e
    rw [rising_ext pa.2 pb.2 (fun z => by
      have := h z
      rw [List.mem_cons, List.mem_cons] at this
      constructor
      · intro hz
        exact (this.1 (.inr hz)).resolve_left (fun e => by have := pa.1 z hz; omega)
      · intro hz
        exact (this.2 (.inr hz)).resolve_left (fun e => by have := pb.1 z hz; omega))]
/-- Graphs of the same edges are the same. -/
theorem OK.ext {n : Nat} {L M : List (List Int)} (h : OK n L) (k : OK n M) (he : ∀ u, u < n → ∀ x, x ∈ outs L u ↔ x ∈ outs M u) : L = M := by
  apply List.ext_getElem
  · rw [h.len, k.len]
  · intro i h1 h2
    have e1 : L[i] = L.getD i [] := by simp [List.getD, h1]
    have e2 : M[i] = M.getD i [] := by simp [List.getD, h2]
    rw [e1, e2]
    have hl := h.len
    rcases Nat.mod_two_eq_zero_or_one i with hp | hp
    · have : i = 2 * (i / 2) := by omega
      rw [this]
      exact rising_ext (h.rise _) (k.rise _) (he (i / 2) (by omega))
    · have e : i = 2 * (i / 2) + 1 := by omega
      rw [e]
      refine rising_ext (h.rise _) (k.rise _) (fun x => ?_)
      constructor
      · intro hx
        obtain ⟨h3, h4⟩ := h.ins _ x hx
        obtain ⟨u, rfl⟩ : ∃ u : Nat, x = u := ⟨x.toNat, by omega⟩
        have hx' : (u : Int) ∈ intos L (i / 2) := hx
        rw [← h.cons u (i / 2) (by omega) (by omega), he u (by omega), k.cons u (i / 2) (by omega) (by omega)] at hx'
        exact hx'
      · intro hx
        obtain ⟨h3, h4⟩ := k.ins _ x hx
        obtain ⟨u, rfl⟩ : ∃ u : Nat, x = u := ⟨x.toNat, by omega⟩
        have hx' : (u : Int) ∈ intos M (i / 2) := hx
        rw [← k.cons u (i / 2) (by omega) (by omega), ← he u (by omega), h.cons u (i / 2) (by omega) (by omega)] at hx'
        exact hx'
/-- Sorting has one answer. -/
theorem Topo.part {n : Nat} {L : List (List Int)} {out : List Int} (h : Topo n L out) : ∀ (a : List Int) (x : Int) (t : List Int), out = a ++ x :: t → ∃ u : Nat, x = u ∧ Topo n L a ∧ Free n L a u ∧ ∀ y, Free n L a y → u ≤ y := by
  induction h with
  | nil => intro a x t e; simp at e
  | @snoc out v ht hf hm ih =>
    intro a x t e
    rcases List.eq_nil_or_concat t with ht | ⟨t', y, ht⟩
    · subst ht
      obtain ⟨e1, e2⟩ := List.append_inj' e (by simp)
      have e3 : (v : Int) = x := by simpa using e2
      subst e1
      exact ⟨v, e3.symm, ‹Topo n L out›, hf, hm⟩
    · have e' : out ++ [(v : Int)] = (a ++ x :: t') ++ [y] := by rw [e, ht]; simp
      exact ih a x t' (List.append_inj' e' (by simp)).1
theorem Topo.leads {n : Nat} {L : List (List Int)} {out out2 : List Int} (h : Topo n L out) (h2 : Topo n L out2) (hm : ∀ v, ¬ Free n L out2 v) : out <+: out2 := by
  induction h with
  | nil => exact List.nil_prefix
  | @snoc out v ht hf hmin ih =>
    obtain ⟨t, rfl⟩ := ih
    cases t with
    | nil => exact absurd hf (by have := hm v; rwa [List.append_nil] at this)
    | cons x t =>
      obtain ⟨u, rfl, -, hfu, hmu⟩ := h2.part out x t rfl
      have : u = v := Nat.le_antisymm (hmu v hf) (hmin u hfu)
      subst this
      exact ⟨t, by simp⟩
theorem Topo.unique {n : Nat} {L : List (List Int)} {out out2 : List Int} (h : Topo n L out) (h2 : Topo n L out2) (hm : ∀ v, ¬ Free n L out v) (hm2 : ∀ v, ¬ Free n L out2 v) : out = out2 :=
  (h.leads h2 hm2).eq_of_length_le (h2.leads h hm).length_le
instance (n : Nat) (L : List (List Int)) (out : List Int) (v : Nat) : Decidable (Free n L out v) := by unfold Free; exact inferInstance
theorem Topo.more {n : Nat} {L : List (List Int)} {out : List Int} {v : Nat} (h : Topo n L out) (hf : Free n L out v) (hm : ∀ u, u < v → ¬ Free n L out u) : Topo n L (out ++ [(v : Int)]) := .snoc h hf fun u hu => Nat.le_of_not_lt fun e => hm u e hu
theorem none_free {n : Nat} {L : List (List Int)} {out : List Int} (h : ∀ v, v < n → ¬ Free n L out v) : ∀ v, ¬ Free n L out v := fun v hv => h v hv.1 hv
theorem Path.stuck {L : List (List Int)} {u v : Nat} (h : Path L u v) (h0 : outs L u = []) : v = u := by
  cases h with
  | refl => rfl
  | step he _ => unfold E outs at *; rw [h0] at he; simp at he
end Go.Proofs.Ytclbpohhmaojcaa.Gr
