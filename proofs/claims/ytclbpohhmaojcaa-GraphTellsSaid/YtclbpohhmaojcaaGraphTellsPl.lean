/-
  The document's edges and the graph's rows, plainly.
-/
import Derived.Test.YtclbpohhmaojcaaGraphRef6
namespace Go.Proofs.Ytclbpohhmaojcaa.Gr
set_option linter.unusedVariables false
open Go.Proofs.Ytclbpohhmaojcaa.GrW (isV hasE outE intoE canPut growL canGrow)

theorem gtE_iff {y x : Int × Int} : gtE y x = true ↔ x.1 < y.1 ∨ (y.1 = x.1 ∧ x.2 < y.2) := by
  unfold gtE
  simp only [Bool.or_eq_true, Bool.and_eq_true, decide_eq_true_eq, beq_iff_eq]
theorem gtE_trans {a b c : Int × Int} (h : gtE b a = true) (k : gtE c b = true) : gtE c a = true := by
  rw [gtE_iff] at *
  rcases h with h | h <;> rcases k with k | k
  · exact .inl (by omega)
  · exact .inl (by omega)
  · exact .inl (by omega)
  · exact .inr ⟨by omega, by omega⟩
theorem gtE_self (x : Int × Int) : gtE x x = false := by
  rw [← Bool.not_eq_true, gtE_iff]; omega
theorem gtE_asymm {a b : Int × Int} (h : gtE b a = true) : gtE a b = false := by
  rw [← Bool.not_eq_true]
  intro k
  have := gtE_trans h k
  rw [gtE_self] at this; cases this
theorem gtE_total {a b : Int × Int} (h1 : a ≠ b) (h2 : gtE b a = false) : gtE a b = true := by
  rw [← Bool.not_eq_true, gtE_iff] at h2
  rw [gtE_iff]
  by_cases e : a.1 = b.1
  · have : a.2 ≠ b.2 := fun e2 => h1 (Prod.ext e e2)
    exact .inr ⟨e, by omega⟩
  · exact .inl (by omega)
/-- Edges in their order. -/
def Up (E : List (Int × Int)) : Prop := E.Pairwise fun a b => gtE b a = true
theorem Up.ext : ∀ {a b : List (Int × Int)}, Up a → Up b → (∀ x, x ∈ a ↔ x ∈ b) → a = b
  | [], [], _, _, _ => rfl
  | [], y :: b, _, _, h => by have := (h y).2 (List.mem_cons_self ..); simp at this
  | x :: a, [], _, _, h => by have := (h x).1 (List.mem_cons_self ..); simp at this
  | x :: a, y :: b, ha, hb, h => by
    have pa := List.pairwise_cons.1 ha
    have pb := List.pairwise_cons.1 hb
    have e : x = y := by
      have h1 := (h x).1 (List.mem_cons_self ..)
      have h2 := (h y).2 (List.mem_cons_self ..)
      rw [List.mem_cons] at h1 h2
      rcases h1 with h1 | h1
      · exact h1
      · rcases h2 with h2 | h2
        · exact h2.symm
        · have e1 := pb.1 x h1
          have e2 := gtE_asymm (pa.1 y h2)
          rw [e1] at e2; cases e2
    subst e
    rw [Up.ext pa.2 pb.2 (fun z => by
      have := h z
      rw [List.mem_cons, List.mem_cons] at this
      constructor
      · intro hz
        exact (this.1 (.inr hz)).resolve_left (fun e => by have := pa.1 z hz; rw [e, gtE_self] at this; cases this)
      · intro hz
        exact (this.2 (.inr hz)).resolve_left (fun e => by have := pb.1 z hz; rw [e, gtE_self] at this; cases this))]
theorem edgesTo_up {n : Nat} {L : List (List Int)} (ok : OK n L) (k : Nat) : Up (edgesTo L k) := by
  induction k with
  | zero => exact List.Pairwise.nil
  | succ k ih =>
    rw [edgesTo_succ]
    refine List.pairwise_append.2 ⟨ih, ?_, fun a ha b hb => ?_⟩
    · rw [List.pairwise_map]
      exact (ok.rise (2 * k)).imp fun h => by rw [gtE_iff]; exact .inr ⟨rfl, h⟩
    · obtain ⟨u, hu, e1, -⟩ := mem_edgesTo.1 ha
      rw [List.mem_map] at hb
      obtain ⟨y, -, rfl⟩ := hb
      rw [gtE_iff]
      exact .inl (by show a.1 < (k : Int); omega)
theorem mem_insR {x y : Int × Int} {E : List (Int × Int)} : y ∈ insR x E ↔ y = x ∨ y ∈ E := by
  induction E with
  | nil => simp [insR]
  | cons z t ih =>
    unfold insR
    split
    · simp
    · rw [List.mem_cons, ih, List.mem_cons]
      constructor
      · rintro (h | h | h)
        · exact .inr (.inl h)
        · exact .inl h
        · exact .inr (.inr h)
      · rintro (h | h | h)
        · exact .inr (.inl h)
        · exact .inl h
        · exact .inr (.inr h)
theorem insR_up {x : Int × Int} {E : List (Int × Int)} (h : Up E) (hx : x ∉ E) : Up (insR x E) := by
  induction E with
  | nil => exact List.pairwise_singleton _ _
  | cons z t ih =>
    have hp := List.pairwise_cons.1 h
    unfold insR
    split
    · rename_i hg
      exact List.pairwise_cons.2 ⟨fun y hy => by
        rw [List.mem_cons] at hy
        rcases hy with rfl | hy
        · exact hg
        · exact gtE_trans hg (hp.1 y hy), h⟩
    · rename_i hg
      have hg : gtE z x = false := by simpa using hg
      refine List.pairwise_cons.2 ⟨fun y hy => ?_, ih hp.2 (fun e => hx (List.mem_cons_of_mem _ e))⟩
      rw [mem_insR] at hy
      rcases hy with rfl | hy
      · exact gtE_total (fun e => hx (by rw [← e]; exact List.mem_cons_self ..)) hg
      · exact hp.1 y hy
theorem mem_flt {u v : Int} {E : List (Int × Int)} {x : Int × Int} : x ∈ flt u v E ↔ x ∈ E ∧ x ≠ (u, v) := by
  unfold flt
  rw [List.mem_filter]
  refine and_congr_right fun _ => ?_
  rw [Bool.not_eq_true', ← Bool.not_eq_true, Bool.and_eq_true, beq_iff_eq, beq_iff_eq]
  exact not_congr ⟨fun h => Prod.ext h.1 h.2, fun h => by rw [h]; exact ⟨rfl, rfl⟩⟩
theorem mem_has {n : Nat} {L : List (List Int)} (ok : OK n L) {u v : Int} : (u, v) ∈ edgesTo L n ↔ hasE n L u v = true := by
  rw [mem_edgesTo]
  unfold hasE
  rw [Bool.and_eq_true, List.contains_iff_mem]
  constructor
  · rintro ⟨k, hk, e1, h2⟩
    have e1 : u = (k : Int) := e1
    subst e1
    exact ⟨isV_of hk, by rw [Int.toNat_natCast]; exact h2⟩
  · rintro ⟨h1, h2⟩
    obtain ⟨k, rfl, hk⟩ := GrW.isV_nat h1
    exact ⟨k, hk, rfl, by rw [Int.toNat_natCast] at h2; exact h2⟩
section
variable {n : Nat} {L : List (List Int)}
theorem tells_put (ok : OK n L) {a b : Nat} (ha : a < n) (hb : b < n) (hne : a ≠ b) (hh : hasE n L a b = false) : insR ((a : Int), (b : Int)) (edgesTo L n) = edgesTo (putL L a b) n := by
  have hno : ((a : Int), (b : Int)) ∉ edgesTo L n := fun e => by rw [mem_has ok, hh] at e; cases e
  refine (insR_up (edgesTo_up ok n) hno).ext (edgesTo_up (ok.put ha hb hne) n) fun x => ?_
  rw [mem_insR, mem_edgesTo, mem_edgesTo]
  constructor
  · rintro (rfl | ⟨u, hu, e1, h2⟩)
    · exact ⟨a, ha, rfl, (put_out ok ha hb a _).2 (.inr ⟨rfl, rfl⟩)⟩
    · exact ⟨u, hu, e1, (put_out ok ha hb u _).2 (.inl h2)⟩
  · rintro ⟨u, hu, e1, h2⟩
    rcases (put_out ok ha hb u _).1 h2 with h | ⟨rfl, h⟩
    · exact .inr ⟨u, hu, e1, h⟩
    · exact .inl (Prod.ext e1 h)
theorem tells_cut (ok : OK n L) {a b : Nat} (ha : a < n) (hb : b < n) : flt a b (edgesTo L n) = edgesTo (cutL L a b) n := by
  refine Up.ext (List.Pairwise.filter _ (edgesTo_up ok n)) (edgesTo_up (ok.cut ha hb) n) fun x => ?_
  rw [mem_flt, mem_edgesTo, mem_edgesTo]
  constructor
  · rintro ⟨⟨u, hu, e1, h2⟩, hne⟩
    exact ⟨u, hu, e1, (cut_out ok ha hb u _).2 ⟨h2, fun e => hne (Prod.ext (by rw [e1, e.1]) e.2)⟩⟩
  · rintro ⟨u, hu, e1, h2⟩
    obtain ⟨h3, h4⟩ := (cut_out ok ha hb u _).1 h2
    exact ⟨⟨u, hu, e1, h3⟩, fun e => h4 ⟨by have := congrArg Prod.fst e; rw [e1] at this; have : (u : Int) = (a : Int) := this; omega, congrArg Prod.snd e⟩⟩
/-- Cut at numbers that are no vertices leaves all. -/
theorem tells_uncut (ok : OK n L) {u v : Int} (h : (isV n u && isV n v) = false) : flt u v (edgesTo L n) = edgesTo L n := by
  unfold flt
  rw [List.filter_eq_self]
  intro x hx
  rw [Bool.not_eq_true', ← Bool.not_eq_true, Bool.and_eq_true, beq_iff_eq, beq_iff_eq]
  rintro ⟨e1, e2⟩
  obtain ⟨k, hk, e3, h4⟩ := mem_edgesTo.1 hx
  obtain ⟨h5, h6⟩ := ok.ins _ _ h4
  have : (isV n u && isV n v) = true := by
    unfold isV
    simp only [Bool.and_eq_true, decide_eq_true_eq]
    omega
  rw [h] at this; cases this
theorem flt_less {u v : Int} {E : List (Int × Int)} : decide ((flt u v E).length < E.length) = decide ((u, v) ∈ E) := by
  rw [Bool.eq_iff_iff, decide_eq_true_eq, decide_eq_true_eq]
  unfold flt
  constructor
  · intro h
    apply Classical.byContradiction
    intro hn
    have : E.filter (fun x => !(x.1 == u && x.2 == v)) = E := by
      rw [List.filter_eq_self]
      intro x hx
      rw [Bool.not_eq_true', ← Bool.not_eq_true, Bool.and_eq_true, beq_iff_eq, beq_iff_eq]
      rintro ⟨e1, e2⟩
      exact hn (by rw [← e1, ← e2]; exact hx)
    rw [this] at h
    omega
  · intro h
    exact List.length_filter_lt_length_iff_exists.2 ⟨(u, v), h, by simp⟩
theorem growL_getD (ok : OK n L) (m i : Nat) : (growL L m).getD i [] = L.getD i [] := by
  unfold growL
  simp only [List.getD]
  by_cases h : i < L.length
  · rw [List.getElem?_append_left h]
  · rw [List.getElem?_append_right (by omega), List.getElem?_eq_none (Nat.le_of_not_lt h)]
    by_cases h2 : i - L.length < 2 * m
    · simp [h2]
    · rw [List.getElem?_eq_none (by simp; omega)]
theorem OK.grow (ok : OK n L) (m : Nat) : OK (n + m) (growL L m) where
  len := by unfold growL; have := ok.len; simp; omega
  rise := fun i => by rw [growL_getD ok]; exact ok.rise i
  ins := fun i x hx => by rw [growL_getD ok] at hx; have := ok.ins i x hx; omega
  cons := fun u v hu hv => by
    unfold outs intos
    rw [growL_getD ok, growL_getD ok]
    by_cases h1 : u < n
    · by_cases h2 : v < n
      · exact ok.cons u v h1 h2
      · constructor
        · intro h; have := ok.ins _ _ h; omega
        · intro h
          have : L.getD (2 * v + 1) [] = [] := by simp only [List.getD]; rw [List.getElem?_eq_none (by have := ok.len; omega)]; rfl
          rw [this] at h; simp at h
    · constructor
      · intro h
        have : L.getD (2 * u) [] = [] := by simp only [List.getD]; rw [List.getElem?_eq_none (by have := ok.len; omega)]; rfl
        rw [this] at h; simp at h
      · intro h; have := ok.ins _ _ h; omega
  self := fun v hv h => by
    unfold outs at h
    rw [growL_getD ok] at h
    by_cases h1 : v < n
    · exact ok.self v h1 h
    · have := ok.ins _ _ h; omega
theorem tells_grow (ok : OK n L) (m : Nat) : edgesTo (growL L m) (n + m) = edgesTo L n := by
  refine (edgesTo_up (ok.grow m) (n + m)).ext (edgesTo_up ok n) fun x => ?_
  rw [mem_edgesTo, mem_edgesTo]
  unfold outs
  constructor
  · rintro ⟨u, hu, e1, h2⟩
    rw [growL_getD ok] at h2
    exact ⟨u, (ok.edge_lt (u := u) (v := x.2.toNat) (by
      unfold E
      have := ok.ins _ _ h2
      rw [Int.toNat_of_nonneg this.1]; exact h2)).1, e1, h2⟩
  · rintro ⟨u, hu, e1, h2⟩
    exact ⟨u, by omega, e1, by rw [growL_getD ok]; exact h2⟩
theorem tells_out (ok : OK n L) (v : Int) : rOut v (edgesTo L n) = outE n L v := by
  refine rising_ext ?_ ?_ fun x => ?_
  · unfold rOut
    rw [List.pairwise_map, List.pairwise_filter]
    refine (edgesTo_up ok n).imp fun {a b} h ha hb => ?_
    rw [gtE_iff] at h
    have ha : a.1 = v := by simpa using ha
    have hb : b.1 = v := by simpa using hb
    omega
  · unfold outE; split
    · exact ok.rise _
    · exact List.Pairwise.nil
  · unfold rOut
    rw [List.mem_map]
    have e : x ∈ outE n L v ↔ (v, x) ∈ edgesTo L n := by
      rw [mem_has ok]
      unfold outE hasE
      rw [Bool.and_eq_true, List.contains_iff_mem]
      split
      · rename_i h; simp [h]
      · rename_i h; simp [h]
    rw [e]
    constructor
    · rintro ⟨y, hy, rfl⟩
      rw [List.mem_filter] at hy
      have : y.1 = v := by simpa using hy.2
      rw [← this]; exact hy.1
    · intro h
      exact ⟨(v, x), by rw [List.mem_filter]; exact ⟨h, by simp⟩, rfl⟩
theorem tells_in (ok : OK n L) (v : Int) : rIn v (edgesTo L n) = intoE n L v := by
  refine rising_ext ?_ ?_ fun x => ?_
  · unfold rIn
    rw [List.pairwise_map, List.pairwise_filter]
    refine (edgesTo_up ok n).imp fun {a b} h ha hb => ?_
    rw [gtE_iff] at h
    have ha : a.2 = v := by simpa using ha
    have hb : b.2 = v := by simpa using hb
    omega
  · unfold intoE; split
    · exact ok.rise _
    · exact List.Pairwise.nil
  · have e : x ∈ intoE n L v ↔ (x, v) ∈ edgesTo L n := by
      rw [mem_edgesTo]
      unfold intoE
      constructor
      · intro h
        split at h
        · rename_i hv
          obtain ⟨k, rfl, hk⟩ := GrW.isV_nat hv
          rw [Int.toNat_natCast] at h
          obtain ⟨h1, h2⟩ := ok.ins _ _ h
          obtain ⟨y, rfl⟩ : ∃ y : Nat, x = y := ⟨x.toNat, by omega⟩
          exact ⟨y, by omega, rfl, (ok.cons y k (by omega) hk).2 h⟩
        · simp at h
      · rintro ⟨u, hu, e1, h2⟩
        have e1 : x = (u : Int) := e1
        subst e1
        have h2 : v ∈ outs L u := h2
        obtain ⟨h3, h4⟩ := ok.ins _ _ h2
        obtain ⟨k, rfl⟩ : ∃ k : Nat, v = k := ⟨v.toNat, by omega⟩
        rw [if_pos (isV_of (by omega)), Int.toNat_natCast]
        exact (ok.cons u k hu (by omega)).1 h2
    unfold rIn
    rw [List.mem_map, e]
    constructor
    · rintro ⟨y, hy, rfl⟩
      rw [List.mem_filter] at hy
      have : y.2 = v := by simpa using hy.2
      rw [← this]; exact hy.1
    · intro h
      exact ⟨(x, v), by rw [List.mem_filter]; exact ⟨h, by simp⟩, rfl⟩
end
end Go.Proofs.Ytclbpohhmaojcaa.Gr
