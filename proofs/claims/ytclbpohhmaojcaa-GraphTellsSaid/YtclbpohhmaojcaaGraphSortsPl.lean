/-
  What GraphSorts asks, plainly.
-/
import Derived.Test.YtclbpohhmaojcaaGraphTurnedWalk
namespace Go.Proofs.Ytclbpohhmaojcaa.Gr
set_option linter.unusedVariables false
open Go.Proofs.Ytclbpohhmaojcaa.GrW (isV reached hasE)

theorem mem_edgesTo {L : List (List Int)} {n : Nat} {x : Int × Int} : x ∈ edgesTo L n ↔ ∃ u, u < n ∧ x.1 = (u : Int) ∧ x.2 ∈ outs L u := by
  unfold edgesTo
  rw [List.mem_flatMap]
  constructor
  · rintro ⟨u, hu, h⟩
    rw [List.mem_map] at h
    obtain ⟨y, hy, rfl⟩ := h
    exact ⟨u, List.mem_range.1 hu, rfl, hy⟩
  · rintro ⟨u, hu, h1, h2⟩
    refine ⟨u, List.mem_range.2 hu, ?_⟩
    rw [List.mem_map]
    exact ⟨x.2, h2, by rw [← h1]⟩
/-- Some edge's end reaches its begin just if there is a cycle. -/
theorem any_cyc {n : Nat} {L : List (List Int)} (ok : OK n L) {R : Int → Int → Bool} (hR : IsR n L R) : ((edgesTo L n).any fun x => R x.2 x.1) = true ↔ Cyc n L := by
  rw [List.any_eq_true]
  constructor
  · rintro ⟨x, hx, h⟩
    obtain ⟨u, hu, e1, h2⟩ := mem_edgesTo.1 hx
    obtain ⟨h3, h4⟩ := ok.ins _ x.2 h2
    obtain ⟨v, hv⟩ : ∃ v : Nat, x.2 = v := ⟨x.2.toNat, by omega⟩
    rw [e1, hv] at h
    rw [hv] at h2
    exact ⟨u, v, hu, by omega, h2, (rB_nat hR (by omega) hu).1 h⟩
  · rintro ⟨u, v, hu, hv, he, hp⟩
    exact ⟨(u, v), mem_edgesTo.2 ⟨u, hu, rfl, he⟩, (rB_nat hR hv hu).2 hp⟩
/-- Places of those that were told: one more than where they stand. -/
structure AtR (n : Nat) (out : List Int) (k : Nat) (at_ : List Int) : Prop where
  len : at_.length = n
  told : ∀ (v i : Nat) (hi : i < out.length), v < n → i < k → out[i] = (v : Int) → at_.getD v 0 = (i : Int) + 1
  rest : ∀ v : Nat, v < n → (v : Int) ∉ out.take k → at_.getD v 0 = 0
theorem AtR.zero {n : Nat} {out l : List Int} (hl : l.length = n) (h0 : ∀ v, v < n → l.getD v 0 = 0) : AtR n out 0 l := ⟨hl, fun v i _ _ hi => by omega, fun v hv _ => h0 v hv⟩
theorem nodup_take {out : List Int} (h : out.Nodup) {k : Nat} (hk : k < out.length) : out[k] ∉ out.take k := fun hm => by
  obtain ⟨i, hi, he⟩ := List.getElem_of_mem hm
  rw [List.getElem_take] at he
  have hi' : i < k := by rw [List.length_take] at hi; omega
  exact (List.pairwise_iff_getElem.1 h i k (by omega) hk hi') he
theorem AtR.now {n : Nat} {out at_ : List Int} (hd : out.Nodup) {k : Nat} (h : AtR n out k at_) (hk : k < out.length) {v : Nat} (hv : out[k] = (v : Int)) (hvn : v < n) : at_.getD v 0 = 0 :=
  h.rest v hvn (by rw [← hv]; exact nodup_take hd hk)
theorem AtR.next {n : Nat} {out at_ : List Int} (hd : out.Nodup) {k : Nat} (h : AtR n out k at_) (hk : k < out.length) {v : Nat} (hv : out[k] = (v : Int)) (hvn : v < n) : AtR n out (k + 1) (at_.set v ((k : Int) + 1)) := by
  have hlen := h.len
  have hset : ∀ u : Nat, (at_.set v ((k : Int) + 1)).getD u 0 = if u = v then (k : Int) + 1 else at_.getD u 0 := fun u => by
    simp only [List.getD]
    by_cases e : u = v
    · subst e; simp [hlen, hvn]
    · rw [List.getElem?_set_ne (fun e2 => e e2.symm), if_neg e]
  refine ⟨by rw [List.length_set]; exact hlen, fun u i hi hu hik he => ?_, fun u hu hn => ?_⟩
  · rw [hset]
    by_cases hik2 : i = k
    · subst hik2
      rw [if_pos (by rw [hv] at he; omega)]
    · have hne : u ≠ v := fun e => by
        subst e
        exact (List.pairwise_iff_getElem.1 hd i k hi hk (by omega)) (by rw [he, hv])
      rw [if_neg hne]
      exact h.told u i hi hu (by omega) he
  · rw [List.take_succ_eq_append_getElem hk, List.mem_append, List.mem_singleton, hv] at hn
    rw [hset, if_neg (fun e => hn (.inr (by rw [e])))]
    exact h.rest u hu (fun e => hn (.inl e))
/-- In sorted vertices an edge's begin has a lower place. -/
theorem places {n : Nat} {L : List (List Int)} (ok : OK n L) {out at_ : List Int} (h : Topo n L out) (hl : out.length = n) (ha : AtR n out out.length at_) {x : Int × Int} (hx : x ∈ edgesTo L n) : ∃ u v : Nat, x = ((u : Int), (v : Int)) ∧ u < n ∧ v < n ∧ at_.getD u 0 < at_.getD v 0 := by
  obtain ⟨u, hu, e1, h2⟩ := mem_edgesTo.1 hx
  obtain ⟨h3, h4⟩ := ok.ins _ x.2 h2
  obtain ⟨v, hv⟩ : ∃ v : Nat, x.2 = v := ⟨x.2.toNat, by omega⟩
  have hvn : v < n := by omega
  rw [hv] at h2
  refine ⟨u, v, by rw [← e1, ← hv], hu, hvn, ?_⟩
  have hall : ∀ k, k < n → (k : Int) ∈ out := fun k hk => by
    have h0 := h.length
    have : unt n out = 0 := by omega
    unfold unt at this
    rw [List.countP_eq_zero] at this
    simpa using this k (List.mem_range.2 hk)
  obtain ⟨j, hj, ej⟩ := List.getElem_of_mem (hall v hvn)
  have e : out = out.take j ++ (v : Int) :: out.drop (j + 1) := by rw [← ej, ← List.drop_eq_getElem_cons hj, List.take_append_drop]
  have hb := h.before ok e h2
  obtain ⟨i, hi, ei⟩ := List.getElem_of_mem hb
  rw [List.length_take] at hi
  rw [List.getElem_take] at ei
  rw [ha.told u i (by omega) hu (by omega) ei, ha.told v j hj hvn hj ej]
  omega
/-- None could have been told earlier instead of a greater one. -/
theorem lesser {n : Nat} {L : List (List Int)} (ok : OK n L) {out : List Int} (h : Topo n L out) {i : Nat} (hi : i + 1 < out.length) (hg : out[i + 1] < out[i]) : ∃ u v : Nat, out[i] = (u : Int) ∧ out[i + 1] = (v : Int) ∧ u < n ∧ v < n ∧ E L u v := by
  have hi0 : i < out.length := by omega
  have e1 : out = out.take i ++ out[i] :: out.drop (i + 1) := by rw [← List.drop_eq_getElem_cons hi0, List.take_append_drop]
  have e2 : out = out.take (i + 1) ++ out[i + 1] :: out.drop (i + 2) := by rw [← List.drop_eq_getElem_cons hi, List.take_append_drop]
  obtain ⟨u, hu, -, hfu, hmu⟩ := h.part _ _ _ e1
  obtain ⟨v, hv, -, hfv, -⟩ := h.part _ _ _ e2
  refine ⟨u, v, hu, hv, hfu.1, hfv.1, ?_⟩
  have ht : out.take (i + 1) = out.take i ++ [out[i]] := List.take_succ_eq_append_getElem hi0
  apply Classical.byContradiction
  intro hne
  have hnot : ¬ (u : Int) ∈ intos L v := fun e => hne ((ok.cons u v hfu.1 hfv.1).2 e)
  have hf : Free n L (out.take i) v := ⟨hfv.1, fun e => hfv.2.1 (by rw [ht]; exact List.mem_append_left _ e), fun y hy => by
    have := hfv.2.2 y hy
    rw [ht, List.mem_append, List.mem_singleton, hu] at this
    exact this.resolve_right (fun e => hnot (by rw [← e]; exact hy))⟩
  have := hmu v hf
  omega
theorem hasE_edge {n : Nat} {L : List (List Int)} {u v : Nat} (hu : u < n) (he : E L u v) : hasE n L u v = true := by
  unfold hasE
  rw [isV_of hu, Int.toNat_natCast, Bool.true_and, List.contains_iff_mem]
  exact he
end Go.Proofs.Ytclbpohhmaojcaa.Gr
