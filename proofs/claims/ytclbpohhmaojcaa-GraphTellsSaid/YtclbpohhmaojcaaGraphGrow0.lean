/-
  Vertices that are appended to those of a graph.
-/
import Derived.Test.YtclbpohhmaojcaaGraphCopy
import Derived.Lib.AppendZerosOnto
namespace Go.Proofs.Ytclbpohhmaojcaa.GrW
set_option linter.unusedVariables false
open Go Go.RowKit Go.Proofs Go.Proofs.Ytclbpohhmaojcaa Go.Proofs.Ytclbpohhmaojcaa.Wd

def nils (k : Nat) : List Value := List.replicate k (.slice none 0 0)
theorem zeros_nils (m : Nat) : (Builtin.zeroCells #[Value.slice none 0 0, .slice none 0 0] m).toList = nils (m * 2) := by
  apply List.ext_getElem?
  intro j
  unfold Builtin.zeroCells nils
  simp [List.getElem?_map, List.getElem?_replicate]
  by_cases h : j < m * 2
  · have : j % 2 = 0 ∨ j % 2 = 1 := by omega
    rcases this with e | e <;> simp [h, e]
  · simp [h]
theorem nils_at {k i : Nat} (h : i < k) : (nils k)[i]? = some (.slice none 0 0) := by unfold nils; simp [h]
theorem nils_one (k : Nat) : ∀ u ∈ nils k, u.oneCell' = true := fun u hu => by
  have := List.eq_of_mem_replicate hu
  subst this; rfl
/-- What vertices of the same rows, and some more without, are: where they lay, or anew. -/
structure More (w w' : World) (r r' n m c' : Nat) (cur cur' : Array Value) : Prop where
  blk : Blk w' r' 71 cur'
  size : cur'.size = c' * 2
  cap : n + m ≤ c'
  max : c' ≤ maxLen
  olds : ∀ i, i < 2 * n → cur'[i]? = cur[i]?
  news : ∀ i, 2 * n ≤ i → i < 2 * (n + m) → cur'[i]? = some (.slice none 0 0)
  grown : w.grownBy w' (some r)
  at_ : r' = r ∨ w.heap.size ≤ r'
theorem verts_more {w : World} {r n c : Nat} {cur : Array Value} (hb : Blk w r 71 cur) (hs : cur.size = c * 2) (hn : n ≤ c) (hc : c ≤ maxLen) (h1 : ∀ i, i < 2 * n → ∃ u, cur[i]? = some u ∧ u.oneCell' = true) (m : Nat) (hm : n + m ≤ 30000) (ty : TypeId) :
    ∃ r' c' cur' w', (Builtin.append_ #[63, 3] ty #[.slice (some ⟨r, 0, none⟩) n c, .int .i64 (m : Nat)]).run Try.prog w = .ok (.slice (some ⟨r', 0, none⟩) (n + m) c') w' ∧ More w w' r r' n m c' cur cur' := by
  obtain ⟨i0, hi0, hz0, hz1, hz2⟩ := info_parts infoVertex
  have hz : (Value.agg #[.slice none 0 0, .slice none 0 0]).cells = #[.slice none 0 0, .slice none 0 0] := rfl
  have hw : IntKind.i64.wrap (m : Int) = m := by rw [IntKind.wrap_i64]; omega
  have hneg : ¬ ((m : Int) < 0) := by omega
  by_cases hm0 : m = 0
  · subst hm0
    have hw0 : IntKind.i64.wrap 0 = 0 := by decide
    refine ⟨r, c, cur, w, ?_, ⟨hb, hs, by omega, hc, fun _ _ => rfl, fun i h1 h2 => by omega, World.grownBy.refl w _, .inl rfl⟩⟩
    simp [Builtin.append_, run_underlying Try.underlying63, run_underlying Try.underlying3, sizeOf, typeInfo, zeroValue, hi0, hz0, hz2, asInt, asIntOf, hn, storeCells, hw0]
  have hfits : ¬ (281474976710656 < (m : Int) * 48) := by omega
  have hol : (cur.toList.take (2 * n)).length = 2 * n := by simp; omega
  by_cases hroom : n + m ≤ c
  · have hzc := zeros_nils m
    obtain ⟨cur', k1, k2, k3⟩ := Blk.setCells (nils (m * 2)) (n * 2) hb (by unfold nils; simp; omega)
    have hst := run_storeCells_cells (P := Try.prog) r (n * 2) (nils (m * 2)) 0 w (fun j hj => by
      unfold nils at hj
      simp at hj
      rw [hb.cell, Array.getElem?_eq_getElem (by omega)]; rfl) (fun j hj => hb.frozen _) (nils_one _)
    have hlen : (nils (m * 2)).length = m * 2 := by unfold nils; simp
    have hat : ∀ i, cur'[i]? = (cur.toList.take (n * 2) ++ nils (m * 2) ++ cur.toList.drop (n * 2 + (nils (m * 2)).length))[i]? := fun i => by rw [← k3, Array.getElem?_toList]
    refine ⟨r, c, cur', w.setCells r (n * 2) (nils (m * 2)), ?_, ⟨k1, by rw [k2, hs], hroom, hc, fun i hi => ?_, fun i h1 h2 => ?_, grown_setCells r _ _ (World.grownBy.refl w _) (.inl rfl), .inl rfl⟩⟩
    · simp only [Nat.add_zero] at hst
      have hns : ¬ (m * 2 = 0) := by omega
      simp [Builtin.append_, run_underlying Try.underlying63, run_underlying Try.underlying3, sizeOf, typeInfo, zeroValue, hi0, hz0, hz1, hz2, asInt, asIntOf, hw, hneg, hfits, hroom, hns, hz, Addr.add_lit, hzc, hst]
    · rw [hat, List.append_assoc, List.getElem?_append_left (by simp; omega), List.getElem?_take_of_lt (by omega)]
      simp
    · rw [hat, List.append_assoc, List.getElem?_append_right (by simp; omega), List.getElem?_append_left (by simp [hlen]; omega)]
      exact nils_at (by simp; omega)
  · have hcells : ∀ j u, (cur.toList.take (2 * n))[j]? = some u → w.drew.cell? ((⟨r, 0, none⟩ : Addr).add j) = some u := by
      intro j u hu
      have hj := (List.getElem?_eq_some_iff.1 hu).1
      rw [hol] at hj
      rw [List.getElem?_take_of_lt hj] at hu
      rw [Addr.add_lit, Nat.zero_add]
      exact (hb.cell j).trans (by simpa using hu)
    have hold := run_firstCells_some (P := Try.prog) w.drew i0.size n ⟨r, 0, none⟩ n c (cur.toList.take (2 * n)) (by rw [hol, hz1]; omega) hcells
    have hr := Lib.run_append_grow_zeros (P := Try.prog) w 63 3 ty 71 i0 _ .i64 .i64 Try.underlying63 Try.underlying3 hi0 hz0 (some ⟨r, 0, none⟩) n c (cur.toList.take (2 * n)) hold m (by omega) (by rw [hz1]; decide) (by omega) (by omega) (by rw [hz2]; omega) (by rw [hz2]; exact growslice_fits (by omega) (by omega))
    have hge := grownCap_ge w (n + m) c 71
    have hat : ∀ i, ((cur.toList.take (2 * n)).toArray ++ Builtin.zeroCells #[Value.slice none 0 0, .slice none 0 0] m ++ Builtin.zeroCells #[Value.slice none 0 0, .slice none 0 0] (grownCap w (n + m) c 71 - (n + m)))[i]? = (cur.toList.take (2 * n) ++ (nils (m * 2) ++ nils ((grownCap w (n + m) c 71 - (n + m)) * 2)))[i]? := fun i => by
      rw [← zeros_nils, ← zeros_nils, ← Array.getElem?_toList, Array.toList_append, Array.toList_append, List.append_assoc]
    refine ⟨w.heap.size, grownCap w (n + m) c 71, _, _, hr, ⟨Blk.new_ w.drew _ _ rfl, ?_, hge, grownCap_le_maxLen w (n + m) c _ (by unfold maxLen; omega), fun i hi => ?_, fun i h1 h2 => ?_, grown_ahead (World.grownBy_alloc w.drew _ _), .inr (Nat.le_refl _)⟩⟩
    · simp [size_zeroCells, hz]
      omega
    · rw [hz, hat, List.getElem?_append_left (by rw [hol]; exact hi), List.getElem?_take_of_lt hi]
      simp
    · rw [hz, hat, List.getElem?_append_right (by rw [hol]; exact h1), hol, List.getElem?_append_left (by unfold nils; simp; omega)]
      exact nils_at (by omega)
end Go.Proofs.Ytclbpohhmaojcaa.GrW
