/-
  Noughts that are appended to an own row of bytes.
-/
import Derived.Test.YtpohefpiidlnjaaHeadAwake
import Derived.Lib.AppendZerosOnto
namespace Go.Proofs.Ytpohefpiidlnjaa.HdW
set_option linter.unusedVariables false
open Go Go.RowKit Go.Shelf Go.Proofs Go.Proofs.Ytpohefpiidlnjaa Go.Proofs.Ytpohefpiidlnjaa.Wd Go.Proofs.Ytpohefpiidlnjaa.Dk

theorem zeros_list (m : Nat) : (Builtin.zeroCells #[.int .u8 0] m).toList = bs (List.replicate m 0) := by
  apply List.ext_getElem?
  intro j
  unfold Builtin.zeroCells bs
  simp [List.getElem?_map, List.getElem?_replicate]
  by_cases h : j < m
  · simp [h, Nat.mod_one]
  · simp [h]
theorem zeros_seg {w : World} {F : Nat → Prop} {v : Value} {l : List UInt8} (h : SegV w F v l) (m : Nat) (hb : l.length + m ≤ 1000000000000) (ty : TypeId) :
    ∃ v' w', (Builtin.append_ #[25, 3] ty #[v, .int .i64 (m : Nat)]).run Try.prog w = .ok v' w' ∧ SegV w' (fun k => F k ∨ w.heap.size ≤ k) v' (l ++ List.replicate m 0) ∧ Fr F w w' := by
  obtain ⟨i0, hi0, hz0, hz1, hz2⟩ := info_parts infoU8
  have hz : (Value.int .u8 0).cells = #[.int .u8 0] := rfl
  have hw : IntKind.i64.wrap (m : Int) = m := by rw [IntKind.wrap_i64]; omega
  have hneg : ¬ ((m : Int) < 0) := by omega
  by_cases hm : m = 0
  · subst hm
    have hw0 : IntKind.i64.wrap 0 = 0 := by decide
    refine ⟨v, w, ?_, by simpa using h.more (fun k _ hk => .inl hk), Fr.refl _ _⟩
    rcases h with ⟨rfl, rfl⟩ | ⟨r, cap, cur, rfl, h2, h3, h4, h5, h6, h7⟩
    · simp [Builtin.append_, run_underlying Try.underlying25, run_underlying Try.underlying3, sizeOf, typeInfo, zeroValue, hi0, hz0, hz2, asInt, asIntOf, hw0]
    · simp [Builtin.append_, run_underlying Try.underlying25, run_underlying Try.underlying3, sizeOf, typeInfo, zeroValue, hi0, hz0, hz2, asInt, asIntOf, h4, storeCells, hw0]
  have hfits : ¬ (281474976710656 < (m : Int)) := by omega
  rcases h with ⟨rfl, rfl⟩ | ⟨r, cap, cur, rfl, h2, h3, h4, h5, h6, h7⟩
  · have hr := Lib.run_append_nil_zeros (P := Try.prog) w 25 3 ty 5 i0 _ .i64 .i64 Try.underlying25 Try.underlying3 hi0 hz0 m (by omega) (by rw [hz1]; decide) (by omega) (by rw [hz2]; simp at hb; omega)
    refine ⟨_, _, hr, .inr ⟨w.heap.size, grownCap w m 0 5, _, by simp, .inr (Nat.le_refl _), Blk.new_ w.drew _ _ rfl, ?_, ?_, ?_, ?_⟩, (Fr.refl F w).drew.alloc _⟩
    · have := grownCap_ge w m 0 5
      simpa using this
    · have := grownCap_ge w m 0 5
      simp [size_zeroCells, hz]
      omega
    · exact grownCap_le_maxLen w m 0 _ (by unfold maxLen; simp at hb; omega)
    · rw [hz, Array.toList_append, zeros_list, List.take_append_of_le_length (by simp [bs_length])]
      simp [bs]
  · have hcells : ∀ j u, (bs l)[j]? = some u → w.cell? ((⟨r, 0, none⟩ : Addr).add j) = some u := by
      intro j u hu
      have hj := (List.getElem?_eq_some_iff.1 hu).1
      rw [bs_length] at hj
      rw [Addr.add_lit, Nat.zero_add, h3.cell]
      have h8 : (cur.toList.take l.length)[j]? = (bs l)[j]? := by rw [h7]
      rw [List.getElem?_take_of_lt hj, hu] at h8
      simpa using h8
    by_cases hroom : l.length + m ≤ cap
    · have hzc := zeros_list m
      obtain ⟨cur', k1, k2, k3⟩ := Blk.setCells (bs (List.replicate m 0)) l.length h3 (by rw [bs_length, List.length_replicate]; omega)
      have hst := run_storeCells_cells (P := Try.prog) r l.length (bs (List.replicate m 0)) 0 w (fun j hj => by
        rw [bs_length, List.length_replicate] at hj
        rw [h3.cell, Array.getElem?_eq_getElem (by omega)]; rfl) (fun j hj => h3.frozen _) (bs_one _)
      refine ⟨.slice (some ⟨r, 0, none⟩) (l.length + m) cap, w.setCells r l.length (bs (List.replicate m 0)), ?_, .inr ⟨r, cap, cur', by simp, .inl h2, k1, by simpa using hroom, by omega, h6, ?_⟩, Fr.setCells r _ _ (Fr.refl _ _) (.inl h2)⟩
      · simp only [Nat.add_zero] at hst
        have hns : ¬ (m = 0) := hm
        simp [Builtin.append_, run_underlying Try.underlying25, run_underlying Try.underlying3, sizeOf, typeInfo, zeroValue, hi0, hz0, hz1, hz2, asInt, asIntOf, hw, hneg, hfits, hroom, hns, hz, Addr.add_lit, hzc, hst]
      · rw [k3, h7, List.length_append, List.length_replicate, bs_append, List.take_append_of_le_length (by simp [bs_length])]
        rw [List.take_of_length_le (by simp [bs_length])]
    · have hold := run_firstCells_some (P := Try.prog) w.drew i0.size l.length ⟨r, 0, none⟩ l.length cap (bs l) (by rw [bs_length, hz1, Nat.mul_one]) hcells
      have hr := Lib.run_append_grow_zeros (P := Try.prog) w 25 3 ty 5 i0 _ .i64 .i64 Try.underlying25 Try.underlying3 hi0 hz0 (some ⟨r, 0, none⟩) l.length cap (bs l) hold m (by omega) (by rw [hz1]; decide) (by omega) (by omega) (by rw [hz2]; omega) (by rw [hz2]; exact growslice_fits (by omega) (by omega))
      refine ⟨_, _, hr, .inr ⟨w.heap.size, grownCap w (l.length + m) cap 5, _, by simp, .inr (Nat.le_refl _), Blk.new_ w.drew _ _ rfl, ?_, ?_, ?_, ?_⟩, (Fr.refl F w).drew.alloc _⟩
      · have := grownCap_ge w (l.length + m) cap 5
        simpa using this
      · have := grownCap_ge w (l.length + m) cap 5
        simp [size_zeroCells, hz, bs_length]
        omega
      · exact grownCap_le_maxLen w (l.length + m) cap _ (by unfold maxLen; omega)
      · rw [hz, Array.toList_append, Array.toList_append, zeros_list, List.take_append_of_le_length (by simp [bs_length]), List.length_append, List.length_replicate, bs_append]
        rw [List.take_of_length_le (by simp [bs_length])]
end Go.Proofs.Ytpohefpiidlnjaa.HdW
