/-
  The walks of package crc's matrices.
-/
import Derived.Test.YtgloncdlmdombaaCrcWalks1
import Derived.Test.YtgloncdlmdombaaWords
import Derived.Deep.RegionHeld3
import Derived.BigQuiet
import Derived.Laws.CopyOwn
import Derived.Deep.QuietTactic
namespace Go.Proofs.Ytgloncdlmdombaa.CrcW
open Go.RowKit Go.Proofs Go.Proofs.Ytgloncdlmdombaa Go.Proofs.Ytgloncdlmdombaa.Wd

/-- The first k cells are columns. -/
def Cols (m : Nat → Nat) (k : Nat) (cs : Array Value) : Prop := cs.size = 32 ∧ (∀ v ∈ cs.toList, v.oneCell' = true) ∧ ∀ j, j < k → cs[j]? = some (.int .u32 (m j : Nat))
theorem Cols.snoc {m : Nat → Nat} {k : Nat} {cs : Array Value} (h : Cols m k cs) (hk : k < 32) {x : Int} (hx : x = (m k : Nat)) : Cols m (k + 1) (cs.setIfInBounds k (.int .u32 x)) := by
  subst hx
  refine ⟨by simp [h.1], fun v hv => ?_, fun j hj => ?_⟩
  · rw [Array.toList_setIfInBounds] at hv
    rcases List.mem_or_eq_of_mem_set hv with hv | rfl
    · exact h.2.1 v hv
    · rfl
  · rw [Array.getElem?_setIfInBounds]
    by_cases e : k = j
    · subst e; simp [h.1, hk]
    · rw [if_neg e]; exact h.2.2 j (by omega)
theorem info40 : (Try.prog.info? 40).map (·.size) = some 32 := by kernel_rfl

theorem nought_any (w : World) :
    Calls Try.prog 20 #[] w fun e w' => (∃ cs, e = .returned (.agg cs) ∧ Cols (fun i => Crc.tab (2 ^ i)) 32 cs) ∧ Below w.heap.size w w' := by
  go_enter Try.func20, Try.ntmps20
  go_wp2
  go_loopw [3] (fun i wr => ∃ (k : Nat) (cs : Array Value), k ≤ 32 ∧ i = .int .i64 k ∧ Blk wr (w.heap.size + 1) 40 cs ∧ Cols (fun i => Crc.tab (2 ^ i)) k cs ∧ (∃ zs, zs.size = 32 ∧ Blk wr w.heap.size 40 zs) ∧ Below w.heap.size w wr) (fun i _ => 32 - (intOf i).toNat)
  case atStart =>
    refine ⟨0, _, by omega, rfl, heap_alloc2_new _ _ _, ?_, ⟨_, ?_, heap_alloc2_old _ _ _⟩, ((Below.refl _ w).alloc (Nat.le_refl _) _).alloc (by simp) _⟩
    · exact ⟨rfl, by simp [Value.oneCell'], by omega⟩
    · rfl
  case round =>
    obtain ⟨k, cs, hk, rfl, hb, hc, ⟨zs, hz0, hz⟩, hB⟩ := hrel
    by_cases hlt : k < 32
    · have hp : (2 ^ k % 4294967296 : Int) = ((2 ^ k : Nat) : Int) := by
        have h1 : 2 ^ k < 4294967296 := Nat.lt_of_lt_of_le (Nat.pow_lt_pow_right (by omega) hlt) (by decide)
        have h2 : ((2 ^ k : Nat) : Int) = (2 : Int) ^ k := by norm_cast
        rw [← h2]
        exact (show ∀ x : Nat, x < 4294967296 → ((x : Int) % 4294967296) = x by omega) _ h1
      have HP := Lib.hid hp
      clear hp
      have hpl : 2 ^ k < 4294967296 := Nat.lt_of_lt_of_le (Nat.pow_lt_pow_right (by omega) hlt) (by decide)
      go_wp2_with fail
      rw [HP.out]
      refine (through_any _ 0 hpl (by omega) _).mono ?_
      rintro e w1 ⟨rfl, hb1⟩
      have hb' := hb.below hb1 hb.lt
      have hz' := hz.below hb1 hz.lt
      have hf := hb'.frozen k
      obtain ⟨v0, hv0⟩ : ∃ v0, w1.cell? ⟨w.heap.size + 1, k, none⟩ = some v0 := ⟨_, by rw [hb'.cell]; exact Array.getElem?_eq_getElem (by rw [hc.1]; omega)⟩
      have hS : Blk (w1.setCell ⟨w.heap.size + 1, k, none⟩ (.int .u32 ((Crc.thr (2 ^ k) 0 : Nat) : Int))) (w.heap.size + 1) 40 (cs.setIfInBounds k (.int .u32 ((Crc.thr (2 ^ k) 0 : Nat) : Int))) := hb'.set_ k _
      have hS2 := hz'.far (p := ⟨w.heap.size + 1, k, none⟩) (by simp) (.int .u32 ((Crc.thr (2 ^ k) 0 : Nat) : Int))
      have hC := hc.snoc hlt (x := ((Crc.thr (2 ^ k) 0 : Nat) : Int)) (by rw [Crc.thr_eq, Nat.xor_zero])
      have hB' := (hB.trans (hb1.mono hB.size)).setCell (p := ⟨w.heap.size + 1, k, none⟩) (by simp) (.int .u32 ((Crc.thr (2 ^ k) 0 : Nat) : Int))
      clear hb hb' hz hz' hc hB hb1
      go_wp2
      go_roundw
      case rel => exact ⟨k + 1, _, by omega, by go_num, hS, hC, ⟨zs, hz0, hS2⟩, hB'⟩
      case measure => simp [intOf]; omega
    · obtain rfl : k = 32 := by omega
      have hsz := hc.1
      have hst := run_storeCells_from (P := Try.prog) w.heap.size 40 cs.toList 0 zs wr hz (by simp [hsz, hz0]) hc.2.1
      simp only [List.take_zero, List.nil_append, Array.toArray_toList] at hst
      go_wp2_with (refine wpList_load_row rfl 40 _ rfl (w.heap.size + 1) rfl _ cs _ _ hb Try.underlying40 rfl (by rw [info40, hc.1]) ?_)
      refine bodyPost_ret (results_cell_row rfl _ _ w.heap.size _ cs (0, 0) _ rfl (setRow_heap wr _ zs cs _ _ hz) Try.underlying40 rfl (by rw [info40, hc.1])) rfl ?_
      exact ⟨⟨cs, rfl, hc⟩, below_setRow hB (Nat.le_refl _) _⟩

theorem twice_any (m : Nat → Nat) (cs : Array Value) (hc : Cols m 32 cs) (hml : ∀ j, j < 32 → m j < 4294967296) (w : World) :
    Calls Try.prog 22 #[.agg cs] w fun e w' => (∃ cs', e = .returned (.agg cs') ∧ Cols (fun i => Crc.applyTo m (m i) 32) 32 cs') ∧ Below w.heap.size w w' := by
  go_enter Try.func22, Try.ntmps22
  go_wp2
  go_loopw [4, 5] (fun _ i wr => ∃ (k : Nat) (ds : Array Value), k ≤ 32 ∧ i = .int .i64 k ∧ Blk wr w.heap.size 40 cs ∧ Blk wr (w.heap.size + 2) 40 ds ∧ Cols (fun i => Crc.applyTo m (m i) 32) k ds ∧ (∃ zs, zs.size = 32 ∧ Blk wr (w.heap.size + 1) 40 zs) ∧ Below w.heap.size w wr) (fun _ i _ => 32 - (intOf i).toNat)
  case atStart =>
    refine ⟨0, _, by omega, rfl, ((Blk.new_ w _ cs rfl).alloc _).alloc _, Blk.new_ _ _ _ (by simp), ?_, ⟨_, ?_, (Blk.new_ _ _ _ (by simp)).alloc _⟩, (((Below.refl _ w).alloc (Nat.le_refl _) _).alloc (by simp) _).alloc (by simp; omega) _⟩
    · exact ⟨rfl, by simp [Value.oneCell'], by omega⟩
    · rfl
  case round =>
    obtain ⟨k, ds, hk, rfl, hm, hb, hd, ⟨zs, hz0, hz⟩, hB⟩ := hrel
    by_cases hlt : k < 32
    · have hck : cs[k]? = some (.int .u32 (m k : Nat)) := hc.2.2 k hlt
      have hcell : wr.cell? ⟨w.heap.size, k, none⟩ = some (.int .u32 (m k : Nat)) := (hm.cell k).trans hck
      go_wp2_with fail
      refine wp_region_held (S := fun W => Blk W w.heap.size 40 cs) (by kernel_rfl) ?_
      change wpAnyH _ _ _ _ _ 8 #[false, false, false, false, false, false, false, false] _ wr.drew
      have hS1 : Blk wr.drew w.heap.size 40 cs := hm.drew
      refine wpAnyH_take (i := 0) rfl (by kernel_rfl) (by kernel_rfl) (by kernel_rfl) (fun _ _ _ h => h) (v := .int .i64 k) (yields_of rfl fun W hW => by go_simp) hS1 ?_
      refine wpAnyH_take (i := 1) rfl (by kernel_rfl) (by kernel_rfl) (by kernel_rfl) (fun _ _ _ h => h) (yields_load_row rfl 40 _ rfl w.heap.size rfl _ cs (0, 0) _ (fun W hW => hW) Try.underlying40 rfl (by rw [info40, hc.1])) hS1 ?_
      refine wpAnyH_take (i := 2) rfl (by kernel_rfl) (by kernel_rfl) (by kernel_rfl) (fun _ _ _ h => h) (v := .int .i64 k) (yields_of rfl fun W hW => by go_simp) hS1 ?_
      refine wpAnyH_take (i := 3) rfl (by kernel_rfl) (by kernel_rfl) (by kernel_rfl) (fun _ _ _ h => h) (v := .pointer (some ⟨w.heap.size, k, none⟩)) (yields_of rfl fun W hW => by go_simp) hS1 ?_
      refine wpAnyH_take (i := 4) rfl (by kernel_rfl) (by kernel_rfl) (by kernel_rfl) (fun _ _ _ h => h) (v := .int .u32 (m k : Nat)) (yields_of rfl fun W hW => by
        have hcell' : W.cell? ⟨w.heap.size, k, none⟩ = some (.int .u32 (m k : Nat)) := (hW.cell k).trans hck
        go_simp) hS1 ?_
      refine held_one (i := 5) rfl rfl (by kernel_rfl) fun K hK => ?_
      go_simp
      refine (apply_any m cs (m k) (hml k hlt) hc.1 (fun j hj => Array.getElem_eq_iff.2 (hc.2.2 j hj)) hml _).mono ?_
      rintro e w1 ⟨rfl, hb1⟩
      have hm' := hm.drew.below hb1 hm.lt
      have hb' := hb.drew.below hb1 hb.lt
      have hz' := hz.drew.below hb1 hz.lt
      have hf := hb'.frozen k
      obtain ⟨v0, hv0⟩ : ∃ v0, w1.cell? ⟨w.heap.size + 2, k, none⟩ = some v0 := ⟨_, by rw [hb'.cell]; exact Array.getElem?_eq_getElem (by rw [hd.1]; omega)⟩
      have hS0 := hm'.far (p := ⟨w.heap.size + 2, k, none⟩) (by simp) (.int .u32 ((Crc.applyTo m (m k) 32 : Nat) : Int))
      have hS : Blk (w1.setCell ⟨w.heap.size + 2, k, none⟩ (.int .u32 ((Crc.applyTo m (m k) 32 : Nat) : Int))) (w.heap.size + 2) 40 (ds.setIfInBounds k (.int .u32 ((Crc.applyTo m (m k) 32 : Nat) : Int))) := hb'.set_ k _
      have hS2 := hz'.far (p := ⟨w.heap.size + 2, k, none⟩) (by simp) (.int .u32 ((Crc.applyTo m (m k) 32 : Nat) : Int))
      have hC := hd.snoc hlt (x := ((Crc.applyTo m (m k) 32 : Nat) : Int)) rfl
      have hB' := (hB.drew.trans (hb1.mono hB.size)).setCell (p := ⟨w.heap.size + 2, k, none⟩) (by simp) (.int .u32 ((Crc.applyTo m (m k) 32 : Nat) : Int))
      refine hK _ _ hm' ?_
      clear hK
      refine held_one (i := 6) rfl rfl (by kernel_rfl) fun K hK => ?_
      go_simp
      refine hK _ _ hm' ?_
      clear hb hb' hz hz' hm hm' hd hB hb1 hcell hck hK hS1
      refine held_one (i := 7) rfl rfl (by kernel_rfl) fun K hK => ?_
      go_simp
      refine hK _ _ hS0 (wpAnyH_done (by kernel_rfl) ?_ _)
      clear hK
      go_wp2
      go_roundw
      case rel => exact ⟨k + 1, _, by omega, by go_num, hS0, hS, hC, ⟨zs, hz0, hS2⟩, hB'⟩
      case measure => simp [intOf]; omega
    · obtain rfl : k = 32 := by omega
      have hsz := hd.1
      have hst := run_storeCells_from (P := Try.prog) (w.heap.size + 1) 40 ds.toList 0 zs wr hz (by simp [hsz, hz0]) hd.2.1
      simp only [List.take_zero, List.nil_append, Array.toArray_toList] at hst
      go_wp2_with (refine wpList_load_row rfl 40 _ rfl (w.heap.size + 2) rfl _ ds _ _ hb Try.underlying40 rfl (by rw [info40, hd.1]) ?_)
      refine bodyPost_ret (results_cell_row rfl _ _ (w.heap.size + 1) _ ds (0, 0) _ rfl (setRow_heap wr _ zs ds _ _ hz) Try.underlying40 rfl (by rw [info40, hd.1])) rfl ?_
      exact ⟨⟨ds, rfl, hd⟩, below_setRow hB (by omega) _⟩
end Go.Proofs.Ytgloncdlmdombaa.CrcW
