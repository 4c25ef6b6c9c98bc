/-
  The walk of New.
-/
import Derived.Test.YtclbpohhmaojcaaGraphWalks1
namespace Go.Proofs.Ytclbpohhmaojcaa.GrW
set_option linter.unusedVariables false
open Go Go.RowKit Go.Proofs Go.Proofs.Ytclbpohhmaojcaa Go.Proofs.Ytclbpohhmaojcaa.Wd

theorem infoVertex : (Try.prog.info? 71).map (fun i => (i.zero, i.size, i.bytes)) = some (some (.agg #[.slice none 0 0, .slice none 0 0]), 2, 48) := by kernel_rfl
def noRows (k : Nat) : Array Value := ((List.range k).map fun _ => Value.slice none 0 0).toArray
theorem made_rows (k : Nat) : madeCells #[Value.slice none 0 0, .slice none 0 0] k = noRows k := by
  apply Array.ext
  · simp [madeCells, noRows]
  · intro i h1 h2
    simp only [madeCells, noRows, Array.getElem_map, List.getElem_toArray, List.getElem_map]
    have : i % 2 = 0 ∨ i % 2 = 1 := by omega
    rcases this with h | h <;> simp [h]
theorem make_rows (n : Nat) (hn : n ≤ 10000) (W : World) : (Instr.makeSlice 63 (.int .i64 (n : Int)) (.int .i64 (n : Int))).run Try.prog W = .ok (.slice (some ⟨W.heap.size, 0, none⟩) n n) (W.alloc (.cells (noRows (n * 2)) 71)) := by
  obtain ⟨j0, hj0, hy0, hy1, hy2⟩ := info_parts infoVertex
  have h := run_make (P := Try.prog) W 63 71 j0 _ Try.underlying63 hj0 hy0 .i64 .i64 (n : Int) (n : Int) (by omega) (Int.le_refl _) (by rw [hy2]; omega) (by omega)
  rw [Int.toNat_natCast, hy1] at h
  rw [h, ← made_rows]; rfl
theorem GAt.new_ {w : World} {base r g n : Nat} (hb : Blk w r 71 (noRows (n * 2))) (hg : Blk w g 65 #[.bool true, .slice (some ⟨r, 0, none⟩) n n]) (h1 : base ≤ r) (h2 : base ≤ g) (hn : n ≤ maxLen) : GAt w base (fun k => base ≤ k) g n (List.replicate (2 * n) []) := by
  have hs : (noRows (n * 2)).size = n * 2 := by simp [noRows]
  have hc : ∀ i, i < n * 2 → (noRows (n * 2))[i]? = some (.slice none 0 0) := fun i hi => by simp [noRows, hi]
  refine ⟨r, n, _, hg, h2, ⟨hb, h1, by rw [hs, List.length_replicate]; omega, fun i hi => ?_, fun i j v u q hij hi hj hv hu hq => ?_⟩, List.length_replicate, Nat.le_refl _, hn, hs, h2, h1, fun i v b hi hv hb => ?_⟩
  · rw [List.length_replicate] at hi
    exact ⟨_, hc i (by omega), by rw [List.getElem_replicate]; exact .inl ⟨rfl, rfl⟩⟩
  · rw [List.length_replicate] at hi
    rw [hc i (by omega)] at hv
    cases hv
    simp [Value.ownBlock] at hq
  · rw [List.length_replicate] at hi
    rw [hc i (by omega)] at hv
    cases hv
    simp [Value.ownBlock] at hb
/-- What New answers. -/
def NewOut (w : World) (n : Int) (e : Ending) (w' : World) : Prop :=
  if 0 ≤ n ∧ n ≤ 10000 then ∃ g, e = .returned (.tuple #[.pointer (some ⟨g, 0, none⟩), .int .i64 0]) ∧ GAt w' w.heap.size (fun k => w.heap.size ≤ k) g n.toNat (List.replicate (2 * n.toNat) []) ∧ Below w.heap.size w w' else e = .returned (.tuple #[.pointer none, .int .i64 2]) ∧ w' = w
theorem new_any (n : Int) (w : World) : Calls Try.prog 24 #[.int .i64 n] w (NewOut w n) := by
  by_cases h0 : 0 ≤ n
  · by_cases h1 : n ≤ 10000
    · obtain ⟨k, rfl⟩ : ∃ k : Nat, n = k := ⟨n.toNat, by omega⟩
      have hk : k ≤ 10000 := by omega
      have hmk := make_rows k hk
      have HF : Hid (NewOut w (k : Int) (.returned (.tuple #[.pointer (some ⟨w.heap.size + 1, 0, none⟩), .int .i64 0])) ((w.alloc (.cells (noRows (k * 2)) 71)).alloc (.cells #[.bool true, .slice (some ⟨w.heap.size, 0, none⟩) k k] 65))) := Lib.hid (by
        unfold NewOut
        rw [if_pos ⟨h0, h1⟩, Int.toNat_natCast]
        refine ⟨_, rfl, GAt.new_ (r := w.heap.size) ((Blk.new_ w _ _ rfl).alloc _) (Blk.new_ _ _ _ (by simp)) (Nat.le_refl _) (by omega) (by unfold maxLen; omega), ((Below.refl _ w).alloc (Nat.le_refl _) _).alloc (by simp) _⟩)
      have u0 : ¬ (k : Int) < 0 := by omega
      have u1 : ¬ (10000 : Int) < (k : Int) := by omega
      clear h0 h1
      go_enter Try.func24, Try.ntmps24
      go_wp2_with fail
      go_ret2
      exact HF.out
    · have u0 : ¬ n < 0 := by omega
      have u1 : (10000 : Int) < n := by omega
      have HF : Hid (NewOut w n (.returned (.tuple #[.pointer none, .int .i64 2])) w) := Lib.hid (by unfold NewOut; rw [if_neg (by omega)]; exact ⟨rfl, rfl⟩)
      clear h0 h1
      go_enter Try.func24, Try.ntmps24
      go_wp2_with fail
      go_ret2
      exact HF.out
  · have u0 : n < 0 := by omega
    have HF : Hid (NewOut w n (.returned (.tuple #[.pointer none, .int .i64 2])) w) := Lib.hid (by unfold NewOut; rw [if_neg (by omega)]; exact ⟨rfl, rfl⟩)
    clear h0
    go_enter Try.func24, Try.ntmps24
    go_wp2_with fail
    go_ret2
    exact HF.out
end Go.Proofs.Ytclbpohhmaojcaa.GrW
