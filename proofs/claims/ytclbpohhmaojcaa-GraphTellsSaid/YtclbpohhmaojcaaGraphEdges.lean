/-
  The walk of Edges.
-/
import Derived.Test.YtclbpohhmaojcaaGraphSort
namespace Go.Proofs.Ytclbpohhmaojcaa.Gr
/-- All edges, by where they come from. -/
def edgesTo (L : List (List Int)) (k : Nat) : List (Int × Int) := (List.range k).flatMap fun u => (outs L u).map fun x => ((u : Int), x)
theorem edgesTo_succ (L : List (List Int)) (k : Nat) : edgesTo L (k + 1) = edgesTo L k ++ (outs L k).map fun x => ((k : Int), x) := by
  unfold edgesTo
  rw [List.range_succ, List.flatMap_append]; simp
theorem edgesTo_length {L : List (List Int)} (hr : GrW.Rises L) (k : Nat) : (edgesTo L k).length ≤ k * 1000000 := by
  induction k with
  | zero => simp [edgesTo]
  | succ k ih =>
    rw [edgesTo_succ, List.length_append, List.length_map]
    have := (hr.at_ (2 * k)).2
    unfold outs
    omega
/-- The cells of edges. -/
def ev (l : List (Int × Int)) : List Go.Value := l.flatMap fun x => [.int .i64 x.1, .int .i64 x.2]
theorem ev_append (a b : List (Int × Int)) : ev (a ++ b) = ev a ++ ev b := List.flatMap_append
theorem ev_length (l : List (Int × Int)) : (ev l).length = l.length * 2 := by
  induction l with
  | nil => rfl
  | cons x l ih => simp [ev] at ih ⊢; omega
end Go.Proofs.Ytclbpohhmaojcaa.Gr
namespace Go.Proofs.Ytclbpohhmaojcaa.GrW
set_option linter.unusedVariables false
open Go Go.RowKit Go.Proofs Go.Proofs.Ytclbpohhmaojcaa Go.Proofs.Ytclbpohhmaojcaa.Wd
open Go.Proofs.Ytclbpohhmaojcaa.Gr (outs edgesTo ev)
theorem infoEdge : (Try.prog.info? 32).map (fun i => (i.zero, i.size, i.bytes)) = some (some (.agg #[.int .i64 0, .int .i64 0]), 2, 16) := by kernel_rfl
def EdgesOut (w : World) (l : List (Int × Int)) (e : Ending) (w' : World) : Prop :=
  ∃ A c, e = .returned (.slice A l.length c) ∧ Below w.heap.size w w' ∧ w'.ownsRow w.heap.size 32 2 (.slice A l.length c) l.length (ev l)
set_option maxRecDepth 100000 in
theorem edges_any (w : World) (base g n : Nat) (F : Nat → Prop) (L : List (List Int)) (h : GAt w base F g n L) (hr : Rises L) (hn : n ≤ 30000) :
    Calls Try.prog 16 #[.pointer (some ⟨g, 0, none⟩)] w (EdgesOut w (edgesTo L n)) := by
  obtain ⟨r, c, hH, hrow⟩ := h.row_at
  have HN := Lib.hid (len_any w g r n c hH)
  have HH := Lib.hid hH
  have HR := Lib.hid hr
  have HROW := Lib.hid hrow
  obtain ⟨i0, hi0, hz0, hz1, hz2⟩ := info_parts infoEdge
  clear h hr hrow hH
  go_enter Try.func16, Try.ntmps16
  go_wp2_with fail
  refine Calls.mono HN.out ?_
  rintro e w' ⟨rfl, rfl⟩
  clear HN
  go_wp2_with fail
  go_loopw [3, 9] (fun v i wr => ∃ (k m : Nat), k ≤ n ∧ i = .int .i64 k ∧ Hid (m = (edgesTo L k).length ∧ Below w.heap.size w wr ∧ wr.ownsRow w.heap.size 32 2 v m (ev (edgesTo L k)))) (fun _ i _ => n - (intOf i).toNat)
  case atStart => exact ⟨0, 0, Nat.zero_le _, rfl, Lib.hid ⟨rfl, Below.refl _ _, World.ownsRow_nil _ _ _ _⟩⟩
  case round =>
    obtain ⟨k, m, hk, rfl, HS⟩ := hrel
    by_cases hlt : k < n
    · obtain ⟨A, d, hc, hi⟩ := HROW.out (2 * k) (by omega)
      have hlow := HS.out.2.1
      have hg1 : wr.cell? ⟨g, 1, none⟩ = some (.slice (some ⟨r, 0, none⟩) n c) := (hlow.cell (p := ⟨g, 1, none⟩) (lt_of_cell HH.out.2)).trans HH.out.2
      have hg2 : wr.cell? ⟨r, k * 2, none⟩ = some (.slice A (outs L k).length d) := by rw [Nat.mul_comm k 2]; exact (hlow.cell (p := ⟨r, 2 * k, none⟩) (lt_of_cell hc)).trans hc
      have hi : IRow w base (.slice A (outs L k).length d) (outs L k) := hi
      have HI := Lib.hid hi
      have hl6 : (outs L k).length ≤ 1000000 := (HR.out.at_ (2 * k)).2
      generalize hml : (outs L k).length = l at *
      have HML := Lib.hid hml.symm
      have i1 : (0 : Int) ≤ (k : Int) := by omega
      have i2 : (k : Int) < (n : Int) := by omega
      have HS2 := Lib.hid HS.out
      clear hc hi hlow hml HS
      go_wp2_with fail
      clear hg1 hg2
      go_loopw [3, 21] (fun v i wr => ∃ (j m : Nat), j ≤ l ∧ i = .int .i64 j ∧ Hid (m = (edgesTo L k).length + j ∧ Below w.heap.size w wr ∧ wr.ownsRow w.heap.size 32 2 v m (ev (edgesTo L k ++ ((outs L k).take j).map fun x => ((k : Int), x))))) (fun _ i _ => l - (intOf i).toNat)
      case atStart =>
        obtain ⟨h1, h2, h3⟩ := HS2.out
        exact ⟨0, m, Nat.zero_le _, rfl, Lib.hid ⟨by omega, h2, by simpa using h3⟩⟩
      case round =>
        obtain ⟨j, m, hj, rfl, HS⟩ := hrel
        clear HS2
        by_cases hlt2 : j < l
        · have hjl : j < (outs L k).length := by have := HML.out; omega
          obtain ⟨b2, off2, rfl, hbl2, hc0⟩ := HI.out.at_ hjl
          have hce := (HS.out.2.1.cell (p := ⟨b2, off2 + j, none⟩) hbl2).trans hc0
          have HX := Lib.hid (show ((outs L k).take (j + 1)).map (fun x => ((k : Int), x)) = ((outs L k).take j).map (fun x => ((k : Int), x)) ++ [((k : Int), (outs L k)[j])] by rw [List.take_succ_eq_append_getElem hjl, List.map_append]; rfl)
          have hb := Gr.edgesTo_length HR.out k
          have hm := HS.out.1
          have hm9 : m ≤ 40000000000 := by omega
          have j1 : (0 : Int) ≤ (j : Int) := by omega
          have j2 : (j : Int) < (l : Int) := by omega
          have hsz := HS.out.2.1.size
          have hown := HS.out.2.2
          have HJL := Lib.hid hjl
          generalize (outs L k)[j] = x at *
          have HOWN := Lib.hid hown
          have HLOW := Lib.hid HS.out.2.1
          have HM := Lib.hid hm
          have hnew := heap_alloc_new wr (.cells #[.int .i64 (k : Int), .int .i64 x] 32)
          clear hown hc0 HS hb hm hjl hbl2
          go_wp2_with (at_builtin; refine wpList_append_lies _ rfl (.tmp 25) (.tmp 29) _ rfl w.heap.size 32 i0 _ 2 16 Try.underlying22 hi0 hz0 hz1 hz2 rfl (by omega) _ m _ rfl (HOWN.out.alloc _) ⟨wr.heap.size, 0, none⟩ 1 1 [.int .i64 (k : Int), .int .i64 x] rfl rfl (World.news_of_block hnew) (by intro u hu; simp at hu; rcases hu with rfl | rfl <;> rfl) (by omega) (by unfold maxLen; omega) (by omega) (by simp; omega) (wr.heap.size + 1) (by simp) ?_)
          intro g2 cap w2 hown2 hgrow _ _
          have R1 : Hid (m + 1 = (edgesTo L k).length + (j + 1) ∧ Below w.heap.size w w2 ∧ w2.ownsRow w.heap.size 32 2 (.slice (some ⟨g2, 0, none⟩) (m + 1) cap) (m + 1) (ev (edgesTo L k ++ ((outs L k).take (j + 1)).map fun x => ((k : Int), x)))) := Lib.hid (by
            refine ⟨by have := HM.out; omega, (HLOW.out.alloc hsz (.cells #[.int .i64 (k : Int), .int .i64 x] 32)).grown hgrow (by simp; omega) (fun q hq => (own_row HOWN.out hq).1), ?_⟩
            rw [HX.out, List.map_take, ← List.append_assoc, Gr.ev_append]
            exact hown2)
          clear hown2 hgrow hnew hce
          go_wp2_with fail
          go_roundw
          case rel => exact ⟨j + 1, _, by omega, by go_num, R1⟩
          case measure => simp [intOf]; omega
        · have R1 : Hid (m = (edgesTo L (k + 1)).length ∧ Below w.heap.size w wr ∧ wr.ownsRow w.heap.size 32 2 u3 m (ev (edgesTo L (k + 1)))) := Lib.hid (by
            obtain ⟨h1, h2, h3⟩ := HS.out
            have e : j = (outs L k).length := by have := HML.out; omega
            rw [e, List.take_length] at h3
            rw [Gr.edgesTo_succ, List.length_append, List.length_map]
            exact ⟨by omega, h2, h3⟩)
          clear HS
          go_wp2_with fail
          go_roundw
          case rel => exact ⟨k + 1, m, by omega, by go_num, R1⟩
          case measure => simp [intOf]; omega
    · obtain rfl : k = n := by omega
      obtain ⟨h1, h2, h3⟩ := HS.out
      obtain ⟨A3, c3, rfl⟩ := own_form h3
      have HF : Hid (EdgesOut w (edgesTo L k) (.returned (.slice A3 m c3)) wr) := Lib.hid ⟨A3, c3, by rw [← h1], h2, by rw [← h1]; exact h3⟩
      clear HS h1 h2 h3
      go_wp2_with fail
      go_ret
      exact HF.out
end Go.Proofs.Ytclbpohhmaojcaa.GrW
