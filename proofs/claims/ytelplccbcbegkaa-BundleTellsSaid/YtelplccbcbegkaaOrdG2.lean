/-
  Words and walks, one behind the other: GraphEdges, GraphRefuse, GraphCopy0, GraphCopy, GraphOk, GraphLow, GraphAwake, GraphOf, GraphArg, GraphReachesWalk, GraphCyc, GraphTurnedWalk, GraphSortsPl, GraphUndPl, GraphUnd, GraphGrow0, GraphGrow.
-/
import Derived.Test.YtelplccbcbegkaaOrdG1
import Derived.Test.YtelplccbcbegkaaOrdW
import Derived.Lib.BufferMore
import Derived.Laws.StructEq
import Derived.Deep.DeepCutAuto
import Derived.BigQuiet
import Derived.Deep.Slices
import Derived.Lib.AppendZerosOnto
namespace Go.Proofs.Ytelplccbcbegkaa.Gr
/-- All edges, by where they come from. -/
def edgesTo (L : List (List Int)) (k : Nat) : List (Int × Int) := (List.range k).flatMap fun u => (outs L u).map fun x => ((u : Int), x)
theorem edgesTo_succ (L : List (List Int)) (k : Nat) : edgesTo L (k + 1) = edgesTo L k ++ (outs L k).map fun x => ((k : Int), x) := by
  unfold edgesTo
  rw [List.range_succ, List.flatMap_append]; simp
theorem edgesTo_length {L : List (List Int)} (hr : GrW.Rises L) (k : Nat) : (edgesTo L k).length ≤ k * 1000000 := by
  induction k with
  | zero => simp [edgesTo]
  | succ k ih =>
    rw [edgesTo_succ, List.length_append, List.length_map]
    have := (hr.at_ (2 * k)).2
    unfold outs
    omega
/-- The cells of edges. -/
def ev (l : List (Int × Int)) : List Go.Value := l.flatMap fun x => [.int .i64 x.1, .int .i64 x.2]
theorem ev_append (a b : List (Int × Int)) : ev (a ++ b) = ev a ++ ev b := List.flatMap_append
theorem ev_length (l : List (Int × Int)) : (ev l).length = l.length * 2 := by
  induction l with
  | nil => rfl
  | cons x l ih => simp [ev] at ih ⊢; omega
end Go.Proofs.Ytelplccbcbegkaa.Gr
namespace Go.Proofs.Ytelplccbcbegkaa.GrW
set_option linter.unusedVariables false
open Go Go.RowKit Go.Proofs Go.Proofs.Ytelplccbcbegkaa Go.Proofs.Ytelplccbcbegkaa.Wd
open Go.Proofs.Ytelplccbcbegkaa.Gr (outs edgesTo ev)
theorem infoEdge : (Try.prog.info? 34).map (fun i => (i.zero, i.size, i.bytes)) = some (some (.agg #[.int .i64 0, .int .i64 0]), 2, 16) := by kernel_rfl
def EdgesOut (w : World) (l : List (Int × Int)) (e : Ending) (w' : World) : Prop :=
  ∃ A c, e = .returned (.slice A l.length c) ∧ Below w.heap.size w w' ∧ w'.ownsRow w.heap.size 34 2 (.slice A l.length c) l.length (ev l)
set_option maxRecDepth 100000 in
theorem edges_any (w : World) (base g n : Nat) (F : Nat → Prop) (L : List (List Int)) (h : GAt w base F g n L) (hr : Rises L) (hn : n ≤ 30000) :
    Calls Try.prog 39 #[.pointer (some ⟨g, 0, none⟩)] w (EdgesOut w (edgesTo L n)) := by
  obtain ⟨r, c, hH, hrow⟩ := h.row_at
  have HN := Lib.hid (len_any w g r n c hH)
  have HH := Lib.hid hH
  have HR := Lib.hid hr
  have HROW := Lib.hid hrow
  obtain ⟨i0, hi0, hz0, hz1, hz2⟩ := info_parts infoEdge
  clear h hr hrow hH
  go_enter Try.func39, Try.ntmps39
  go_wp2_with fail
  refine Calls.mono HN.out ?_
  rintro e w' ⟨rfl, rfl⟩
  clear HN
  go_wp2_with fail
  go_loopw [3, 9] (fun v i wr => ∃ (k m : Nat), k ≤ n ∧ i = .int .i64 k ∧ Hid (m = (edgesTo L k).length ∧ Below w.heap.size w wr ∧ wr.ownsRow w.heap.size 34 2 v m (ev (edgesTo L k)))) (fun _ i _ => n - (intOf i).toNat)
  case atStart => exact ⟨0, 0, Nat.zero_le _, rfl, Lib.hid ⟨rfl, Below.refl _ _, World.ownsRow_nil _ _ _ _⟩⟩
  case round =>
    obtain ⟨k, m, hk, rfl, HS⟩ := hrel
    by_cases hlt : k < n
    · obtain ⟨A, d, hc, hi⟩ := HROW.out (2 * k) (by omega)
      have hlow := HS.out.2.1
      have hg1 : wr.cell? ⟨g, 1, none⟩ = some (.slice (some ⟨r, 0, none⟩) n c) := (hlow.cell (p := ⟨g, 1, none⟩) (lt_of_cell HH.out.2)).trans HH.out.2
      have hg2 : wr.cell? ⟨r, k * 2, none⟩ = some (.slice A (outs L k).length d) := by rw [Nat.mul_comm k 2]; exact (hlow.cell (p := ⟨r, 2 * k, none⟩) (lt_of_cell hc)).trans hc
      have hi : IRow w base (.slice A (outs L k).length d) (outs L k) := hi
      have HI := Lib.hid hi
      have hl6 : (outs L k).length ≤ 1000000 := (HR.out.at_ (2 * k)).2
      generalize hml : (outs L k).length = l at *
      have HML := Lib.hid hml.symm
      have i1 : (0 : Int) ≤ (k : Int) := by omega
      have i2 : (k : Int) < (n : Int) := by omega
      have HS2 := Lib.hid HS.out
      clear hc hi hlow hml HS
      go_wp2_with fail
      clear hg1 hg2
      go_loopw [3, 21] (fun v i wr => ∃ (j m : Nat), j ≤ l ∧ i = .int .i64 j ∧ Hid (m = (edgesTo L k).length + j ∧ Below w.heap.size w wr ∧ wr.ownsRow w.heap.size 34 2 v m (ev (edgesTo L k ++ ((outs L k).take j).map fun x => ((k : Int), x))))) (fun _ i _ => l - (intOf i).toNat)
      case atStart =>
        obtain ⟨h1, h2, h3⟩ := HS2.out
        exact ⟨0, m, Nat.zero_le _, rfl, Lib.hid ⟨by omega, h2, by simpa using h3⟩⟩
      case round =>
        obtain ⟨j, m, hj, rfl, HS⟩ := hrel
        clear HS2
        by_cases hlt2 : j < l
        · have hjl : j < (outs L k).length := by have := HML.out; omega
          obtain ⟨b2, off2, rfl, hbl2, hc0⟩ := HI.out.at_ hjl
          have hce := (HS.out.2.1.cell (p := ⟨b2, off2 + j, none⟩) hbl2).trans hc0
          have HX := Lib.hid (show ((outs L k).take (j + 1)).map (fun x => ((k : Int), x)) = ((outs L k).take j).map (fun x => ((k : Int), x)) ++ [((k : Int), (outs L k)[j])] by rw [List.take_succ_eq_append_getElem hjl, List.map_append]; rfl)
          have hb := Gr.edgesTo_length HR.out k
          have hm := HS.out.1
          have hm9 : m ≤ 40000000000 := by omega
          have j1 : (0 : Int) ≤ (j : Int) := by omega
          have j2 : (j : Int) < (l : Int) := by omega
          have hsz := HS.out.2.1.size
          have hown := HS.out.2.2
          have HJL := Lib.hid hjl
          generalize (outs L k)[j] = x at *
          have HOWN := Lib.hid hown
          have HLOW := Lib.hid HS.out.2.1
          have HM := Lib.hid hm
          have hnew := heap_alloc_new wr (.cells #[.int .i64 (k : Int), .int .i64 x] 34)
          clear hown hc0 HS hb hm hjl hbl2
          go_wp2_with (at_builtin; refine wpList_append_lies _ rfl (.tmp 25) (.tmp 29) _ rfl w.heap.size 34 i0 _ 2 16 Try.underlying22 hi0 hz0 hz1 hz2 rfl (by omega) _ m _ rfl (HOWN.out.alloc _) ⟨wr.heap.size, 0, none⟩ 1 1 [.int .i64 (k : Int), .int .i64 x] rfl rfl (World.news_of_block hnew) (by intro u hu; simp at hu; rcases hu with rfl | rfl <;> rfl) (by omega) (by unfold maxLen; omega) (by omega) (by simp; omega) (wr.heap.size + 1) (by simp) ?_)
          intro g2 cap w2 hown2 hgrow _ _
          have R1 : Hid (m + 1 = (edgesTo L k).length + (j + 1) ∧ Below w.heap.size w w2 ∧ w2.ownsRow w.heap.size 34 2 (.slice (some ⟨g2, 0, none⟩) (m + 1) cap) (m + 1) (ev (edgesTo L k ++ ((outs L k).take (j + 1)).map fun x => ((k : Int), x)))) := Lib.hid (by
            refine ⟨by have := HM.out; omega, (HLOW.out.alloc hsz (.cells #[.int .i64 (k : Int), .int .i64 x] 34)).grown hgrow (by simp; omega) (fun q hq => (own_row HOWN.out hq).1), ?_⟩
            rw [HX.out, List.map_take, ← List.append_assoc, Gr.ev_append]
            exact hown2)
          clear hown2 hgrow hnew hce
          go_wp2_with fail
          go_roundw
          case rel => exact ⟨j + 1, _, by omega, by go_num, R1⟩
          case measure => simp [intOf]; omega
        · have R1 : Hid (m = (edgesTo L (k + 1)).length ∧ Below w.heap.size w wr ∧ wr.ownsRow w.heap.size 34 2 u3 m (ev (edgesTo L (k + 1)))) := Lib.hid (by
            obtain ⟨h1, h2, h3⟩ := HS.out
            have e : j = (outs L k).length := by have := HML.out; omega
            rw [e, List.take_length] at h3
            rw [Gr.edgesTo_succ, List.length_append, List.length_map]
            exact ⟨by omega, h2, h3⟩)
          clear HS
          go_wp2_with fail
          go_roundw
          case rel => exact ⟨k + 1, m, by omega, by go_num, R1⟩
          case measure => simp [intOf]; omega
    · obtain rfl : k = n := by omega
      obtain ⟨h1, h2, h3⟩ := HS.out
      obtain ⟨A3, c3, rfl⟩ := own_form h3
      have HF : Hid (EdgesOut w (edgesTo L k) (.returned (.slice A3 m c3)) wr) := Lib.hid ⟨A3, c3, by rw [← h1], h2, by rw [← h1]; exact h3⟩
      clear HS h1 h2 h3
      go_wp2_with fail
      go_ret
      exact HF.out
end Go.Proofs.Ytelplccbcbegkaa.GrW

namespace Go.Proofs.Ytelplccbcbegkaa.Gr
open Go.Proofs.Ytelplccbcbegkaa.GrW (add rem isV)
/-- An edge more, an edge less. -/
def putL (L : List (List Int)) (k m : Nat) : List (List Int) := (L.set (2 * k) (add (L.getD (2 * k) []) m)).set (2 * m + 1) (add (L.getD (2 * m + 1) []) k)
def cutL (L : List (List Int)) (k m : Nat) : List (List Int) := (L.set (2 * k) (rem (L.getD (2 * k) []) m)).set (2 * m + 1) (rem (L.getD (2 * m + 1) []) k)
end Go.Proofs.Ytelplccbcbegkaa.Gr
namespace Go.Proofs.Ytelplccbcbegkaa.GrW
set_option linter.unusedVariables false
open Go Go.RowKit Go.Proofs Go.Proofs.Ytelplccbcbegkaa Go.Proofs.Ytelplccbcbegkaa.Wd
open Go.Proofs.Ytelplccbcbegkaa.Gr (putL cutL)

theorem put_refused (w : World) (base g n : Nat) (F : Nat → Prop) (L : List (List Int)) (h : GAt w base F g n L) (u v : Int) (hb : ¬ (isV n u = true ∧ isV n v = true ∧ u ≠ v)) :
    Calls Try.prog 33 #[.pointer (some ⟨g, 0, none⟩), .int .i64 u, .int .i64 v] w fun e w' => e = .returned (.tuple #[.bool false, .int .i64 2]) ∧ w = w' := by
  obtain ⟨r, c, hH, -⟩ := h.row_at
  have HN := Lib.hid (none_any w g _ hH)
  have HU := Lib.hid (is_any w g r n c hH u)
  have HV := Lib.hid (is_any w g r n c hH v)
  clear h hH
  by_cases hu : isV n u = true
  · rw [hu] at HU
    by_cases hv : isV n v = true
    · rw [hv] at HV
      obtain rfl : v = u := Decidable.not_not.1 fun e => hb ⟨hu, hv, fun e2 => e e2.symm⟩
      clear hb hu hv
      go_enter Try.func33, Try.ntmps33
      go_wp2_with fail
      refine Calls.mono HN.out ?_
      rintro e w' ⟨rfl, rfl⟩
      clear HN
      go_wp2_with fail
      refine Calls.mono HU.out ?_
      rintro e w' ⟨rfl, rfl⟩
      clear HU
      go_wp2_with fail
      refine Calls.mono HV.out ?_
      rintro e w' ⟨rfl, rfl⟩
      clear HV
      go_wp2_with fail
      go_ret2
      exact ⟨rfl, rfl⟩
    · rw [Bool.eq_false_iff.2 hv] at HV
      clear hb hu hv
      go_enter Try.func33, Try.ntmps33
      go_wp2_with fail
      refine Calls.mono HN.out ?_
      rintro e w' ⟨rfl, rfl⟩
      clear HN
      go_wp2_with fail
      refine Calls.mono HU.out ?_
      rintro e w' ⟨rfl, rfl⟩
      clear HU
      go_wp2_with fail
      refine Calls.mono HV.out ?_
      rintro e w' ⟨rfl, rfl⟩
      clear HV
      go_wp2_with fail
      go_ret2
      exact ⟨rfl, rfl⟩
  · rw [Bool.eq_false_iff.2 hu] at HU
    clear hb hu
    go_enter Try.func33, Try.ntmps33
    go_wp2_with fail
    refine Calls.mono HN.out ?_
    rintro e w' ⟨rfl, rfl⟩
    clear HN
    go_wp2_with fail
    refine Calls.mono HU.out ?_
    rintro e w' ⟨rfl, rfl⟩
    clear HU
    go_wp2_with fail
    go_ret2
    exact ⟨rfl, rfl⟩
/-- Between two calls: a graph that is another, whose blocks were its own or are new. -/
def Upd (base : Nat) (F : Nat → Prop) (g n : Nat) (L : List (List Int)) (w w' : World) : Prop := ∃ F', GAt w' base F' g n L ∧ Fr F w w' ∧ ∀ j, F' j → F j ∨ w.heap.size ≤ j
theorem Upd.refl {base g n : Nat} {F : Nat → Prop} {L : List (List Int)} {w : World} (h : GAt w base F g n L) : Upd base F g n L w w := ⟨F, h, Fr.refl _ _, fun j h => .inl h⟩
/-- What Put answers at whatever numbers. -/
def canPut (n : Nat) (u v : Int) : Bool := isV n u && isV n v && decide (u ≠ v)
def PutOut (base : Nat) (F : Nat → Prop) (g n : Nat) (L : List (List Int)) (u v : Int) (w : World) (e : Ending) (w' : World) : Prop :=
  if canPut n u v then e = .returned (.tuple #[.bool (!hasE n L u v), .int .i64 0]) ∧ Upd base F g n (putL L u.toNat v.toNat) w w' else e = .returned (.tuple #[.bool false, .int .i64 2]) ∧ w' = w
theorem put_all (w : World) (base g n : Nat) (F : Nat → Prop) (L : List (List Int)) (h : GAt w base F g n L) (hr : Rises L) (hbase : base ≤ w.heap.size) (u v : Int) :
    Calls Try.prog 33 #[.pointer (some ⟨g, 0, none⟩), .int .i64 u, .int .i64 v] w (PutOut base F g n L u v w) := by
  by_cases hb : isV n u = true ∧ isV n v = true ∧ u ≠ v
  · obtain ⟨k, rfl, hk⟩ := isV_nat hb.1
    obtain ⟨m, rfl, hm⟩ := isV_nat hb.2.1
    have hne : k ≠ m := fun e => hb.2.2 (by rw [e])
    refine (putE_any w base g n F L h hr hbase k m hk hm hne).mono ?_
    rintro e w' ⟨F', rfl, h1, h2, h3⟩
    unfold PutOut
    rw [if_pos (by unfold canPut; rw [hb.1, hb.2.1]; simpa using hb.2.2)]
    refine ⟨?_, F', h1, h2, h3⟩
    unfold hasE
    rw [hb.1]
    rfl
  · refine (put_refused w base g n F L h u v hb).mono ?_
    rintro e w' ⟨rfl, rfl⟩
    unfold PutOut
    rw [if_neg]
    · exact ⟨rfl, rfl⟩
    · intro e
      unfold canPut at e
      simp only [Bool.and_eq_true, decide_eq_true_eq] at e
      exact hb ⟨e.1.1, e.1.2, e.2⟩
def CutOut (base : Nat) (F : Nat → Prop) (g n : Nat) (L : List (List Int)) (u v : Int) (w : World) (e : Ending) (w' : World) : Prop :=
  if isV n u && isV n v then e = .returned (.bool (hasE n L u v)) ∧ Upd base F g n (cutL L u.toNat v.toNat) w w' else e = .returned (.bool false) ∧ w' = w
end Go.Proofs.Ytelplccbcbegkaa.GrW

namespace Go.Proofs.Ytelplccbcbegkaa.GrW
set_option linter.unusedVariables false
open Go Go.RowKit Go.Proofs Go.Proofs.Ytelplccbcbegkaa Go.Proofs.Ytelplccbcbegkaa.Wd

/-- The rows of a graph, each where it is told, in the cells of one block. -/
structure Lies (w0 w : World) (base r n c : Nat) (cur : Array Value) (L : List (List Int)) (k : Nat) : Prop where
  blk : Blk w r 96 cur
  size : cur.size = c * 2
  cap : n ≤ c
  max : c ≤ maxLen
  len : L.length = 2 * n
  rest : ∀ i, 2 * k ≤ i → i < 2 * n → ∃ A d, cur[i]? = some (.slice A (L.getD i []).length d) ∧ IRow w0 base (.slice A (L.getD i []).length d) (L.getD i [])
theorem GAt.vlies {w : World} {base g n : Nat} {F : Nat → Prop} {L : List (List Int)} (h : GAt w base F g n L) : ∃ r c cur, Head w g (.slice (some ⟨r, 0, none⟩) n c) ∧ Lies w w base r n c cur L 0 := by
  obtain ⟨r, c, cur, h1, h2, h3, h4, h5, h6, h7, -⟩ := h
  refine ⟨r, c, cur, ⟨h1.cell 0, h1.cell 1⟩, h3.blk, h7, h5, h6, h4, fun i _ hi => ?_⟩
  obtain ⟨v, hv, hr⟩ := h3.row i (by omega)
  have e : L.getD i [] = L[i]'(by omega) := by simp [List.getD, h4, hi]
  obtain ⟨A, d, rfl⟩ := hr.lies
  rw [e]
  exact ⟨A, d, hv, hr⟩
theorem Lies.own {w0 w : World} {base r n c : Nat} {cur : Array Value} {L : List (List Int)} (h : Lies w0 w base r n c cur L 0) : w.ownsRow 0 96 2 (.slice (some ⟨r, 0, none⟩) n c) n (cur.toList.take (n * 2)) ∧ ∀ u ∈ cur.toList.take (n * 2), u.oneCell' = true := by
  have hle : n * 2 ≤ cur.size := by have := h.size; have := h.cap; omega
  refine ⟨⟨by simp; omega, .inr ⟨r, c, cur, rfl, Nat.zero_le _, h.blk, h.cap, h.max, h.size, rfl⟩⟩, fun u hu => ?_⟩
  obtain ⟨i, hi, rfl⟩ := List.getElem_of_mem hu
  rw [List.length_take] at hi
  obtain ⟨A, d, hc, -⟩ := h.rest i (Nat.zero_le _) (by omega)
  rw [List.getElem_take]
  have hi2 : i < cur.size := by simp at hi; omega
  rw [Array.getElem?_eq_getElem hi2] at hc
  have : cur.toList[i] = .slice A (L.getD i []).length d := by simpa using hc
  rw [this]; rfl
def CloneOut (w0 w : World) (base n : Nat) (L : List (List Int)) (e : Ending) (w' : World) : Prop :=
  ∃ r c cur, e = .returned (.slice (some ⟨r, 0, none⟩) n c) ∧ w.heap.size ≤ r ∧ Below w.heap.size w w' ∧ Lies w0 w' base r n c cur L 0
theorem clone_vertices (w0 w : World) (base r n c : Nat) (cur : Array Value) (L : List (List Int)) (h : Lies w0 w base r n c cur L 0) (hn : n ≤ 30000) :
    Calls Try.prog 65 #[.slice (some ⟨r, 0, none⟩) n c] w (CloneOut w0 w base n L) := by
  obtain ⟨i0, hi0, hz0, hz1, hz2⟩ := info_parts infoVertex
  obtain ⟨hsrc, h1c⟩ := h.own
  have r1 : World.ownsRow (w.alloc (.cells #[] 96)) w.heap.size 96 2 (.slice (some ⟨w.heap.size, 0, none⟩) 0 0) 0 [] := (Blk.new_ w 96 #[] rfl).ownS (Nat.le_refl _) 2 0 rfl (by decide)
  obtain ⟨v', w', hrun, hown, hgrow, hob⟩ := run_append_own2 (P := Try.prog) (w.alloc (.cells #[] 96)) w.heap.size 0 91 91 96 i0 _ 2 48 Try.underlying91 hi0 hz0 hz1 hz2 rfl (by omega) _ 0 [] r1 (some ⟨r, 0, none⟩) n c _ (hsrc.alloc _) h1c (by unfold maxLen; omega) (by omega) (by simp)
  have hB : Below w.heap.size w w' := ((Below.refl _ w).alloc (Nat.le_refl _) (.cells #[] 96)).grown hgrow (by simp) (fun j hj => by simp [Value.ownBlock] at hj; omega)
  obtain ⟨r2, c2, cur2, rfl, hr2, hb2, hn2, hm2, hs2, ht2⟩ : ∃ r2 c2 cur2, v' = .slice (some ⟨r2, 0, none⟩) n c2 ∧ w.heap.size ≤ r2 ∧ Blk w' r2 96 cur2 ∧ n ≤ c2 ∧ c2 ≤ maxLen ∧ cur2.size = c2 * 2 ∧ cur2.toList.take (n * 2) = cur.toList.take (n * 2) := by
    rcases hown.2 with ⟨hv, hn0⟩ | ⟨g2, cap2, cur2, hv, h1, h2, h3, h4, h5, h6⟩
    · rw [hv] at hob
      simp [Value.ownBlock] at hob
    · rw [Nat.zero_add] at hv h3 h6
      exact ⟨g2, cap2, cur2, hv, h1, h2, h3, h4, h5, h6⟩
  have HF : Hid (CloneOut w0 w base n L (.returned (.slice (some ⟨r2, 0, none⟩) n c2)) w') := Lib.hid (by
    refine ⟨r2, c2, cur2, rfl, hr2, hB, hb2, hs2, hn2, hm2, h.len, fun i h0 hi => ?_⟩
    obtain ⟨A, d, hc, hrw⟩ := h.rest i h0 hi
    refine ⟨A, d, ?_, hrw⟩
    rw [← hc]
    have e := congrArg (fun l => l[i]?) ht2
    rw [List.getElem?_take_of_lt (by omega), List.getElem?_take_of_lt (by omega)] at e
    simpa using e)
  clear hB hown hgrow hob hsrc h1c r1 h hr2 hb2 hn2 hm2 hs2 ht2
  go_enter Try.func65, Try.ntmps65
  have HRUN := Lib.hid hrun
  clear hrun
  have hnil : ∀ W, (binOp .eql 91 (.slice (some ⟨r, 0, none⟩) n c) (.slice none 0 0)).run Try.prog W = .ok (.bool false) W := fun W => Lib.run_eql_slice_some_nil W _ _ _ Try.underlying91
  go_wp2_with (at_builtin; refine Lib.wpList_append_run _ rfl (.tmp 5) (.tmp 6) 91 91 rfl _ _ rfl rfl _ _ HRUN.out ?_)
  go_wp2_with fail
  go_ret
  exact HF.out
end Go.Proofs.Ytelplccbcbegkaa.GrW

namespace Go.Proofs.Ytelplccbcbegkaa.GrW
set_option linter.unusedVariables false
open Go Go.RowKit Go.Proofs Go.Proofs.Ytelplccbcbegkaa Go.Proofs.Ytelplccbcbegkaa.Wd

/-- While a graph is copied: the first k vertices have rows of their own. -/
structure CS (w0 w : World) (base n g2 r2 c2 : Nat) (cur : Array Value) (L : List (List Int)) (k : Nat) : Prop where
  low : Below w0.heap.size w0 w
  gblk : Blk w g2 93 #[.bool true, .slice (some ⟨r2, 0, none⟩) n c2]
  gfar : w0.heap.size ≤ g2
  rfar : w0.heap.size ≤ r2
  lies : Lies w0 w base r2 n c2 cur L k
  row : ∀ i, i < 2 * k → ∃ v, cur[i]? = some v ∧ IRow w w0.heap.size v (L.getD i [])
  apart : ∀ i j v u q, i ≠ j → i < 2 * k → j < 2 * k → cur[i]? = some v → cur[j]? = some u → v.ownBlock = some q → u.ownBlock ≠ some q
theorem CS.done {w0 w : World} {base n g2 r2 c2 : Nat} {cur : Array Value} {L : List (List Int)} (h : CS w0 w base n g2 r2 c2 cur L n) : GAt w w0.heap.size (fun k => w0.heap.size ≤ k) g2 n L := by
  have hrow : ∀ i (hi : i < L.length), ∃ v, cur[i]? = some v ∧ IRow w w0.heap.size v L[i] := fun i hi => by
    obtain ⟨v, h1, h2⟩ := h.row i (by have := h.lies.len; omega)
    refine ⟨v, h1, ?_⟩
    have e : L.getD i [] = L[i] := by simp [List.getD, hi]
    rw [← e]; exact h2
  refine ⟨r2, c2, cur, h.gblk, h.gfar, ⟨h.lies.blk, h.rfar, by have := h.lies.len; have := h.lies.size; have := h.lies.cap; omega, hrow, fun i j v u g hij hi hj => h.apart i j v u g hij (by have := h.lies.len; omega) (by have := h.lies.len; omega)⟩, h.lies.len, h.lies.cap, h.lies.max, h.lies.size, h.gfar, h.rfar, fun i v b hi hv hb => ?_⟩
  obtain ⟨v2, h1, h2⟩ := hrow i hi
  rw [hv] at h1
  cases h1
  exact (h2.owns hb).1
theorem CS.below {w0 w w' : World} {base n g2 r2 c2 : Nat} {cur : Array Value} {L : List (List Int)} {k : Nat} (h : CS w0 w base n g2 r2 c2 cur L k) (hb : Below w.heap.size w w') : CS w0 w' base n g2 r2 c2 cur L k where
  low := h.low.trans (hb.mono h.low.size)
  gblk := h.gblk.below hb h.gblk.lt
  gfar := h.gfar
  rfar := h.rfar
  lies := ⟨h.lies.blk.below hb h.lies.blk.lt, h.lies.size, h.lies.cap, h.lies.max, h.lies.len, h.lies.rest⟩
  row := fun i hi => by obtain ⟨v, h1, h2⟩ := h.row i hi; exact ⟨v, h1, h2.below hb⟩
  apart := h.apart
theorem IRow.far {w : World} {base : Nat} {v : Value} {l : List Int} (h : IRow w base v l) {r : Nat} {cs : Array Value} (hb : Blk w r 96 cs) (i : Nat) (u : Value) : IRow (w.setCell ⟨r, i, none⟩ u) base v l := h.keep fun g hg => by
  obtain ⟨_, cs2, hb2⟩ := h.blk hg
  refine heap_setCell_other w ⟨r, i, none⟩ g u (fun e => ?_)
  have e' : g = r := e
  rw [e'] at hb2
  exact hb2.ne_ hb (by decide) rfl
theorem CS.next {w0 w W1 W2 : World} {base n g2 r2 c2 : Nat} {cur : Array Value} {L : List (List Int)} {k : Nat} (h : CS w0 w base n g2 r2 c2 cur L k) (hk : k < n) (b1 : Below w.heap.size w W1) (b2 : Below W1.heap.size W1 W2) {v0 v1 : Value}
    (o0 : W1.ownsRow w.heap.size 3 1 v0 (L.getD (2 * k) []).length (iv (L.getD (2 * k) []))) (o1 : W2.ownsRow W1.heap.size 3 1 v1 (L.getD (2 * k + 1) []).length (iv (L.getD (2 * k + 1) []))) :
    CS w0 ((W2.setCell ⟨r2, 2 * k, none⟩ v0).setCell ⟨r2, 2 * k + 1, none⟩ v1) base n g2 r2 c2 ((cur.setIfInBounds (2 * k) v0).setIfInBounds (2 * k + 1) v1) L (k + 1) := by
  have h2 := (h.below b1).below b2
  have q0 := (IRow.of_own o0).below b2
  have q1 := IRow.of_own o1
  have hsz : cur.size = c2 * 2 := h.lies.size
  have hcp := h.lies.cap
  have hB0 := h2.lies.blk
  have hB1 := hB0.set_ (2 * k) v0
  have hB2 := hB1.set_ (2 * k + 1) v1
  have hl := h.low.size
  have hl1 := b1.size
  have at0 : ((cur.setIfInBounds (2 * k) v0).setIfInBounds (2 * k + 1) v1)[2 * k]? = some v0 := by
    rw [Array.getElem?_setIfInBounds_ne (by omega), Array.getElem?_setIfInBounds_self_of_lt (by omega)]
  have at1 : ((cur.setIfInBounds (2 * k) v0).setIfInBounds (2 * k + 1) v1)[2 * k + 1]? = some v1 := by
    rw [Array.getElem?_setIfInBounds_self_of_lt (by rw [Array.size_setIfInBounds]; omega)]
  have ato : ∀ i, i ≠ 2 * k → i ≠ 2 * k + 1 → ((cur.setIfInBounds (2 * k) v0).setIfInBounds (2 * k + 1) v1)[i]? = cur[i]? := fun i h1 h2 => by
    rw [Array.getElem?_setIfInBounds_ne (by omega), Array.getElem?_setIfInBounds_ne (by omega)]
  have keep : ∀ {v : Value} {bs : Nat} {l : List Int}, IRow W2 bs v l → IRow ((W2.setCell ⟨r2, 2 * k, none⟩ v0).setCell ⟨r2, 2 * k + 1, none⟩ v1) bs v l := fun hv => (hv.far hB0 _ _).far hB1 _ _
  refine ⟨(h2.low.setCell h.rfar _).setCell h.rfar _, (h2.gblk.farN (h2.gblk.ne_ hB0 (by decide)) _).farN (h2.gblk.ne_ hB0 (by decide)) _, h.gfar, h.rfar, ⟨hB2, by simpa using hsz, hcp, h.lies.max, h.lies.len, fun i h1 hi => ?_⟩, fun i hi => ?_, fun i j v u q hij hi hj hv hu hq => ?_⟩
  · obtain ⟨A, d, hc, hr⟩ := h.lies.rest i (by omega) hi
    exact ⟨A, d, (ato i (by omega) (by omega)).trans hc, hr⟩
  · by_cases e0 : i = 2 * k
    · subst e0; exact ⟨v0, at0, keep (q0.more (by omega))⟩
    · by_cases e1 : i = 2 * k + 1
      · subst e1; exact ⟨v1, at1, keep (q1.more (by omega))⟩
      · obtain ⟨v, h3, h4⟩ := h2.row i (by omega)
        exact ⟨v, (ato i e0 e1).trans h3, keep h4⟩
  · have old : ∀ {m : Nat} {y : Value} {p : Nat}, m < 2 * k → cur[m]? = some y → y.ownBlock = some p → p < w.heap.size := fun {m y p} hm hy hp => by
      obtain ⟨y2, h1, h2⟩ := h.row m hm
      rw [hy] at h1
      cases h1
      exact (h2.owns hp).2
    have n0 : ∀ {p : Nat}, v0.ownBlock = some p → w.heap.size ≤ p ∧ p < W1.heap.size := fun hp => (IRow.of_own o0).owns hp
    have n1 : ∀ {p : Nat}, v1.ownBlock = some p → W1.heap.size ≤ p := fun hp => (q1.owns hp).1
    intro hq2
    have cs : ∀ {m : Nat} {y : Value}, m < 2 * (k + 1) → ((cur.setIfInBounds (2 * k) v0).setIfInBounds (2 * k + 1) v1)[m]? = some y → y.ownBlock = some q → (m = 2 * k ∧ w.heap.size ≤ q ∧ q < W1.heap.size) ∨ (m = 2 * k + 1 ∧ W1.heap.size ≤ q) ∨ (m < 2 * k ∧ cur[m]? = some y ∧ q < w.heap.size) := fun {m y} hm hy hp => by
      by_cases e0 : m = 2 * k
      · subst e0
        rw [at0] at hy
        cases hy
        exact .inl ⟨rfl, n0 hp⟩
      · by_cases e1 : m = 2 * k + 1
        · subst e1
          rw [at1] at hy
          cases hy
          exact .inr (.inl ⟨rfl, n1 hp⟩)
        · rw [ato m e0 e1] at hy
          exact .inr (.inr ⟨by omega, hy, old (by omega) hy hp⟩)
    rcases cs hi hv hq with ⟨e1, e2, e3⟩ | ⟨e1, e2⟩ | ⟨e1, e2, e3⟩ <;> rcases cs hj hu hq2 with ⟨f1, f2, f3⟩ | ⟨f1, f2⟩ | ⟨f1, f2, f3⟩
    all_goals first | omega | exact h.apart i j v u q hij e1 f1 e2 f2 hq hq2
/-- What Copy answers. -/
def CopyOut (w : World) (n : Nat) (L : List (List Int)) (e : Ending) (w' : World) : Prop :=
  ∃ g, e = .returned (.pointer (some ⟨g, 0, none⟩)) ∧ GAt w' w.heap.size (fun k => w.heap.size ≤ k) g n L ∧ Below w.heap.size w w'
set_option maxRecDepth 100000 in
set_option maxHeartbeats 4000000 in
theorem copy_any (w : World) (base g n : Nat) (F : Nat → Prop) (L : List (List Int)) (h : GAt w base F g n L) (hr : Rises L) (hn : n ≤ 30000) :
    Calls Try.prog 49 #[.pointer (some ⟨g, 0, none⟩)] w (CopyOut w n L) := by
  obtain ⟨r, c, cur, hH, hL⟩ := h.vlies
  have HN := Lib.hid (none_any w g _ hH)
  have HC := Lib.hid (clone_vertices w w base r n c cur L hL hn)
  have HR := Lib.hid hr
  have hh := hH.2
  clear h hr hH hL
  go_enter Try.func49, Try.ntmps49
  go_wp2_with fail
  refine Calls.mono HN.out ?_
  rintro e w' ⟨rfl, rfl⟩
  clear HN
  go_wp2_with fail
  refine Calls.mono HC.out ?_
  rintro e w1 ⟨r2, c2, cur2, rfl, p1, p2, p3⟩
  clear HC
  have HS0 : Hid (CS w (w1.alloc (.cells #[.bool true, .slice (some ⟨r2, 0, none⟩) n c2] 93)) base n w1.heap.size r2 c2 cur2 L 0) := Lib.hid ⟨p2.alloc p2.size _, Blk.new_ _ _ _ rfl, p2.size, p1, ⟨p3.blk.alloc _, p3.size, p3.cap, p3.max, p3.len, p3.rest⟩, fun i hi => by omega, fun i j v u q _ hi => by omega⟩
  clear p1 p2 p3
  go_wp2_with fail
  go_loopw [20] (fun i wr => ∃ (k : Nat) (cur : Array Value), k ≤ n ∧ i = .int .i64 k ∧ Hid (CS w wr base n w1.heap.size r2 c2 cur L k)) (fun i _ => n - (intOf i).toNat)
  case atStart => exact ⟨0, _, Nat.zero_le _, rfl, HS0⟩
  case round =>
    obtain ⟨k, cur, hk, rfl, HS⟩ := hrel
    clear HS0
    by_cases hlt : k < n
    · obtain ⟨A0, d0, c0, r0⟩ := HS.out.lies.rest (2 * k) (Nat.le_refl _) (by omega)
      obtain ⟨A1, d1, c1, r1⟩ := HS.out.lies.rest (2 * k + 1) (by omega) (by omega)
      have cl0 : wr.cell? ⟨r2, k * 2, none⟩ = some (.slice A0 (L.getD (2 * k) []).length d0) := by rw [Nat.mul_comm k 2]; exact (HS.out.lies.blk.cell _).trans c0
      have cl1 : wr.cell? ⟨r2, k * 2 + 1, none⟩ = some (.slice A1 (L.getD (2 * k + 1) []).length d1) := by rw [Nat.mul_comm k 2]; exact (HS.out.lies.blk.cell _).trans c1
      have HC0 := Lib.hid c0
      have HC0' := Lib.hid c1
      have HR0 := Lib.hid r0
      have HR1 := Lib.hid r1
      have i1 : (0 : Int) ≤ (k : Int) := by omega
      have i2 : (k : Int) < (n : Int) := by omega
      clear c0 c1 r0 r1
      generalize hl0 : L.getD (2 * k) [] = l0 at *
      generalize hl1 : L.getD (2 * k + 1) [] = l1 at *
      have HL0 := Lib.hid hl0
      have HL1 := Lib.hid hl1
      clear hl0 hl1
      have HA : Hid (Below wr.heap.size wr (wr.alloc (.cells #[.slice A0 l0.length d0, .slice A1 l1.length d1] 96))) := Lib.hid ((Below.refl _ wr).alloc (Nat.le_refl _) _)
      have HZ : Hid (wr.heap.size + 1 = (wr.alloc (.cells #[.slice A0 l0.length d0, .slice A1 l1.length d1] 96)).heap.size) := Lib.hid (by simp)
      have HBX := Lib.hid (Blk.new_ wr 96 #[.slice A0 l0.length d0, .slice A1 l1.length d1] rfl)
      go_wp2_with fail
      clear cl0 cl1
      generalize wr.alloc (.cells #[.slice A0 l0.length d0, .slice A1 l1.length d1] 96) = wa at *
      have HC1 : Hid (∀ W, Below wa.heap.size wa W → W.cell? ⟨w1.heap.size, 1, none⟩ = some (.slice (some ⟨r2, 0, none⟩) n c2)) := Lib.hid (fun W hW => ((HS.out.gblk.below HA.out HS.out.gblk.lt).below hW (by have := HS.out.gblk.lt; have := HZ.out; omega)).at_ 1 rfl)
      have HC2 : Hid (∀ W, Below wa.heap.size wa W → W.cell? ⟨wr.heap.size, 0, none⟩ = some (.slice A0 l0.length d0) ∧ W.cell? ⟨wr.heap.size, 1, none⟩ = some (.slice A1 l1.length d1)) := Lib.hid (fun W hW => ⟨(HBX.out.below hW (by have := HZ.out; omega)).at_ 0 rfl, (HBX.out.below hW (by have := HZ.out; omega)).at_ 1 rfl⟩)
      refine wp_region_heldG [13] (fun cc W => cc 13 = true ∨ Below wa.heap.size wa W) (by kernel_rfl) ?_
      change wpAnyG _ _ _ _ _ _ 14 _ _ wa.drew
      have hS : Below wa.heap.size wa wa.drew := (Below.refl _ wa).drew
      refine g_take (i := 0) rfl rfl (by kernel_rfl) (by kernel_rfl) (by kernel_rfl) (by kernel_rfl) (by kernel_rfl) (fun _ _ _ h => h) (.inr hS) (fun L W hL hW => by go_simp; rfl) ?_
      refine g_take (i := 1) rfl rfl (by kernel_rfl) (by kernel_rfl) (by kernel_rfl) (by kernel_rfl) (by kernel_rfl) (fun _ _ _ h => h) (.inr hS) (fun L W hL hW => by go_simp; rfl) ?_
      refine g_take (i := 2) rfl rfl (by kernel_rfl) (by kernel_rfl) (by kernel_rfl) (by kernel_rfl) (by kernel_rfl) (fun _ _ _ h => h) (.inr hS) (fun L W hL hW => by go_simp; rfl) ?_
      refine g_take (i := 3) rfl rfl (by kernel_rfl) (by kernel_rfl) (by kernel_rfl) (by kernel_rfl) (by kernel_rfl) (fun _ _ _ h => h) (.inr hS) (fun L W hL hW => by have hb := hW.resolve_left (by simp [came, hL 13 (by kernel_rfl)]); have q1 := HC1.out _ hb; obtain ⟨q2, q3⟩ := HC2.out _ hb; go_simp; rfl) ?_
      refine g_take (i := 4) rfl rfl (by kernel_rfl) (by kernel_rfl) (by kernel_rfl) (by kernel_rfl) (by kernel_rfl) (fun _ _ _ h => h) (.inr hS) (fun L W hL hW => by go_simp; rfl) ?_
      refine g_take (i := 5) rfl rfl (by kernel_rfl) (by kernel_rfl) (by kernel_rfl) (by kernel_rfl) (by kernel_rfl) (fun _ _ _ h => h) (.inr hS) (fun L W hL hW => by go_simp; rfl) ?_
      refine g_take (i := 6) rfl rfl (by kernel_rfl) (by kernel_rfl) (by kernel_rfl) (by kernel_rfl) (by kernel_rfl) (fun _ _ _ h => h) (.inr hS) (fun L W hL hW => by have hb := hW.resolve_left (by simp [came, hL 13 (by kernel_rfl)]); have q1 := HC1.out _ hb; obtain ⟨q2, q3⟩ := HC2.out _ hb; go_simp; rfl) ?_
      refine g_take (i := 8) rfl rfl (by kernel_rfl) (by kernel_rfl) (by kernel_rfl) (by kernel_rfl) (by kernel_rfl) (fun _ _ _ h => h) (.inr hS) (fun L W hL hW => by go_simp; rfl) ?_
      refine g_take (i := 9) rfl rfl (by kernel_rfl) (by kernel_rfl) (by kernel_rfl) (by kernel_rfl) (by kernel_rfl) (fun _ _ _ h => h) (.inr hS) (fun L W hL hW => by have hb := hW.resolve_left (by simp [came, hL 13 (by kernel_rfl)]); have q1 := HC1.out _ hb; obtain ⟨q2, q3⟩ := HC2.out _ hb; go_simp; rfl) ?_
      refine g_one (i := 7) rfl rfl (by kernel_rfl) fun K hK => ?_
      go_simp
      have hlowA : Below w.heap.size w wa := HS.out.low.trans (HA.out.mono HS.out.low.size)
      refine Calls.mono (clone_row wa.drew base _ l0 ((HR0.out.below (hlowA)).below ((Below.refl _ wa).drew)) (by rw [← HL0.out]; exact (HR.out.at_ _).2)) ?_
      rintro e W1 ⟨v0, rfl, o0, b0⟩
      obtain ⟨X0, e0, hv0⟩ := own_form o0
      subst hv0
      have hS1 : Below wa.heap.size wa W1 := hS.trans b0
      have HO0 := Lib.hid o0
      have HB0 := Lib.hid b0
      have HLA := Lib.hid hlowA
      clear o0 b0 hlowA
      refine hK _ _ (.inr hS1) ?_
      clear hK K
      refine g_one (i := 10) rfl rfl (by kernel_rfl) fun K hK => ?_
      go_simp
      refine Calls.mono (clone_row W1 base _ l1 ((HR1.out.below HLA.out).below hS1) (by rw [← HL1.out]; exact (HR.out.at_ _).2)) ?_
      rintro e W2 ⟨v1, rfl, o1, b1⟩
      obtain ⟨X1, e1, hv1⟩ := own_form o1
      subst hv1
      have hS2 : Below wa.heap.size wa W2 := hS1.trans (b1.mono hS1.size)
      have HO1 := Lib.hid o1
      have HB1 := Lib.hid b1
      clear o1 b1
      refine hK _ _ (.inr hS2) ?_
      clear hK K
      have HBK : Hid (Blk W2 r2 96 cur) := Lib.hid ((HS.out.lies.blk.below HA.out HS.out.lies.blk.lt).below hS2 (by have := HS.out.lies.blk.lt; have := HZ.out; omega))
      have HN2 : Hid (CS w ((W2.setCell ⟨r2, 2 * k, none⟩ (.slice X0 l0.length e0)).setCell ⟨r2, 2 * k + 1, none⟩ (.slice X1 l1.length e1)) base n w1.heap.size r2 c2 ((cur.setIfInBounds (2 * k) (.slice X0 l0.length e0)).setIfInBounds (2 * k + 1) (.slice X1 l1.length e1)) L (k + 1)) := Lib.hid (by
        refine (HS.out.below HA.out).next hlt ((Below.refl _ wa).drew.trans HB0.out) HB1.out ?_ ?_
        · rw [HL0.out]; exact HO0.out
        · rw [HL1.out]; exact HO1.out)
      rw [Nat.mul_comm 2 k] at HN2
      have HST : Hid (W2.cell? ⟨r2, k * 2, none⟩ = some (.slice A0 l0.length d0) ∧ W2.frozen? ⟨r2, k * 2, none⟩ = false ∧ (W2.setCell ⟨r2, k * 2, none⟩ (.slice X0 l0.length e0)).cell? ⟨r2, k * 2 + 1, none⟩ = some (.slice A1 l1.length d1) ∧ (W2.setCell ⟨r2, k * 2, none⟩ (.slice X0 l0.length e0)).frozen? ⟨r2, k * 2 + 1, none⟩ = false) := Lib.hid (by
        rw [Nat.mul_comm k 2]
        refine ⟨(HBK.out.cell _).trans HC0.out, HBK.out.frozen _, ((HBK.out.set_ (2 * k) _).cell _).trans ?_, (HBK.out.set_ (2 * k) _).frozen _⟩
        rw [Array.getElem?_setIfInBounds_ne (by omega)]
        exact HC0'.out)
      refine g_one (i := 11) rfl rfl (by kernel_rfl) fun K hK => ?_
      go_simp
      refine hK _ _ (.inr hS2) ?_
      clear hK K
      refine g_take (i := 12) rfl rfl (by kernel_rfl) (by kernel_rfl) (by kernel_rfl) (by kernel_rfl) (by kernel_rfl) (fun _ _ _ h => h) (.inr hS2) (fun L W hL hW => by go_simp; rfl) ?_
      refine g_one (i := 13) rfl rfl (by kernel_rfl) fun K hK => ?_
      obtain ⟨s1, s2, s3, s4⟩ := HST.out
      go_simp
      refine hK _ _ (.inl (by simp [came])) ?_
      clear hK K s1 s2 s3 s4
      refine wpAnyG_done (by kernel_rfl) ?_ _
      clear hS hS1 hS2 HST HBK HB0 HB1 HO0 HO1 HLA HC1 HC2 HBX HZ HA HC0 HC0' HR0 HR1 HS HL0 HL1
      go_simp
      go_wp2_with fail
      go_roundw
      case rel => exact ⟨k + 1, _, by omega, by go_num, HN2⟩
      case measure => simp [intOf]; omega
    · obtain rfl : k = n := by omega
      have HF : Hid (CopyOut w k L (.returned (.pointer (some ⟨w1.heap.size, 0, none⟩))) wr) := Lib.hid ⟨_, rfl, HS.out.done, HS.out.low⟩
      clear HS
      go_wp2_with fail
      go_ret
      exact HF.out
end Go.Proofs.Ytelplccbcbegkaa.GrW

namespace Go.Proofs.Ytelplccbcbegkaa.Gr
set_option linter.unusedVariables false
open Go.Proofs.Ytelplccbcbegkaa.GrW (add rem rk Rises ins del isV hasE canPut rising_len)

/-- The rows of a graph of n vertices: rising, of vertices alone, what goes out comes in, none goes to itself. -/
structure OK (n : Nat) (L : List (List Int)) : Prop where
  len : L.length = 2 * n
  rise : ∀ i, (L.getD i []).Pairwise (· < ·)
  ins : ∀ i, ∀ x ∈ L.getD i [], (0 : Int) ≤ x ∧ x < n
  cons : Cons n L
  self : ∀ v : Nat, v < n → (v : Int) ∉ outs L v
theorem OK.many {n : Nat} {L : List (List Int)} (h : OK n L) (i : Nat) : (L.getD i []).length ≤ n := by
  have := rising_len (a := 0) (b := n) (by omega) (h.rise i) (h.ins i)
  omega
theorem of_mem {L : List (List Int)} {l : List Int} (h : l ∈ L) : ∃ i, l = L.getD i [] := by
  obtain ⟨i, hi, rfl⟩ := List.getElem_of_mem h
  exact ⟨i, by simp [List.getD, hi]⟩
theorem OK.rises {n : Nat} {L : List (List Int)} (h : OK n L) (hn : n ≤ 30000) : Rises L := fun l hl => by
  obtain ⟨i, rfl⟩ := of_mem hl
  exact ⟨h.rise i, by have := h.many i; omega⟩
theorem OK.inside {n : Nat} {L : List (List Int)} (h : OK n L) : Inside n L := fun l hl => by
  obtain ⟨i, rfl⟩ := of_mem hl
  exact h.ins i
theorem OK.empty (n : Nat) : OK n (List.replicate (2 * n) []) := by
  have e : ∀ i, (List.replicate (2 * n) ([] : List Int)).getD i [] = [] := fun i => by
    simp only [List.getD]
    by_cases h : i < 2 * n
    · simp [h]
    · rw [List.getElem?_eq_none (by simp; omega)]; rfl
  exact ⟨by simp, fun i => by rw [e]; exact List.Pairwise.nil, fun i x hx => by rw [e] at hx; simp at hx, fun u v _ _ => by unfold outs intos; rw [e, e]; simp, fun v _ => by unfold outs; rw [e]; simp⟩
theorem getD_set {L : List (List Int)} {i : Nat} (hi : i < L.length) (l : List Int) (j : Nat) : (L.set i l).getD j [] = if j = i then l else L.getD j [] := by
  simp only [List.getD]
  by_cases e : j = i
  · subst e; simp [hi]
  · rw [List.getElem?_set_ne (fun h => e h.symm), if_neg e]
theorem rising_del {l : List Int} (h : l.Pairwise (· < ·)) (x : Int) : (rem l x).Pairwise (· < ·) := by
  unfold rem
  split
  · unfold del
    rw [← List.eraseIdx_eq_take_drop_succ]
    exact h.sublist (List.eraseIdx_sublist ..)
  · exact h
/-- Where a number stands in a rising row that holds it. -/
theorem at_rk {l : List Int} (h : l.Pairwise (· < ·)) {x : Int} (hx : x ∈ l) : ∃ hk : rk l x < l.length, l[rk l x] = x := by
  induction l with
  | nil => simp at hx
  | cons y l ih =>
    have hp := List.pairwise_cons.1 h
    rw [List.mem_cons] at hx
    by_cases e : x = y
    · subst e
      have e0 : rk (x :: l) x = 0 := by
        unfold rk
        rw [List.countP_eq_zero]
        intro z hz
        rw [List.mem_cons] at hz
        simp only [decide_eq_true_eq]
        rcases hz with hz | hz
        · omega
        · have := hp.1 z hz; omega
      exact ⟨by rw [e0]; simp, by simp [e0]⟩
    · have hx' : x ∈ l := hx.resolve_left e
      obtain ⟨hk, he⟩ := ih hp.2 hx'
      have hyx := hp.1 x hx'
      have e0 : rk (y :: l) x = rk l x + 1 := by unfold rk; simp [hyx]
      exact ⟨by rw [e0]; simpa using hk, by simp [e0, he]⟩
theorem mem_rem {l : List Int} (h : l.Pairwise (· < ·)) {x y : Int} : y ∈ rem l x ↔ y ∈ l ∧ y ≠ x := by
  unfold rem
  split
  · rename_i hx
    have hx : x ∈ l := by simpa using hx
    obtain ⟨hk, he⟩ := at_rk h hx
    unfold del
    have e : l.take (rk l x) ++ x :: l.drop (rk l x + 1) = l := by
      have := List.drop_eq_getElem_cons hk
      rw [he] at this
      rw [← this, List.take_append_drop]
    rw [List.mem_append]
    rw [← e, List.pairwise_append, List.pairwise_cons] at h
    have e2 : ∀ z, z ∈ l ↔ z ∈ l.take (rk l x) ∨ z = x ∨ z ∈ l.drop (rk l x + 1) := fun z => by
      conv => lhs; rw [← e]
      rw [List.mem_append, List.mem_cons]
    rw [e2]
    constructor
    · rintro (h1 | h1)
      · exact ⟨.inl h1, fun e => by have := h.2.2 y h1 x (List.mem_cons_self ..); omega⟩
      · exact ⟨.inr (.inr h1), fun e => by have := h.2.1.1 y h1; omega⟩
    · rintro ⟨h1 | h1 | h1, h2⟩
      · exact .inl h1
      · exact absurd h1 h2
      · exact .inr h1
  · rename_i hx
    have hx : x ∉ l := by simpa using hx
    exact ⟨fun h => ⟨h, fun e => hx (by rw [← e]; exact h)⟩, And.left⟩
theorem put_getD {n : Nat} {L : List (List Int)} (h : OK n L) {k m : Nat} (hk : k < n) (hm : m < n) (i : Nat) : (putL L k m).getD i [] = if i = 2 * k then add (L.getD i []) m else if i = 2 * m + 1 then add (L.getD i []) k else L.getD i [] := by
  have hl := h.len
  unfold putL
  rw [getD_set (by rw [List.length_set]; omega), getD_set (by omega)]
  by_cases e1 : i = 2 * m + 1
  · subst e1
    rw [if_pos rfl, if_neg (by omega), if_pos rfl]
  · rw [if_neg e1, if_neg e1]
    by_cases e2 : i = 2 * k
    · subst e2; rw [if_pos rfl]
    · rw [if_neg e2, if_neg e2]
theorem cut_getD {n : Nat} {L : List (List Int)} (h : OK n L) {k m : Nat} (hk : k < n) (hm : m < n) (i : Nat) : (cutL L k m).getD i [] = if i = 2 * k then rem (L.getD i []) m else if i = 2 * m + 1 then rem (L.getD i []) k else L.getD i [] := by
  have hl := h.len
  unfold cutL
  rw [getD_set (by rw [List.length_set]; omega), getD_set (by omega)]
  by_cases e1 : i = 2 * m + 1
  · subst e1
    rw [if_pos rfl, if_neg (by omega), if_pos rfl]
  · rw [if_neg e1, if_neg e1]
    by_cases e2 : i = 2 * k
    · subst e2; rw [if_pos rfl]
    · rw [if_neg e2, if_neg e2]
theorem put_out {n : Nat} {L : List (List Int)} (h : OK n L) {k m : Nat} (hk : k < n) (hm : m < n) (u : Nat) (x : Int) : x ∈ outs (putL L k m) u ↔ x ∈ outs L u ∨ (u = k ∧ x = m) := by
  unfold outs
  rw [put_getD h hk hm]
  by_cases e : u = k
  · subst e
    rw [if_pos rfl, mem_add]
    simp; exact Or.comm
  · rw [if_neg (by omega), if_neg (by omega)]
    simp [e]
theorem put_in {n : Nat} {L : List (List Int)} (h : OK n L) {k m : Nat} (hk : k < n) (hm : m < n) (v : Nat) (x : Int) : x ∈ intos (putL L k m) v ↔ x ∈ intos L v ∨ (v = m ∧ x = k) := by
  unfold intos
  rw [put_getD h hk hm]
  by_cases e : v = m
  · subst e
    rw [if_neg (by omega), if_pos rfl, mem_add]
    simp; exact Or.comm
  · rw [if_neg (by omega), if_neg (by omega)]
    simp [e]
theorem cut_out {n : Nat} {L : List (List Int)} (h : OK n L) {k m : Nat} (hk : k < n) (hm : m < n) (u : Nat) (x : Int) : x ∈ outs (cutL L k m) u ↔ x ∈ outs L u ∧ ¬ (u = k ∧ x = m) := by
  unfold outs
  rw [cut_getD h hk hm]
  by_cases e : u = k
  · subst e
    rw [if_pos rfl, mem_rem (h.rise _)]
    simp
  · rw [if_neg (by omega), if_neg (by omega)]
    simp [e]
theorem cut_in {n : Nat} {L : List (List Int)} (h : OK n L) {k m : Nat} (hk : k < n) (hm : m < n) (v : Nat) (x : Int) : x ∈ intos (cutL L k m) v ↔ x ∈ intos L v ∧ ¬ (v = m ∧ x = k) := by
  unfold intos
  rw [cut_getD h hk hm]
  by_cases e : v = m
  · subst e
    rw [if_neg (by omega), if_pos rfl, mem_rem (h.rise _)]
    simp
  · rw [if_neg (by omega), if_neg (by omega)]
    simp [e]
theorem OK.put {n : Nat} {L : List (List Int)} (h : OK n L) {k m : Nat} (hk : k < n) (hm : m < n) (hne : k ≠ m) : OK n (putL L k m) where
  len := by unfold putL; simp [h.len]
  rise := fun i => by
    rw [put_getD h hk hm]
    split
    · exact rising_add (h.rise i) _
    · split
      · exact rising_add (h.rise i) _
      · exact h.rise i
  ins := fun i x hx => by
    rw [put_getD h hk hm] at hx
    split at hx
    · rw [mem_add] at hx
      rcases hx with hx | hx
      · omega
      · exact h.ins i x hx
    · split at hx
      · rw [mem_add] at hx
        rcases hx with hx | hx
        · omega
        · exact h.ins i x hx
      · exact h.ins i x hx
  cons := fun u v hu hv => by
    rw [put_out h hk hm, put_in h hk hm, h.cons u v hu hv]
    constructor
    · rintro (h | ⟨h1, h2⟩)
      · exact .inl h
      · exact .inr ⟨by omega, by omega⟩
    · rintro (h | ⟨h1, h2⟩)
      · exact .inl h
      · exact .inr ⟨by omega, by omega⟩
  self := fun v hv e => by
    rw [put_out h hk hm] at e
    rcases e with e | e
    · exact h.self v hv e
    · omega
theorem OK.cut {n : Nat} {L : List (List Int)} (h : OK n L) {k m : Nat} (hk : k < n) (hm : m < n) : OK n (cutL L k m) where
  len := by unfold cutL; simp [h.len]
  rise := fun i => by
    rw [cut_getD h hk hm]
    split
    · exact rising_del (h.rise i) _
    · split
      · exact rising_del (h.rise i) _
      · exact h.rise i
  ins := fun i x hx => by
    rw [cut_getD h hk hm] at hx
    split at hx
    · exact h.ins i x ((mem_rem (h.rise i)).1 hx).1
    · split at hx
      · exact h.ins i x ((mem_rem (h.rise i)).1 hx).1
      · exact h.ins i x hx
  cons := fun u v hu hv => by
    rw [cut_out h hk hm, cut_in h hk hm, h.cons u v hu hv]
    have : (u = k ∧ (v : Int) = m) ↔ (v = m ∧ (u : Int) = k) := ⟨fun ⟨a, b⟩ => ⟨by omega, by omega⟩, fun ⟨a, b⟩ => ⟨by omega, by omega⟩⟩
    rw [this]
  self := fun v hv e => by
    rw [cut_out h hk hm] at e
    exact h.self v hv e.1
/-- Rising rows of the same numbers are the same. -/
theorem rising_ext : ∀ {a b : List Int}, a.Pairwise (· < ·) → b.Pairwise (· < ·) → (∀ x, x ∈ a ↔ x ∈ b) → a = b
  | [], [], _, _, _ => rfl
  | [], y :: b, _, _, h => by have := (h y).2 (List.mem_cons_self ..); simp at this
  | x :: a, [], _, _, h => by have := (h x).1 (List.mem_cons_self ..); simp at this
  | x :: a, y :: b, ha, hb, h => by
    have pa := List.pairwise_cons.1 ha
    have pb := List.pairwise_cons.1 hb
    have e : x = y := by
      have h1 := (h x).1 (List.mem_cons_self ..)
      have h2 := (h y).2 (List.mem_cons_self ..)
      rw [List.mem_cons] at h1 h2
      rcases h1 with h1 | h1
      · exact h1
      · rcases h2 with h2 | h2
        · exact h2.symm
        · have := pb.1 x h1; have := pa.1 y h2; omega
    subst e
    rw [rising_ext pa.2 pb.2 (fun z => by
      have := h z
      rw [List.mem_cons, List.mem_cons] at this
      constructor
      · intro hz
        exact (this.1 (.inr hz)).resolve_left (fun e => by have := pa.1 z hz; omega)
      · intro hz
        exact (this.2 (.inr hz)).resolve_left (fun e => by have := pb.1 z hz; omega))]
/-- Graphs of the same edges are the same. -/
theorem OK.ext {n : Nat} {L M : List (List Int)} (h : OK n L) (k : OK n M) (he : ∀ u, u < n → ∀ x, x ∈ outs L u ↔ x ∈ outs M u) : L = M := by
  apply List.ext_getElem
  · rw [h.len, k.len]
  · intro i h1 h2
    have e1 : L[i] = L.getD i [] := by simp [List.getD, h1]
    have e2 : M[i] = M.getD i [] := by simp [List.getD, h2]
    rw [e1, e2]
    have hl := h.len
    rcases Nat.mod_two_eq_zero_or_one i with hp | hp
    · have : i = 2 * (i / 2) := by omega
      rw [this]
      exact rising_ext (h.rise _) (k.rise _) (he (i / 2) (by omega))
    · have e : i = 2 * (i / 2) + 1 := by omega
      rw [e]
      refine rising_ext (h.rise _) (k.rise _) (fun x => ?_)
      constructor
      · intro hx
        obtain ⟨h3, h4⟩ := h.ins _ x hx
        obtain ⟨u, rfl⟩ : ∃ u : Nat, x = u := ⟨x.toNat, by omega⟩
        have hx' : (u : Int) ∈ intos L (i / 2) := hx
        rw [← h.cons u (i / 2) (by omega) (by omega), he u (by omega), k.cons u (i / 2) (by omega) (by omega)] at hx'
        exact hx'
      · intro hx
        obtain ⟨h3, h4⟩ := k.ins _ x hx
        obtain ⟨u, rfl⟩ : ∃ u : Nat, x = u := ⟨x.toNat, by omega⟩
        have hx' : (u : Int) ∈ intos M (i / 2) := hx
        rw [← k.cons u (i / 2) (by omega) (by omega), ← he u (by omega), h.cons u (i / 2) (by omega) (by omega)] at hx'
        exact hx'
/-- Sorting has one answer. -/
theorem Topo.part {n : Nat} {L : List (List Int)} {out : List Int} (h : Topo n L out) : ∀ (a : List Int) (x : Int) (t : List Int), out = a ++ x :: t → ∃ u : Nat, x = u ∧ Topo n L a ∧ Free n L a u ∧ ∀ y, Free n L a y → u ≤ y := by
  induction h with
  | nil => intro a x t e; simp at e
  | @snoc out v ht hf hm ih =>
    intro a x t e
    rcases List.eq_nil_or_concat t with ht | ⟨t', y, ht⟩
    · subst ht
      obtain ⟨e1, e2⟩ := List.append_inj' e (by simp)
      have e3 : (v : Int) = x := by simpa using e2
      subst e1
      exact ⟨v, e3.symm, ‹Topo n L out›, hf, hm⟩
    · have e' : out ++ [(v : Int)] = (a ++ x :: t') ++ [y] := by rw [e, ht]; simp
      exact ih a x t' (List.append_inj' e' (by simp)).1
theorem Topo.leads {n : Nat} {L : List (List Int)} {out out2 : List Int} (h : Topo n L out) (h2 : Topo n L out2) (hm : ∀ v, ¬ Free n L out2 v) : out <+: out2 := by
  induction h with
  | nil => exact List.nil_prefix
  | @snoc out v ht hf hmin ih =>
    obtain ⟨t, rfl⟩ := ih
    cases t with
    | nil => exact absurd hf (by have := hm v; rwa [List.append_nil] at this)
    | cons x t =>
      obtain ⟨u, rfl, -, hfu, hmu⟩ := h2.part out x t rfl
      have : u = v := Nat.le_antisymm (hmu v hf) (hmin u hfu)
      subst this
      exact ⟨t, by simp⟩
theorem Topo.unique {n : Nat} {L : List (List Int)} {out out2 : List Int} (h : Topo n L out) (h2 : Topo n L out2) (hm : ∀ v, ¬ Free n L out v) (hm2 : ∀ v, ¬ Free n L out2 v) : out = out2 :=
  (h.leads h2 hm2).eq_of_length_le (h2.leads h hm).length_le
instance (n : Nat) (L : List (List Int)) (out : List Int) (v : Nat) : Decidable (Free n L out v) := by unfold Free; exact inferInstance
theorem Topo.more {n : Nat} {L : List (List Int)} {out : List Int} {v : Nat} (h : Topo n L out) (hf : Free n L out v) (hm : ∀ u, u < v → ¬ Free n L out u) : Topo n L (out ++ [(v : Int)]) := .snoc h hf fun u hu => Nat.le_of_not_lt fun e => hm u e hu
theorem none_free {n : Nat} {L : List (List Int)} {out : List Int} (h : ∀ v, v < n → ¬ Free n L out v) : ∀ v, ¬ Free n L out v := fun v hv => h v hv.1 hv
theorem Path.stuck {L : List (List Int)} {u v : Nat} (h : Path L u v) (h0 : outs L u = []) : v = u := by
  cases h with
  | refl => rfl
  | step he _ => unfold E outs at *; rw [h0] at he; simp at he
end Go.Proofs.Ytelplccbcbegkaa.Gr

namespace Go.Proofs.Ytelplccbcbegkaa.GrW
set_option linter.unusedVariables false
open Go Go.RowKit Go.Proofs Go.Proofs.Ytelplccbcbegkaa Go.Proofs.Ytelplccbcbegkaa.Wd
open Go.Proofs.Ytelplccbcbegkaa.Gr (ev)

theorem itake_succ {l m : List Int} {k : Nat} (hk : k < l.length) (hm : k < m.length) (h : l.take k = m.take k) : l.take (k + 1) = m.take (k + 1) ↔ l[k] = m[k] := by
  rw [List.take_succ_eq_append_getElem hk, List.take_succ_eq_append_getElem hm, h, List.append_cancel_left_eq]
  simp
theorem ine_of_get {l m : List Int} {k : Nat} (hk : k < l.length) (hm : k < m.length) (h : l[k] ≠ m[k]) : l ≠ m := by
  rintro rfl; exact h rfl
set_option maxHeartbeats 1000000 in
theorem ints_any (A B : Option Addr) (c d : Nat) (l m : List Int) (x y : Nat) (hx : x = l.length) (hy : y = m.length) (hxc : x ≤ c) (hcm : c ≤ maxLen) (w : World) (hI : Nums w w.heap.size A l) (hJ : Nums w w.heap.size B m) :
    Calls Try.prog 20 #[.slice A x c, .slice B y d] w fun e w' => e = .returned (.bool (decide (l = m))) ∧ Below w.heap.size w w' := by
  unfold maxLen at hcm
  have HX := Lib.hid hx
  have HY := Lib.hid hy
  by_cases hne : x = y
  · subst hne
    clear hx hy
    go_enter Try.func20, Try.ntmps20
    go_wp2
    go_loopw [13] (fun i wr => ∃ k : Nat, k ≤ x ∧ i = .int .i64 k ∧ RowKit.Hid (l.take k = m.take k) ∧ Below w.heap.size w wr) (fun i _ => x - (intOf i).toNat)
    case atStart => exact ⟨0, Nat.zero_le _, rfl, Lib.hid (by simp), Below.refl _ _⟩
    case round =>
      obtain ⟨k, hk, rfl, hT, hBr⟩ := hrel
      by_cases hlt : k < x
      · have hkl : k < l.length := by have := HX.out; omega
        have hkm : k < m.length := by have := HY.out; omega
        obtain ⟨b1, o1, rfl, hb1, p1⟩ := hI.at_ hkl
        obtain ⟨b2, o2, rfl, hb2, q1⟩ := hJ.at_ hkm
        have hE1 : l[k] = m[k] → l.take (k + 1) = m.take (k + 1) := (itake_succ hkl hkm hT.out).2
        have hE2 : l[k] ≠ m[k] → l ≠ m := ine_of_get hkl hkm
        generalize l[k] = r at *
        generalize m[k] = s at *
        have HE1 := Lib.hid hE1
        have HE2 := Lib.hid hE2
        have g1 := (hBr.cell (p := ⟨b1, _, none⟩) hb1).trans p1
        have g2 := (hBr.cell (p := ⟨b2, _, none⟩) hb2).trans q1
        have i1 : (0 : Int) ≤ (k : Int) := by omega
        have i2 : (k : Int) < (x : Int) := by omega
        clear hE1 hE2 p1 q1 hT
        by_cases he : r = s
        · have u5 : (r != s) = false := by rw [he]; simp
          have HN := Lib.hid (HE1.out he)
          clear he
          go_wp2
          go_quiet (fail)
          go_wp2
          go_roundw
          case rel => exact ⟨k + 1, by omega, by go_num, HN, bdrewN hBr _⟩
          case measure => simp [intOf]; omega
        · have u5 : (r != s) = true := by rw [bne_iff_ne]; exact he
          have HN := Lib.hid (HE2.out he)
          clear he
          go_wp2
          go_quiet (fail)
          go_wp2
          go_ret
          exact ⟨by rw [decide_eq_false HN.out]; rfl, bdrewN hBr _⟩
      · obtain rfl : k = x := by omega
        have hN : Hid (l = m) := Lib.hid (by have := hT.out; rwa [List.take_of_length_le (by have := HX.out; omega), List.take_of_length_le (by have := HY.out; omega)] at this)
        clear hT
        go_wp2
        go_ret
        exact ⟨by rw [decide_eq_true hN.out]; rfl, hBr⟩
  · have hn : ((x : Int) != (y : Int)) = true := by rw [bne_iff_ne]; omega
    have hN : Hid (l ≠ m) := Lib.hid (fun h => hne (by rw [hx, hy, h]))
    clear hx hy
    go_enter Try.func20, Try.ntmps20
    go_wp2
    go_ret
    exact ⟨by rw [decide_eq_false hN.out]; rfl, Below.refl _ _⟩
theorem among_any (x : Int) (n : Nat) (hn : 0 < n) (hn2 : n ≤ 30000) (w : World) :
    Calls Try.prog 28 #[.int .i64 x, .int .i64 n] w fun e w' => e = .returned (.int .i64 (x % (n : Int))) ∧ w = w' := by
  have HE : Hid ((x.tmod n) % (n : Int) = x % (n : Int)) := Lib.hid (by
    have h1 : x.tmod n = x - n * (x.tdiv n) := by have := Int.mul_tdiv_add_tmod x n; omega
    rw [h1, Int.sub_mul_emod_self_left])
  have h2 : -(n : Int) < x.tmod n ∧ x.tmod n < n := by
    constructor
    · rcases Int.le_total 0 x with h | h
      · have := Int.tmod_nonneg (n : Int) h; omega
      · have e : x.tmod n = -((-x).tmod n) := by rw [Int.neg_tmod]; omega
        have := Int.tmod_lt_of_pos (-x) (b := (n : Int)) (by omega)
        omega
    · exact Int.tmod_lt_of_pos x (by omega)
  obtain ⟨h3, h4⟩ := h2
  have i1 : ¬ (n : Int) < 1 := by omega
  have i2 : ((n : Int) == 0) = false := by rw [beq_eq_false_iff_ne]; omega
  have i3 : ¬ (n : Int) = 0 := by omega
  go_enter Try.func28, Try.ntmps28
  go_wp2_with fail
  go_ret
  exact ⟨by show Ending.returned (.int .i64 (x.tmod ↑n % ↑n)) = _; rw [HE.out], rfl⟩
/-- Edges that are read. -/
def EdgesAt (w : World) (B : Nat) (A : Option Addr) (l : List (Int × Int)) : Prop := ∀ j (h : j < l.length), ∃ b off, A = some ⟨b, off, none⟩ ∧ b < B ∧ w.cell? ⟨b, off + j * 2, none⟩ = some (.int .i64 l[j].1) ∧ w.cell? ⟨b, off + j * 2 + 1, none⟩ = some (.int .i64 l[j].2)
theorem ev_at : ∀ (l : List (Int × Int)) (j : Nat) (h : j < l.length), (ev l)[j * 2]? = some (.int .i64 l[j].1) ∧ (ev l)[j * 2 + 1]? = some (.int .i64 l[j].2)
  | [], j, h => by simp at h
  | x :: l, 0, h => by simp [ev]
  | x :: l, j + 1, h => by
    have e1 : (j + 1) * 2 = j * 2 + 1 + 1 := by omega
    have h' : j < l.length := by simpa using h
    have := ev_at l j h'
    rw [e1]
    simpa [ev] using this
theorem EdgesAt.of_own {w : World} {base n c : Nat} {A : Option Addr} {l : List (Int × Int)} (h : w.ownsRow base 34 2 (.slice A n c) n (ev l)) : EdgesAt w w.heap.size A l ∧ n = l.length ∧ n ≤ c ∧ c ≤ maxLen := by
  have hl := h.1
  rw [Gr.ev_length] at hl
  have hn : n = l.length := by omega
  rcases h.2 with ⟨hv, h0⟩ | ⟨g, cap, cur, hv, _, hh, hmc, hcm, hcs, htk⟩
  · cases hv
    exact ⟨fun j hj => by omega, hn, Nat.le_refl _, by decide⟩
  · cases hv
    have hblk : Blk w g 34 cur := hh
    refine ⟨fun j hj => ⟨g, 0, rfl, hblk.lt, ?_, ?_⟩, hn, hmc, hcm⟩
    · obtain ⟨e1, -⟩ := ev_at l j hj
      rw [← htk, List.getElem?_take_of_lt (by omega)] at e1
      rw [hblk.cell, Nat.zero_add]; simpa using e1
    · obtain ⟨-, e1⟩ := ev_at l j hj
      rw [← htk, List.getElem?_take_of_lt (by omega)] at e1
      rw [hblk.cell, Nat.zero_add]; simpa using e1
theorem EdgesAt.below {w w' : World} {B : Nat} {A : Option Addr} {l : List (Int × Int)} (h : EdgesAt w B A l) (hb : Below B w w') : EdgesAt w' B A l := fun j hj => by
  obtain ⟨b, off, h1, h2, h3, h4⟩ := h j hj
  exact ⟨b, off, h1, h2, (hb.cell (p := ⟨b, _, none⟩) h2).trans h3, (hb.cell (p := ⟨b, _, none⟩) h2).trans h4⟩
theorem edge_stood : Try.prog.stoodInHeld 34 = false := by kernel_rfl
theorem edge_struct : Try.prog.underlying 34 = some (.struct (Try.prog.fieldsOf 34)) := by kernel_rfl
theorem neq_edges (r1 r2 s1 s2 : Int) (W : World) : (binOp .neq 34 (.agg #[.int .i64 r1, .int .i64 r2]) (.agg #[.int .i64 s1, .int .i64 s2])).run Try.prog W = .ok (.bool (!(r1 == s1 && r2 == s2))) W := by
  rw [run_neq_struct, run_equalIn_agg W 9999 _ _ _ edge_struct edge_stood]
  go_simp
  by_cases h1 : r1 = s1
  · by_cases h2 : r2 = s2 <;> simp [h1, h2]
  · simp [h1]
theorem ptake_succ {l m : List (Int × Int)} {k : Nat} (hk : k < l.length) (hm : k < m.length) (h : l.take k = m.take k) : l.take (k + 1) = m.take (k + 1) ↔ l[k] = m[k] := by
  rw [List.take_succ_eq_append_getElem hk, List.take_succ_eq_append_getElem hm, h, List.append_cancel_left_eq]
  simp
theorem pne_of_get {l m : List (Int × Int)} {k : Nat} (hk : k < l.length) (hm : k < m.length) (h : l[k] ≠ m[k]) : l ≠ m := by
  rintro rfl; exact h rfl
set_option maxHeartbeats 1000000 in
theorem sameEdges_any (A B : Option Addr) (c d : Nat) (l m : List (Int × Int)) (x y : Nat) (hx : x = l.length) (hy : y = m.length) (hxc : x ≤ c) (hcm : c ≤ maxLen) (w : World) (hI : EdgesAt w w.heap.size A l) (hJ : EdgesAt w w.heap.size B m) :
    Calls Try.prog 21 #[.slice A x c, .slice B y d] w fun e w' => e = .returned (.bool (decide (l = m))) ∧ Below w.heap.size w w' := by
  unfold maxLen at hcm
  have HX := Lib.hid hx
  have HY := Lib.hid hy
  by_cases hne : x = y
  · subst hne
    clear hx hy
    go_enter Try.func21, Try.ntmps21
    go_wp2
    go_loopw [13] (fun i wr => ∃ k : Nat, k ≤ x ∧ i = .int .i64 k ∧ RowKit.Hid (l.take k = m.take k) ∧ Below w.heap.size w wr) (fun i _ => x - (intOf i).toNat)
    case atStart => exact ⟨0, Nat.zero_le _, rfl, Lib.hid (by simp), Below.refl _ _⟩
    case round =>
      obtain ⟨k, hk, rfl, hT, hBr⟩ := hrel
      by_cases hlt : k < x
      · have hkl : k < l.length := by have := HX.out; omega
        have hkm : k < m.length := by have := HY.out; omega
        obtain ⟨b1, o1, rfl, hb1, p1, p2⟩ := hI k hkl
        obtain ⟨b2, o2, rfl, hb2, q1, q2⟩ := hJ k hkm
        have hE1 : l[k] = m[k] → l.take (k + 1) = m.take (k + 1) := (ptake_succ hkl hkm hT.out).2
        have hE2 : l[k] ≠ m[k] → l ≠ m := pne_of_get hkl hkm
        generalize l[k] = r at *
        generalize m[k] = s at *
        obtain ⟨r1, r2⟩ := r
        obtain ⟨s1, s2⟩ := s
        have HE1 := Lib.hid hE1
        have HE2 := Lib.hid hE2
        have g1 := (hBr.cell (p := ⟨b1, _, none⟩) hb1).trans p1
        have g2 := (hBr.cell (p := ⟨b2, _, none⟩) hb2).trans q1
        have g3 := (hBr.cell (p := ⟨b1, _, none⟩) hb1).trans p2
        have g4 := (hBr.cell (p := ⟨b2, _, none⟩) hb2).trans q2
        have i1 : (0 : Int) ≤ (k : Int) := by omega
        have i2 : (k : Int) < (x : Int) := by omega
        clear hE1 hE2 p1 q1 p2 q2 hT
        by_cases he1 : r1 = s1
        · by_cases he2 : r2 = s2
          · obtain rfl := he1
            obtain rfl := he2
            have HN := Lib.hid (HE1.out rfl)
            clear HE1 HE2
            go_wp2
            go_quiet (fail)
            go_wp2
            go_roundw
            case rel => exact ⟨k + 1, by omega, by go_num, HN, bdrewN hBr _⟩
            case measure => simp [intOf]; omega
          · obtain rfl := he1
            have HN := Lib.hid (HE2.out (fun e => he2 (congrArg Prod.snd e)))
            have hq : ∀ W, (binOp .neq 34 (.agg #[.int .i64 r1, .int .i64 r2]) (.agg #[.int .i64 r1, .int .i64 s2])).run Try.prog W = .ok (.bool true) W := fun W => by
              rw [neq_edges]; simp [he2]
            clear HE1 HE2
            go_wp2
            go_quiet (fail)
            go_wp2
            go_ret
            exact ⟨by rw [decide_eq_false HN.out]; rfl, bdrewN hBr _⟩
        · have HN := Lib.hid (HE2.out (fun e => he1 (congrArg Prod.fst e)))
          have hq : ∀ W, (binOp .neq 34 (.agg #[.int .i64 r1, .int .i64 r2]) (.agg #[.int .i64 s1, .int .i64 s2])).run Try.prog W = .ok (.bool true) W := fun W => by
            rw [neq_edges]; simp [he1]
          clear HE1 HE2
          go_wp2
          go_quiet (fail)
          go_wp2
          go_ret
          exact ⟨by rw [decide_eq_false HN.out]; rfl, bdrewN hBr _⟩
      · obtain rfl : k = x := by omega
        have hN : Hid (l = m) := Lib.hid (by have := hT.out; rwa [List.take_of_length_le (by have := HX.out; omega), List.take_of_length_le (by have := HY.out; omega)] at this)
        clear hT
        go_wp2
        go_ret
        exact ⟨by rw [decide_eq_true hN.out]; rfl, hBr⟩
  · have hn : ((x : Int) != (y : Int)) = true := by rw [bne_iff_ne]; omega
    have hN : Hid (l ≠ m) := Lib.hid (fun h => hne (by rw [hx, hy, h]))
    clear hx hy
    go_enter Try.func21, Try.ntmps21
    go_wp2
    go_ret
    exact ⟨by rw [decide_eq_false hN.out]; rfl, Below.refl _ _⟩
end Go.Proofs.Ytelplccbcbegkaa.GrW

namespace Go.Proofs.Ytelplccbcbegkaa.GrW
set_option linter.unusedVariables false
open Go Go.RowKit Go.Proofs Go.Proofs.Ytelplccbcbegkaa Go.Proofs.Ytelplccbcbegkaa.Wd
open Go.Proofs.Ytelplccbcbegkaa.Gr (putL cutL OK Cons Inside Topo Free outs intos Path)

theorem GAt.wide {w : World} {base g n : Nat} {F F' : Nat → Prop} {L : List (List Int)} (h : GAt w base F g n L) (hf : ∀ k, F k → F' k) : GAt w base F' g n L := by
  obtain ⟨r, c, cur, h1, h2, h3, h4, h5, h6, h7, f1, f2, f3⟩ := h
  exact ⟨r, c, cur, h1, h2, h3, h4, h5, h6, h7, hf _ f1, hf _ f2, fun i v b hi hv hb => hf _ (f3 i v b hi hv hb)⟩
theorem Fr.low {w w' : World} {F : Nat → Prop} {B : Nat} (h : Fr F w w') (hB : ∀ k, F k → B ≤ k) (hs : B ≤ w.heap.size) : Below B w w' := ⟨h.os, h.tape, h.output, h.size, fun k hk => h.block k (by omega) (fun hf => by have := hB k hf; omega)⟩
theorem Upd.low {base g n B : Nat} {F : Nat → Prop} {L : List (List Int)} {w w' : World} (h : Upd base F g n L w w') (hF : ∀ k, F k → B ≤ k) (hs : B ≤ w.heap.size) : GAt w' base (fun k => B ≤ k) g n L ∧ Below B w w' := by
  obtain ⟨F', h1, h2, h3⟩ := h
  exact ⟨h1.wide (fun k hk => (h3 k hk).elim (hF k) (fun h => by omega)), h2.low hF hs⟩
/-- Put and Cut where all numbers are known. -/
theorem put_c {w : World} {B g n : Nat} {L : List (List Int)} (hG : GAt w B (fun j => B ≤ j) g n L) (hr : Rises L) (hs : B ≤ w.heap.size) (u v : Int) (L' : List (List Int)) (b : Bool) (hc : canPut n u v = true) (hL : putL L u.toNat v.toNat = L') (hb : (!hasE n L u v) = b) :
    Calls Try.prog 33 #[.pointer (some ⟨g, 0, none⟩), .int .i64 u, .int .i64 v] w fun e w' => e = .returned (.tuple #[.bool b, .int .i64 0]) ∧ GAt w' B (fun j => B ≤ j) g n L' ∧ Below B w w' := by
  refine (put_all w B g n _ L hG hr hs u v).mono ?_
  intro e w' h
  unfold PutOut at h
  rw [if_pos hc, hL, hb] at h
  exact ⟨h.1, h.2.low (fun _ h => h) hs⟩
def L0 : List (List Int) := [[], [], [], [], [], [], [], []]
def L1 : List (List Int) := [[2], [], [], [], [], [0], [], []]
def L2 : List (List Int) := [[2], [], [], [2], [1], [0], [], []]
def L3 : List (List Int) := [[2], [1], [0], [2], [1], [0], [], []]
theorem ok0 : OK 4 L0 := OK.empty 4
theorem ok1 : OK 4 L1 := ok0.put (k := 0) (m := 2) (by decide) (by decide) (by decide)
theorem ok2 : OK 4 L2 := ok1.put (k := 2) (m := 1) (by decide) (by decide) (by decide)
theorem ok3 : OK 4 L3 := ok2.put (k := 1) (m := 0) (by decide) (by decide) (by decide)
theorem topo2 : Topo 4 L2 [0, 2, 1, 3] := by
  have h1 : Topo 4 L2 ([] ++ [((0 : Nat) : Int)]) := Topo.nil.more (by decide) (by decide)
  have h2 : Topo 4 L2 (([] ++ [((0 : Nat) : Int)]) ++ [((2 : Nat) : Int)]) := h1.more (by decide) (by decide)
  have h3 : Topo 4 L2 ((([] ++ [((0 : Nat) : Int)]) ++ [((2 : Nat) : Int)]) ++ [((1 : Nat) : Int)]) := h2.more (by decide) (by decide)
  have h4 : Topo 4 L2 (((([] ++ [((0 : Nat) : Int)]) ++ [((2 : Nat) : Int)]) ++ [((1 : Nat) : Int)]) ++ [((3 : Nat) : Int)]) := h3.more (by decide) (by decide)
  exact h4
theorem topo3 : Topo 4 L3 [3] := by
  have h1 : Topo 4 L3 ([] ++ [((3 : Nat) : Int)]) := Topo.nil.more (by decide) (by decide)
  exact h1
theorem free2 : ∀ v, ¬ Free 4 L2 [0, 2, 1, 3] v := Gr.none_free (by decide)
theorem free3 : ∀ v, ¬ Free 4 L3 [3] v := Gr.none_free (by decide)
theorem reach01 : reached 4 L2 0 1 := ⟨by decide, by decide, .step (x := 2) (by unfold Gr.E; decide) (.step (x := 1) (by unfold Gr.E; decide) (.refl 1))⟩
theorem reach10 : ¬ reached 4 L2 1 0 := fun h => by
  have := h.2.2.stuck (by decide)
  simp at this
theorem reach33 : reached 4 L2 3 3 := ⟨by decide, by decide, .refl _⟩
theorem sort_2 {w : World} {base g : Nat} {F : Nat → Prop} (h : GAt w base F g 4 L2) : Calls Try.prog 40 #[.pointer (some ⟨g, 0, none⟩)] w fun e w' => ∃ A c, e = .returned (.tuple #[.slice A 4 c, .bool true]) ∧ w'.ownsRow w.heap.size 3 1 (.slice A 4 c) 4 (iv [0, 2, 1, 3]) ∧ Below w.heap.size w w' := by
  refine (sort_any w base g 4 F L2 h (ok2.rises (by decide)) ok2.inside ok2.cons (by decide)).mono ?_
  rintro e w' ⟨out, h1, h2, h3, h4⟩
  have e1 := h1.unique topo2 h2 free2
  subst e1
  rcases h4 with ⟨-, v', rfl, h5⟩ | ⟨h4, -⟩
  · obtain ⟨A, c, rfl⟩ := own_form h5
    exact ⟨A, c, rfl, h5, h3⟩
  · simp at h4
theorem sort_3 {w : World} {base g : Nat} {F : Nat → Prop} (h : GAt w base F g 4 L3) : Calls Try.prog 40 #[.pointer (some ⟨g, 0, none⟩)] w fun e w' => e = .returned (.tuple #[.slice none 0 0, .bool false]) ∧ Below w.heap.size w w' := by
  refine (sort_any w base g 4 F L3 h (ok3.rises (by decide)) ok3.inside ok3.cons (by decide)).mono ?_
  rintro e w' ⟨out, h1, h2, h3, h4⟩
  have e1 := h1.unique topo3 h2 free3
  subst e1
  rcases h4 with ⟨h4, -⟩ | ⟨-, rfl⟩
  · simp at h4
  · exact ⟨rfl, h3⟩
/-- A row of the call's own beside a literal. -/
theorem ints_c {w : World} {base : Nat} {A : Option Addr} {n c : Nat} {l m : List Int} (h : w.ownsRow base 3 1 (.slice A n c) n (iv l)) {b k : Nat} (hb : Blk w b 3 (iv m).toArray) (hk : k = m.length) :
    Calls Try.prog 20 #[.slice A n c, .slice (some ⟨b, 0, none⟩) k k] w fun e w' => e = .returned (.bool (decide (l = m))) ∧ Below w.heap.size w w' := by
  obtain ⟨h1, h2, h3, h4⟩ := Nums.of_own h
  refine ints_any A (some ⟨b, 0, none⟩) c k l m n k h2 hk h3 h4 w h1 ?_
  have := Row.blk (B := w.heap.size) hb hb.lt
  unfold Nums
  simpa using this
def NumsC (w : World) (l : List Int) (m : Nat) (e : Ending) (w' : World) : Prop := ∃ A c, e = .returned (.slice A m c) ∧ w'.ownsRow w.heap.size 3 1 (.slice A m c) m (iv l) ∧ Below w.heap.size w w'
theorem NumsOut.c {w w' : World} {l l' : List Int} {e : Ending} (h : NumsOut w l e w') (hl : l = l') {m : Nat} (hm : m = l'.length) : NumsC w l' m e w' := by
  obtain ⟨v', rfl, h1, h2⟩ := h
  subst hl hm
  obtain ⟨A, c, rfl⟩ := own_form h1
  exact ⟨A, c, rfl, h1, h2⟩
theorem out_c {w : World} {base g n : Nat} {F : Nat → Prop} {L : List (List Int)} (h : GAt w base F g n L) (hr : Rises L) (u : Int) (l : List Int) (hl : outE n L u = l) (m : Nat) (hm : m = l.length) : Calls Try.prog 56 #[.pointer (some ⟨g, 0, none⟩), .int .i64 u] w (NumsC w l m) :=
  (out_any w base g n F L h hr u).mono fun e w' h => h.c hl hm
theorem into_c {w : World} {base g n : Nat} {F : Nat → Prop} {L : List (List Int)} (h : GAt w base F g n L) (hr : Rises L) (u : Int) (l : List Int) (hl : intoE n L u = l) (m : Nat) (hm : m = l.length) : Calls Try.prog 54 #[.pointer (some ⟨g, 0, none⟩), .int .i64 u] w (NumsC w l m) :=
  (into_any w base g n F L h hr u).mono fun e w' h => h.c hl hm
end Go.Proofs.Ytelplccbcbegkaa.GrW

namespace Go.Proofs.Ytelplccbcbegkaa.Gr
open Go.Proofs.Ytelplccbcbegkaa.GrW (isV canPut)
/-- One edge more, of numbers whatever. -/
def ofE (many : Nat) (L : List (List Int)) (x : Int × Int) : List (List Int) := if x.1 % (many : Int) = x.2 % (many : Int) then L else putL L (x.1 % (many : Int)).toNat (x.2 % (many : Int)).toNat
def ofL (many : Nat) (l : List (Int × Int)) : List (List Int) := l.foldl (ofE many) (List.replicate (2 * many) [])
theorem OK.ofE {many : Nat} {L : List (List Int)} (h : OK many L) (hm : 0 < many) (x : Int × Int) : OK many (ofE many L x) := by
  unfold Gr.ofE
  split
  · exact h
  · rename_i hne
    have h1 := Int.emod_nonneg x.1 (b := (many : Int)) (by omega)
    have h2 := Int.emod_lt_of_pos x.1 (b := (many : Int)) (by omega)
    have h3 := Int.emod_nonneg x.2 (b := (many : Int)) (by omega)
    have h4 := Int.emod_lt_of_pos x.2 (b := (many : Int)) (by omega)
    exact h.put (by omega) (by omega) (by omega)
theorem OK.foldl {many : Nat} (hm : 0 < many) : ∀ (l : List (Int × Int)) {L : List (List Int)}, OK many L → OK many (l.foldl (Gr.ofE many) L)
  | [], _, h => h
  | x :: l, _, h => OK.foldl hm l (h.ofE hm x)
theorem OK.ofL {many : Nat} (hm : 0 < many) (l : List (Int × Int)) : OK many (ofL many l) := OK.foldl hm l (OK.empty many)
theorem ofL_snoc (many : Nat) (l : List (Int × Int)) (x : Int × Int) : ofL many (l ++ [x]) = ofE many (ofL many l) x := by unfold ofL; rw [List.foldl_append]; rfl
end Go.Proofs.Ytelplccbcbegkaa.Gr
namespace Go.Proofs.Ytelplccbcbegkaa.GrW
set_option linter.unusedVariables false
open Go Go.RowKit Go.Proofs Go.Proofs.Ytelplccbcbegkaa Go.Proofs.Ytelplccbcbegkaa.Wd
open Go.Proofs.Ytelplccbcbegkaa.Gr (putL OK ofE ofL)
def manyOf (n : Nat) : Nat := 2 + n % 30
/-- What Put leaves of two numbers among the vertices. -/
theorem PutOut.among {base g n : Nat} {F : Nat → Prop} {L : List (List Int)} {x : Int × Int} {w w' : World} {e : Ending} (hn : 0 < n) (h : PutOut base F g n L (x.1 % (n : Int)) (x.2 % (n : Int)) w e w') (hG : GAt w base F g n L) : (∃ b c, e = .returned (.tuple #[.bool b, .int .i64 c])) ∧ Upd base F g n (ofE n L x) w w' := by
  have h1 := Int.emod_nonneg x.1 (b := (n : Int)) (by omega)
  have h2 := Int.emod_lt_of_pos x.1 (b := (n : Int)) (by omega)
  have h3 := Int.emod_nonneg x.2 (b := (n : Int)) (by omega)
  have h4 := Int.emod_lt_of_pos x.2 (b := (n : Int)) (by omega)
  unfold PutOut at h
  unfold ofE
  by_cases he : x.1 % (n : Int) = x.2 % (n : Int)
  · rw [if_neg (by unfold canPut; simp [he])] at h
    rw [if_pos he]
    obtain ⟨rfl, rfl⟩ := h
    exact ⟨⟨_, _, rfl⟩, Upd.refl hG⟩
  · rw [if_pos (by unfold canPut isV; simp [he, h1, h2, h3, h4])] at h
    rw [if_neg he]
    exact ⟨⟨_, _, h.1⟩, h.2⟩
def OfOut (w : World) (many : Nat) (L : List (List Int)) (e : Ending) (w' : World) : Prop :=
  ∃ g, e = .returned (.tuple #[.pointer (some ⟨g, 0, none⟩), .int .i64 many]) ∧ GAt w' w.heap.size (fun k => w.heap.size ≤ k) g many L ∧ Below w.heap.size w w'
end Go.Proofs.Ytelplccbcbegkaa.GrW

namespace Go.Proofs.Ytelplccbcbegkaa.GrW
set_option linter.unusedVariables false
open Go Go.RowKit Go.Proofs Go.Proofs.Ytelplccbcbegkaa Go.Proofs.Ytelplccbcbegkaa.Wd Go.ChangeShapes Go.WideShapes
theorem u8_of {x : Int} (h : (Lit.int .u8 x).wf = true) : ∃ a : Nat, x = a ∧ a < 256 := by
  have := bounds_u8 h
  exact ⟨x.toNat, by omega, by omega⟩
section
variable {H : Type} {enc : TypeId × Value → H} {W : World}
theorem edge_field {base : Nat} {spare : Nat → Bool} {held : Bool} {fuel : Nat} {cs : List Value} {x : DataW H × List MemPlace} {fs : Array Field} {i : Nat} {f : Field} (hu : Try.prog.underlying 34 = some (.struct fs)) (hf : fs[i]? = some f) (ht : f.type = 3) (h : DataW.trod enc Try.prog W base spare held fuel 34 cs = some x) :
    ∃ z, cs[f.offset]? = some (.int .i64 z) := by
  obtain ⟨xs, m, _, _, hl, hlen, hg⟩ := DataW.trod_struct hu h
  have h1 := hg i f hf
  rw [ht, List.getElem?_eq_getElem (by rw [hlen]; exact (Array.getElem?_eq_some_iff.1 hf).1)] at h1
  obtain ⟨z, hz, _⟩ := DataW.trod_int Try.underlying3 h1
  have h2 : ((cs.drop f.offset).take (Try.prog.cellsOf 3))[0]? = some (.int .i64 z) := by rw [hz]; rfl
  rw [List.getElem?_take_of_lt (by rw [show Try.prog.cellsOf 3 = 1 by kernel_rfl]; omega), List.getElem?_drop] at h2
  exact ⟨z, h2⟩
theorem open_edges {base : Nat} {spare : Nat → Bool} {held : Bool} {fuel : Nat} {v : Value} {x : DataW H × List MemPlace} (hs : ∀ b, spare b = true) (h : DataW.trod enc Try.prog W base spare held fuel 22 [v] = some x) :
    ∃ (l : List (Int × Int)) (A : Option Addr) (c : Nat), v = .slice A l.length c ∧ l.length ≤ c ∧ c ≤ maxLen ∧ EdgesAt W W.heap.size A l := by
  rcases Deep.open_slice Try.underlying22 h with ⟨hcs, _⟩ | ⟨a, len, cap, m, n, D, Pl, hcs, _, hl, hm, hmm, _, hx⟩
  · simp at hcs
    subst hcs
    exact ⟨[], none, 0, rfl, Nat.le_refl _, by simp [maxLen], fun j hj => by simp at hj⟩
  · simp at hcs
    subst hcs
    have hlm : len ≤ m := by rw [hmm]; split <;> omega
    have hC : Try.prog.cellsOf 34 = 2 := by kernel_rfl
    rw [hC] at hx
    obtain ⟨q, hq⟩ := Deep.choose_lt (n := len) (α := List Value × Int × Int) (p := fun i s => W.cells? base (a.add (i * 2)) 2 = some s.1 ∧ s.1[0]? = some (.int .i64 s.2.1) ∧ s.1[1]? = some (.int .i64 s.2.2)) (fun i hi => by
      obtain ⟨cs', h1, h2⟩ := hx i (by omega)
      obtain ⟨z0, h3⟩ := edge_field (i := 0) Try.underlying34 rfl rfl h2
      obtain ⟨z1, h4⟩ := edge_field (i := 1) Try.underlying34 rfl rfl h2
      exact ⟨(cs', z0, z1), h1, h3, h4⟩)
    have hspot : 0 < len → a.spot = none := fun h0 => by
      obtain ⟨h1, _⟩ := hq 0 h0
      obtain ⟨_, _, hcell⟩ := World.cells?_some h1
      have h2 := hcell 0 (by omega)
      rw [List.getElem?_eq_getElem (by have := (World.cells?_some h1).2.1; omega)] at h2
      simpa [Addr.add] using World.cell?_spot h2
    refine ⟨(List.range len).map fun i => (q i).2, some a, cap, by simp, by simpa using hl, hm, fun j hj => ?_⟩
    have hj' : j < len := by simpa using hj
    obtain ⟨h1, h3, h4⟩ := hq j hj'
    obtain ⟨_, hlen, hcell⟩ := World.cells?_some h1
    obtain ⟨b, off, spot⟩ := a
    have hspot' : spot = none := hspot (by omega)
    subst hspot'
    have hcells : ∀ i v, (q j).1[i]? = some v → W.cell? ⟨b, off + j * 2 + i, none⟩ = some v := fun i v hv => by
      have hi : i < 2 := by have := (List.getElem?_eq_some_iff.1 hv).1; omega
      have := hcell i hi
      rw [Deep.add_add, Addr.add_lit, hv, ← Nat.add_assoc] at this
      exact this
    have hb : b < W.heap.size := lt_of_cell (hcells 0 _ h3)
    have e : ((List.range len).map fun i => (q i).2)[j] = (q j).2 := by simp
    refine ⟨b, off, rfl, hb, ?_, ?_⟩
    · rw [e]; exact hcells 0 _ h3
    · rw [e]; exact hcells 1 _ h4
end
end Go.Proofs.Ytelplccbcbegkaa.GrW

namespace Go.Proofs.Ytelplccbcbegkaa.Gr
open Go.Proofs.Ytelplccbcbegkaa.GrW (isV reached)
/-- Whether a vertex is reached, as a truth value. -/
def IsR (n : Nat) (L : List (List Int)) (R : Int → Int → Bool) : Prop := ∀ x y, R x y = true ↔ reached n L x y
theorem isR (n : Nat) (L : List (List Int)) : ∃ R, IsR n L R := ⟨fun x y => @decide (reached n L x y) (Classical.propDecidable _), fun _ _ => @decide_eq_true_iff _ (Classical.propDecidable _)⟩
theorem isV_of {n k : Nat} (h : k < n) : isV n (k : Int) = true := by unfold isV; simp; omega
theorem rB_nat {n : Nat} {L : List (List Int)} {R : Int → Int → Bool} (hR : IsR n L R) {u v : Nat} (hu : u < n) (hv : v < n) : R u v = true ↔ Path L u v := by
  rw [hR]
  unfold reached
  rw [isV_of hu, isV_of hv]
  simp
theorem rB_refl {n : Nat} {L : List (List Int)} {R : Int → Int → Bool} (hR : IsR n L R) {u : Nat} (hu : u < n) : R u u = true := (rB_nat hR hu hu).2 (.refl u)
theorem rB_trans {n : Nat} {L : List (List Int)} {R : Int → Int → Bool} (hR : IsR n L R) {u v w : Nat} (hu : u < n) (hv : v < n) (hw : w < n) (h1 : R u v = true) (h2 : R v w = true) : R u w = true :=
  (rB_nat hR hu hw).2 (((rB_nat hR hu hv).1 h1).trans ((rB_nat hR hv hw).1 h2))
theorem Path.last {L : List (List Int)} {u v : Nat} (h : Path L u v) : u = v ∨ ∃ x, Path L u x ∧ E L x v := by
  induction h with
  | refl => exact .inl rfl
  | @step u x v he hp ih =>
    rcases ih with rfl | ⟨y, h1, h2⟩
    · exact .inr ⟨u, .refl u, he⟩
    · exact .inr ⟨y, .step he h1, h2⟩
/-- What is reached is reached by a first edge, and the rest. -/
theorem first_edge {n : Nat} {L : List (List Int)} {R : Int → Int → Bool} (hR : IsR n L R) (ok : OK n L) {u v : Nat} (hu : u < n) (hv : v < n) : (decide (u = v) || (outs L u).any fun x => R x v) = R u v := by
  rw [Bool.eq_iff_iff, Bool.or_eq_true, decide_eq_true_eq, List.any_eq_true, rB_nat hR hu hv]
  constructor
  · rintro (rfl | ⟨x, hx, hr⟩)
    · exact .refl u
    · obtain ⟨h1, h2⟩ := ok.ins _ x hx
      obtain ⟨k, rfl⟩ : ∃ k : Nat, x = k := ⟨x.toNat, by omega⟩
      exact .step hx ((rB_nat hR (by omega) hv).1 hr)
  · intro h
    cases h with
    | refl => exact .inl rfl
    | @step _ x _ he hp =>
      obtain ⟨h1, h2⟩ := ok.ins _ (x : Int) he
      exact .inr ⟨x, he, (rB_nat hR (by omega) hv).2 hp⟩
/-- And by a last one. -/
theorem last_edge {n : Nat} {L : List (List Int)} {R : Int → Int → Bool} (hR : IsR n L R) (ok : OK n L) {u v : Nat} (hu : u < n) (hv : v < n) : (decide (u = v) || (intos L v).any fun x => R u x) = R u v := by
  rw [Bool.eq_iff_iff, Bool.or_eq_true, decide_eq_true_eq, List.any_eq_true, rB_nat hR hu hv]
  constructor
  · rintro (rfl | ⟨x, hx, hr⟩)
    · exact .refl u
    · obtain ⟨h1, h2⟩ := ok.ins _ x hx
      obtain ⟨k, rfl⟩ : ∃ k : Nat, x = k := ⟨x.toNat, by omega⟩
      have hk : k < n := by omega
      exact ((rB_nat hR hu hk).1 hr).trans (.step ((ok.cons k v hk hv).2 hx) (.refl v))
  · intro h
    rcases h.last with e | ⟨x, h1, h2⟩
    · exact .inl e
    · by_cases hx : x < n
      · exact .inr ⟨x, (ok.cons x v hx hv).1 h2, (rB_nat hR hu hx).2 h1⟩
      · have : outs L x = [] := by
          unfold outs
          simp only [List.getD]
          rw [List.getElem?_eq_none (by have := ok.len; omega)]; rfl
        unfold E at h2
        unfold outs at this
        rw [this] at h2
        simp at h2
end Go.Proofs.Ytelplccbcbegkaa.Gr
namespace Go.Proofs.Ytelplccbcbegkaa.GrW
set_option linter.unusedVariables false
open Go Go.RowKit Go.Proofs Go.Proofs.Ytelplccbcbegkaa Go.Proofs.Ytelplccbcbegkaa.Wd
open Go.Proofs.Ytelplccbcbegkaa.Gr (putL OK ofE ofL IsR outs intos)
/-- A graph that lies, and all below as it was. -/
structure Lg (w wr : World) (g n : Nat) (L : List (List Int)) : Prop where
  at_ : GAt wr w.heap.size (fun k => w.heap.size ≤ k) g n L
  low : Below w.heap.size w wr
theorem Lg.next {w wr w' : World} {g n : Nat} {L : List (List Int)} (h : Lg w wr g n L) (hb : Below wr.heap.size wr w') : Lg w w' g n L := ⟨h.at_.below hb, h.low.trans (hb.mono h.low.size)⟩
theorem outE_nat {n : Nat} {L : List (List Int)} {u : Nat} (h : u < n) : outE n L (u : Int) = outs L u := by unfold outE outs; rw [if_pos (Gr.isV_of h), Int.toNat_natCast]
theorem intoE_nat {n : Nat} {L : List (List Int)} {u : Nat} (h : u < n) : intoE n L (u : Int) = intos L u := by unfold intoE intos; rw [if_pos (Gr.isV_of h), Int.toNat_natCast]
end Go.Proofs.Ytelplccbcbegkaa.GrW

namespace Go.Proofs.Ytelplccbcbegkaa.Gr
set_option linter.unusedVariables false
open Go.Proofs.Ytelplccbcbegkaa.GrW (add rem rk ins del isV reached Rises)

theorem ins_length' {l : List Int} (x : Int) (h : x ∉ l) : (add l x).length = l.length + 1 := by
  unfold add
  rw [if_neg (by simpa using h)]
  exact GrW.ins_length x (GrW.rk_le l x)
/-- Where an edge that ends where it begins, round a path, is. -/
def Cyc (n : Nat) (L : List (List Int)) : Prop := ∃ u v : Nat, u < n ∧ v < n ∧ E L u v ∧ Path L v u
theorem OK.edge_lt {n : Nat} {L : List (List Int)} (ok : OK n L) {u v : Nat} (h : E L u v) : u < n ∧ v < n := by
  have h2 := ok.ins _ (v : Int) h
  refine ⟨Nat.lt_of_not_le fun hu => ?_, by omega⟩
  unfold E at h
  have : L.getD (2 * u) [] = [] := by
    simp only [List.getD]
    rw [List.getElem?_eq_none (by have := ok.len; omega)]; rfl
  rw [this] at h
  simp at h
theorem Path.lt {n : Nat} {L : List (List Int)} (ok : OK n L) {u v : Nat} (h : Path L u v) (hu : u < n) : v < n := by
  induction h with
  | refl => exact hu
  | step he _ ih => exact ih (ok.edge_lt he).2
/-- In sorted vertices each edge goes on. -/
theorem Topo.before {n : Nat} {L : List (List Int)} (ok : OK n L) {out : List Int} (h : Topo n L out) {a : List Int} {v : Nat} {t : List Int} (e : out = a ++ (v : Int) :: t) {u : Nat} (he : E L u v) : (u : Int) ∈ a := by
  obtain ⟨v', hv, -, hf, -⟩ := h.part a (v : Int) t e
  have : v' = v := by omega
  subst this
  obtain ⟨hu, hv2⟩ := ok.edge_lt he
  exact hf.2.2 _ ((ok.cons u v' hu hv2).1 he)
theorem Topo.nodup {n : Nat} {L : List (List Int)} {out : List Int} (h : Topo n L out) : out.Nodup := by
  induction h with
  | nil => exact List.nodup_nil
  | @snoc out v _ hf _ ih =>
    rw [List.nodup_append]
    refine ⟨ih, by simp, fun a ha b hb => ?_⟩
    rw [List.mem_singleton] at hb
    rw [hb]
    exact fun e => hf.2.1 (by rw [← e]; exact ha)
/-- Whoever reaches one that is told is told with it, or ahead. -/
theorem Topo.path {n : Nat} {L : List (List Int)} (ok : OK n L) {out : List Int} (h : Topo n L out) {u v : Nat} (hp : Path L u v) : ∀ a t, out = a ++ (v : Int) :: t → u = v ∨ (u : Int) ∈ a := by
  induction hp with
  | refl => intro a t e; exact .inl rfl
  | @step u x v he hp ih =>
    intro a t e
    rcases ih a t e with rfl | hx
    · exact .inr (h.before ok e he)
    · obtain ⟨a1, a2, rfl⟩ := List.append_of_mem hx
      have e2 : out = a1 ++ (x : Int) :: (a2 ++ (v : Int) :: t) := by rw [e]; simp
      exact .inr (List.mem_append_left _ (h.before ok e2 he))
/-- Where all are told there is no cycle. -/
theorem Topo.acyclic {n : Nat} {L : List (List Int)} (ok : OK n L) {out : List Int} (h : Topo n L out) (hl : out.length = n) : ¬ Cyc n L := by
  rintro ⟨u, v, hu, hv, he, hp⟩
  have hall : ∀ k, k < n → (k : Int) ∈ out := fun k hk => by
    have h0 := h.length
    have : unt n out = 0 := by omega
    unfold unt at this
    rw [List.countP_eq_zero] at this
    have := this k (List.mem_range.2 hk)
    simpa using this
  obtain ⟨a, t, e⟩ := List.append_of_mem (hall v hv)
  have hua := h.before ok e he
  obtain ⟨a1, a2, ea⟩ := List.append_of_mem hua
  have e2 : out = a1 ++ (u : Int) :: (a2 ++ (v : Int) :: t) := by rw [e, ea]; simp
  have hd := h.nodup
  rcases h.path ok hp a1 _ e2 with rfl | hva
  · exact ok.self v hv he
  · rw [e2, List.nodup_append] at hd
    exact hd.2.2 (v : Int) hva (v : Int) (by simp) rfl
/-- Where one is not told, and none is free, there is a cycle. -/
theorem stuck_cyc {n : Nat} {L : List (List Int)} (ok : OK n L) {out : List Int} (hm : ∀ v, ¬ Free n L out v) {v : Nat} (hv : v < n) (hv2 : (v : Int) ∉ out) : Cyc n L := by
  apply Classical.byContradiction
  intro hc
  have hdec : ∀ x y, Decidable (Path L x y) := fun x y => Classical.propDecidable _
  have main : ∀ k v, v < n → (v : Int) ∉ out → (List.range n).countP (fun x => @decide (Path L x v) (hdec x v)) ≤ k → False := by
    intro k
    induction k with
    | zero =>
      intro v hv _ h0
      have := (List.countP_eq_zero.1 (Nat.le_zero.1 h0)) v (List.mem_range.2 hv)
      simp only [decide_eq_true_eq] at this
      exact this (.refl v)
    | succ k ih =>
      intro v hv hv2 hk
      obtain ⟨x, hx, hx2⟩ : ∃ x ∈ intos L v, x ∉ out := by
        apply Classical.byContradiction
        intro hn
        exact hm v ⟨hv, hv2, fun u hu => Classical.byContradiction fun h => hn ⟨u, hu, h⟩⟩
      obtain ⟨h1, h2⟩ := ok.ins _ x hx
      obtain ⟨p, rfl⟩ : ∃ p : Nat, x = p := ⟨x.toNat, by omega⟩
      have hp : p < n := by omega
      have he : E L p v := (ok.cons p v hp hv).2 hx
      refine ih p hp hx2 ?_
      have hle : (List.range n).countP (fun x => @decide (Path L x p) (hdec x p)) + 1 ≤ (List.range n).countP (fun x => @decide (Path L x v) (hdec x v)) := by
        have hless := countP_less (p := fun x => @decide (Path L x v) (hdec x v)) (q := fun x => (@decide (Path L x v) (hdec x v)) && decide (x ≠ v)) (v := v) (by simpa using Path.refl v) (fun x => rfl) hv
        rw [← hless]
        refine Nat.add_le_add_right (List.countP_mono_left fun y hy hd => ?_) 1
        simp only [decide_eq_true_eq, Bool.and_eq_true] at hd ⊢
        refine ⟨hd.trans (.step he (.refl v)), ?_⟩
        rintro rfl
        exact hc ⟨p, y, hp, hv, he, hd⟩
      omega
  exact main _ v hv hv2 (Nat.le_refl _)
/-- Sorted just if there is no cycle. -/
theorem sorted_iff {n : Nat} {L : List (List Int)} (ok : OK n L) {out : List Int} (h : Topo n L out) (hm : ∀ v, ¬ Free n L out v) : out.length = n ↔ ¬ Cyc n L := by
  refine ⟨h.acyclic ok, fun hc => ?_⟩
  apply Classical.byContradiction
  intro hne
  have h0 := h.length
  have hu : 0 < unt n out := by omega
  unfold unt at hu
  rw [List.countP_pos_iff] at hu
  obtain ⟨v, hv, hv2⟩ := hu
  exact hc (stuck_cyc ok hm (List.mem_range.1 hv) (by simpa using hv2))
/-- A graph, and that with all edges turned round. -/
structure Turn (n : Nat) (L H : List (List Int)) : Prop where
  out : ∀ u, u < n → outs H u = intos L u
  into : ∀ u, u < n → intos H u = outs L u
theorem Turn.edge {n : Nat} {L H : List (List Int)} (okL : OK n L) (okH : OK n H) (h : Turn n L H) {u v : Nat} : E L u v → E H v u := fun he => by
  obtain ⟨hu, hv⟩ := okL.edge_lt he
  have h1 : (v : Int) ∈ intos H u := by rw [h.into u hu]; exact he
  exact (okH.cons v u hv hu).2 h1
theorem Turn.path {n : Nat} {L H : List (List Int)} (okL : OK n L) (okH : OK n H) (h : Turn n L H) {u v : Nat} (hp : Path L u v) : Path H v u := by
  induction hp with
  | refl => exact .refl _
  | step he _ ih => exact ih.trans (.step (h.edge okL okH he) (.refl _))
theorem Turn.symm {n : Nat} {L H : List (List Int)} (h : Turn n L H) : Turn n H L := ⟨fun u hu => (h.into u hu).symm, fun u hu => (h.out u hu).symm⟩
theorem Turn.cyc {n : Nat} {L H : List (List Int)} (okL : OK n L) (okH : OK n H) (h : Turn n L H) : Cyc n L → Cyc n H := fun ⟨u, v, hu, hv, he, hp⟩ => ⟨v, u, hv, hu, h.edge okL okH he, h.path okL okH hp⟩
theorem Turn.reached {n : Nat} {L H : List (List Int)} (okL : OK n L) (okH : OK n H) (h : Turn n L H) (x y : Int) : reached n L x y ↔ reached n H y x :=
  ⟨fun ⟨a, b, c⟩ => ⟨b, a, h.path okL okH c⟩, fun ⟨a, b, c⟩ => ⟨b, a, h.symm.path okH okL c⟩⟩
/-- How many edges there are. -/
def cnt (L : List (List Int)) (k : Nat) : Nat := (edgesTo L k).length
theorem cnt_succ (L : List (List Int)) (k : Nat) : cnt L (k + 1) = cnt L k + (outs L k).length := by
  unfold cnt; rw [edgesTo_succ, List.length_append, List.length_map]
theorem cnt_put {n : Nat} {L : List (List Int)} (ok : OK n L) {a b : Nat} (ha : a < n) (hb : b < n) (k : Nat) : cnt (putL L a b) k = cnt L k + (if a < k ∧ (b : Int) ∉ outs L a then 1 else 0) := by
  induction k with
  | zero => simp [cnt, edgesTo]
  | succ k ih =>
    rw [cnt_succ, cnt_succ, ih]
    have e : outs (putL L a b) k = if k = a then add (outs L k) b else outs L k := by
      unfold outs
      rw [put_getD ok ha hb]
      by_cases h : k = a
      · subst h; rw [if_pos rfl, if_pos rfl]
      · rw [if_neg (by omega), if_neg (by omega), if_neg h]
    rw [e]
    by_cases h : k = a
    · subst h
      rw [if_pos rfl]
      by_cases hm : (b : Int) ∈ outs L k
      · have : add (outs L k) b = outs L k := by unfold add; rw [if_pos (by simpa using hm)]
        rw [this]; simp [hm]
      · rw [ins_length' _ hm]; simp [hm]; omega
    · rw [if_neg h]
      have : (a < k + 1) = (a < k) := propext ⟨fun h => by omega, fun h => by omega⟩
      simp only [this]
      omega
structure TurnC (n : Nat) (L H : List (List Int)) : Prop extends Turn n L H where
  okL : OK n L
  okH : OK n H
  many : cnt L n = cnt H n
theorem TurnC.ofE {n : Nat} {L H : List (List Int)} (hn : 0 < n) (h : TurnC n L H) (x : Int × Int) : TurnC n (ofE n L x) (ofE n H (x.2, x.1)) := by
  unfold Gr.ofE
  by_cases he : x.1 % (n : Int) = x.2 % (n : Int)
  · rw [if_pos he, if_pos he.symm]; exact h
  · rw [if_neg he, if_neg (fun e => he e.symm)]
    have h1 := Int.emod_nonneg x.1 (b := (n : Int)) (by omega)
    have h2 := Int.emod_lt_of_pos x.1 (b := (n : Int)) (by omega)
    have h3 := Int.emod_nonneg x.2 (b := (n : Int)) (by omega)
    have h4 := Int.emod_lt_of_pos x.2 (b := (n : Int)) (by omega)
    obtain ⟨a, ha⟩ : ∃ a : Nat, x.1 % (n : Int) = a := ⟨(x.1 % (n : Int)).toNat, by omega⟩
    obtain ⟨b, hb⟩ : ∃ b : Nat, x.2 % (n : Int) = b := ⟨(x.2 % (n : Int)).toNat, by omega⟩
    simp only [ha, hb, Int.toNat_natCast]
    have han : a < n := by omega
    have hbn : b < n := by omega
    have hne : a ≠ b := by omega
    refine ⟨⟨fun u hu => ?_, fun u hu => ?_⟩, h.okL.put han hbn hne, h.okH.put hbn han (Ne.symm hne), ?_⟩
    · have e1 := h.out u hu
      unfold outs intos at *
      rw [put_getD h.okH hbn han, put_getD h.okL han hbn, if_neg (by omega : ¬ 2 * u + 1 = 2 * a)]
      by_cases hub : u = b
      · rw [if_pos (by omega), if_pos (by omega), e1]
      · rw [if_neg (by omega), if_neg (by omega), if_neg (by omega), e1]
    · have e1 := h.into u hu
      unfold outs intos at *
      rw [put_getD h.okH hbn han, put_getD h.okL han hbn, if_neg (by omega : ¬ 2 * u + 1 = 2 * b)]
      by_cases hua : u = a
      · rw [if_pos (by omega), if_pos (by omega), e1]
      · rw [if_neg (by omega), if_neg (by omega), if_neg (by omega), e1]
    · rw [cnt_put h.okL han hbn, cnt_put h.okH hbn han, h.many]
      have e : ((b : Int) ∈ outs L a) = ((a : Int) ∈ outs H b) := propext (by rw [h.out b hbn, h.okL.cons a b han hbn])
      simp only [han, hbn, true_and, e]
theorem TurnC.start (n : Nat) : TurnC n (List.replicate (2 * n) []) (List.replicate (2 * n) []) := by
  have e : ∀ i, (List.replicate (2 * n) ([] : List Int)).getD i [] = [] := fun i => by
    simp only [List.getD]
    by_cases h : i < 2 * n
    · simp [h]
    · rw [List.getElem?_eq_none (by simp; omega)]; rfl
  exact ⟨⟨fun u _ => by unfold outs intos; rw [e, e], fun u _ => by unfold outs intos; rw [e, e]⟩, OK.empty n, OK.empty n, rfl⟩
theorem TurnC.foldl {n : Nat} (hn : 0 < n) : ∀ (l : List (Int × Int)) {L H : List (List Int)}, TurnC n L H → TurnC n (l.foldl (Gr.ofE n) L) ((l.map fun x => (x.2, x.1)).foldl (Gr.ofE n) H)
  | [], _, _, h => h
  | x :: l, _, _, h => TurnC.foldl hn l (h.ofE hn x)
theorem TurnC.ofL {n : Nat} (hn : 0 < n) (l : List (Int × Int)) : TurnC n (ofL n (l.take 80)) (ofL n ((l.map fun x => (x.2, x.1)).take 80)) := by
  rw [← List.map_take]
  exact TurnC.foldl hn _ (TurnC.start n)
end Go.Proofs.Ytelplccbcbegkaa.Gr

namespace Go.Proofs.Ytelplccbcbegkaa.GrW
set_option linter.unusedVariables false
open Go Go.RowKit Go.Proofs Go.Proofs.Ytelplccbcbegkaa Go.Proofs.Ytelplccbcbegkaa.Wd
open Go.Proofs.Ytelplccbcbegkaa.Gr (OK ofL IsR outs intos Cyc TurnC ev edgesTo)

theorem sort_b {w : World} {base g n : Nat} {F : Nat → Prop} {L : List (List Int)} (h : GAt w base F g n L) (ok : OK n L) (hn : n ≤ 30000) (b : Bool) (hb : b = true ↔ ¬ Cyc n L) : Calls Try.prog 40 #[.pointer (some ⟨g, 0, none⟩)] w fun e w' => ∃ A m c, e = .returned (.tuple #[.slice A m c, .bool b]) ∧ Below w.heap.size w w' := by
  refine (sort_any w base g n F L h (ok.rises hn) ok.inside ok.cons hn).mono ?_
  rintro e w' ⟨out, h1, h2, h3, h4⟩
  have hs := Gr.sorted_iff ok h1 h2
  rcases h4 with ⟨h4, v', rfl, h5⟩ | ⟨h4, rfl⟩
  · obtain ⟨A, c, rfl⟩ := own_form h5
    have : b = true := hb.2 (hs.1 h4)
    subst this
    exact ⟨_, _, _, rfl, h3⟩
  · have : b = false := by
      rw [← Bool.not_eq_true, hb, ← hs]
      omega
    subst this
    exact ⟨_, _, _, rfl, h3⟩
theorem ints_own {w : World} {base base' : Nat} {A A' : Option Addr} {n c n' c' : Nat} {l m : List Int} (h : w.ownsRow base 3 1 (.slice A n c) n (iv l)) (h' : w.ownsRow base' 3 1 (.slice A' n' c') n' (iv m)) :
    Calls Try.prog 20 #[.slice A n c, .slice A' n' c'] w fun e w' => e = .returned (.bool (decide (l = m))) ∧ Below w.heap.size w w' := by
  obtain ⟨h1, h2, h3, h4⟩ := Nums.of_own h
  obtain ⟨k1, k2, k3, k4⟩ := Nums.of_own h'
  exact ints_any A A' c c' l m n n' h2 k2 h3 h4 w h1 k1
def swp (l : List (Int × Int)) : List (Int × Int) := l.map fun x => (x.2, x.1)
end Go.Proofs.Ytelplccbcbegkaa.GrW

namespace Go.Proofs.Ytelplccbcbegkaa.Gr
set_option linter.unusedVariables false
open Go.Proofs.Ytelplccbcbegkaa.GrW (isV reached hasE)

theorem mem_edgesTo {L : List (List Int)} {n : Nat} {x : Int × Int} : x ∈ edgesTo L n ↔ ∃ u, u < n ∧ x.1 = (u : Int) ∧ x.2 ∈ outs L u := by
  unfold edgesTo
  rw [List.mem_flatMap]
  constructor
  · rintro ⟨u, hu, h⟩
    rw [List.mem_map] at h
    obtain ⟨y, hy, rfl⟩ := h
    exact ⟨u, List.mem_range.1 hu, rfl, hy⟩
  · rintro ⟨u, hu, h1, h2⟩
    refine ⟨u, List.mem_range.2 hu, ?_⟩
    rw [List.mem_map]
    exact ⟨x.2, h2, by rw [← h1]⟩
/-- Some edge's end reaches its begin just if there is a cycle. -/
theorem any_cyc {n : Nat} {L : List (List Int)} (ok : OK n L) {R : Int → Int → Bool} (hR : IsR n L R) : ((edgesTo L n).any fun x => R x.2 x.1) = true ↔ Cyc n L := by
  rw [List.any_eq_true]
  constructor
  · rintro ⟨x, hx, h⟩
    obtain ⟨u, hu, e1, h2⟩ := mem_edgesTo.1 hx
    obtain ⟨h3, h4⟩ := ok.ins _ x.2 h2
    obtain ⟨v, hv⟩ : ∃ v : Nat, x.2 = v := ⟨x.2.toNat, by omega⟩
    rw [e1, hv] at h
    rw [hv] at h2
    exact ⟨u, v, hu, by omega, h2, (rB_nat hR (by omega) hu).1 h⟩
  · rintro ⟨u, v, hu, hv, he, hp⟩
    exact ⟨(u, v), mem_edgesTo.2 ⟨u, hu, rfl, he⟩, (rB_nat hR hv hu).2 hp⟩
/-- Places of those that were told: one more than where they stand. -/
structure AtR (n : Nat) (out : List Int) (k : Nat) (at_ : List Int) : Prop where
  len : at_.length = n
  told : ∀ (v i : Nat) (hi : i < out.length), v < n → i < k → out[i] = (v : Int) → at_.getD v 0 = (i : Int) + 1
  rest : ∀ v : Nat, v < n → (v : Int) ∉ out.take k → at_.getD v 0 = 0
theorem AtR.zero {n : Nat} {out l : List Int} (hl : l.length = n) (h0 : ∀ v, v < n → l.getD v 0 = 0) : AtR n out 0 l := ⟨hl, fun v i _ _ hi => by omega, fun v hv _ => h0 v hv⟩
theorem nodup_take {out : List Int} (h : out.Nodup) {k : Nat} (hk : k < out.length) : out[k] ∉ out.take k := fun hm => by
  obtain ⟨i, hi, he⟩ := List.getElem_of_mem hm
  rw [List.getElem_take] at he
  have hi' : i < k := by rw [List.length_take] at hi; omega
  exact (List.pairwise_iff_getElem.1 h i k (by omega) hk hi') he
theorem AtR.now {n : Nat} {out at_ : List Int} (hd : out.Nodup) {k : Nat} (h : AtR n out k at_) (hk : k < out.length) {v : Nat} (hv : out[k] = (v : Int)) (hvn : v < n) : at_.getD v 0 = 0 :=
  h.rest v hvn (by rw [← hv]; exact nodup_take hd hk)
theorem AtR.next {n : Nat} {out at_ : List Int} (hd : out.Nodup) {k : Nat} (h : AtR n out k at_) (hk : k < out.length) {v : Nat} (hv : out[k] = (v : Int)) (hvn : v < n) : AtR n out (k + 1) (at_.set v ((k : Int) + 1)) := by
  have hlen := h.len
  have hset : ∀ u : Nat, (at_.set v ((k : Int) + 1)).getD u 0 = if u = v then (k : Int) + 1 else at_.getD u 0 := fun u => by
    simp only [List.getD]
    by_cases e : u = v
    · subst e; simp [hlen, hvn]
    · rw [List.getElem?_set_ne (fun e2 => e e2.symm), if_neg e]
  refine ⟨by rw [List.length_set]; exact hlen, fun u i hi hu hik he => ?_, fun u hu hn => ?_⟩
  · rw [hset]
    by_cases hik2 : i = k
    · subst hik2
      rw [if_pos (by rw [hv] at he; omega)]
    · have hne : u ≠ v := fun e => by
        subst e
        exact (List.pairwise_iff_getElem.1 hd i k hi hk (by omega)) (by rw [he, hv])
      rw [if_neg hne]
      exact h.told u i hi hu (by omega) he
  · rw [List.take_succ_eq_append_getElem hk, List.mem_append, List.mem_singleton, hv] at hn
    rw [hset, if_neg (fun e => hn (.inr (by rw [e])))]
    exact h.rest u hu (fun e => hn (.inl e))
/-- In sorted vertices an edge's begin has a lower place. -/
theorem places {n : Nat} {L : List (List Int)} (ok : OK n L) {out at_ : List Int} (h : Topo n L out) (hl : out.length = n) (ha : AtR n out out.length at_) {x : Int × Int} (hx : x ∈ edgesTo L n) : ∃ u v : Nat, x = ((u : Int), (v : Int)) ∧ u < n ∧ v < n ∧ at_.getD u 0 < at_.getD v 0 := by
  obtain ⟨u, hu, e1, h2⟩ := mem_edgesTo.1 hx
  obtain ⟨h3, h4⟩ := ok.ins _ x.2 h2
  obtain ⟨v, hv⟩ : ∃ v : Nat, x.2 = v := ⟨x.2.toNat, by omega⟩
  have hvn : v < n := by omega
  rw [hv] at h2
  refine ⟨u, v, by rw [← e1, ← hv], hu, hvn, ?_⟩
  have hall : ∀ k, k < n → (k : Int) ∈ out := fun k hk => by
    have h0 := h.length
    have : unt n out = 0 := by omega
    unfold unt at this
    rw [List.countP_eq_zero] at this
    simpa using this k (List.mem_range.2 hk)
  obtain ⟨j, hj, ej⟩ := List.getElem_of_mem (hall v hvn)
  have e : out = out.take j ++ (v : Int) :: out.drop (j + 1) := by rw [← ej, ← List.drop_eq_getElem_cons hj, List.take_append_drop]
  have hb := h.before ok e h2
  obtain ⟨i, hi, ei⟩ := List.getElem_of_mem hb
  rw [List.length_take] at hi
  rw [List.getElem_take] at ei
  rw [ha.told u i (by omega) hu (by omega) ei, ha.told v j hj hvn hj ej]
  omega
/-- None could have been told earlier instead of a greater one. -/
theorem lesser {n : Nat} {L : List (List Int)} (ok : OK n L) {out : List Int} (h : Topo n L out) {i : Nat} (hi : i + 1 < out.length) (hg : out[i + 1] < out[i]) : ∃ u v : Nat, out[i] = (u : Int) ∧ out[i + 1] = (v : Int) ∧ u < n ∧ v < n ∧ E L u v := by
  have hi0 : i < out.length := by omega
  have e1 : out = out.take i ++ out[i] :: out.drop (i + 1) := by rw [← List.drop_eq_getElem_cons hi0, List.take_append_drop]
  have e2 : out = out.take (i + 1) ++ out[i + 1] :: out.drop (i + 2) := by rw [← List.drop_eq_getElem_cons hi, List.take_append_drop]
  obtain ⟨u, hu, -, hfu, hmu⟩ := h.part _ _ _ e1
  obtain ⟨v, hv, -, hfv, -⟩ := h.part _ _ _ e2
  refine ⟨u, v, hu, hv, hfu.1, hfv.1, ?_⟩
  have ht : out.take (i + 1) = out.take i ++ [out[i]] := List.take_succ_eq_append_getElem hi0
  apply Classical.byContradiction
  intro hne
  have hnot : ¬ (u : Int) ∈ intos L v := fun e => hne ((ok.cons u v hfu.1 hfv.1).2 e)
  have hf : Free n L (out.take i) v := ⟨hfv.1, fun e => hfv.2.1 (by rw [ht]; exact List.mem_append_left _ e), fun y hy => by
    have := hfv.2.2 y hy
    rw [ht, List.mem_append, List.mem_singleton, hu] at this
    exact this.resolve_right (fun e => hnot (by rw [← e]; exact hy))⟩
  have := hmu v hf
  omega
theorem hasE_edge {n : Nat} {L : List (List Int)} {u v : Nat} (hu : u < n) (he : E L u v) : hasE n L u v = true := by
  unfold hasE
  rw [isV_of hu, Int.toNat_natCast, Bool.true_and, List.contains_iff_mem]
  exact he
end Go.Proofs.Ytelplccbcbegkaa.Gr

namespace Go.Proofs.Ytelplccbcbegkaa.Gr
set_option linter.unusedVariables false
open Go.Proofs.Ytelplccbcbegkaa.GrW (isV reached hasE canPut)

/-- A graph that is another one, and some edges more. -/
structure Und (n : Nat) (L0 L : List (List Int)) (fl : List (Int × Int)) : Prop where
  ok : OK n L
  mem : ∀ (u : Nat) (x : Int), u < n → (x ∈ outs L u ↔ x ∈ outs L0 u ∨ ((u : Int), x) ∈ fl)
  nodup : fl.Nodup
  new : ∀ y ∈ fl, ∃ a b : Nat, y = ((a : Int), (b : Int)) ∧ a < n ∧ b < n ∧ a ≠ b ∧ (b : Int) ∉ outs L0 a
theorem Und.start {n : Nat} {L0 : List (List Int)} (ok : OK n L0) : Und n L0 L0 [] := ⟨ok, fun u x _ => by simp, List.nodup_nil, fun y hy => by simp at hy⟩
theorem hasE_nat {n : Nat} {L : List (List Int)} {a b : Nat} (ha : a < n) : hasE n L a b = true ↔ (b : Int) ∈ outs L a := by
  unfold hasE outs
  rw [isV_of ha, Int.toNat_natCast, Bool.true_and, List.contains_iff_mem]
theorem Und.put {n : Nat} {L0 L : List (List Int)} {fl : List (Int × Int)} (h : Und n L0 L fl) {a b : Nat} (ha : a < n) (hb : b < n) (hne : a ≠ b) (hh : hasE n L a b = false) : Und n L0 (putL L a b) (fl ++ [((a : Int), (b : Int))]) := by
  have hnot : (b : Int) ∉ outs L a := fun e => by rw [(hasE_nat ha).2 e] at hh; cases hh
  have hno := hnot
  rw [h.mem a b ha] at hno
  refine ⟨h.ok.put ha hb hne, fun u x hu => ?_, ?_, fun y hy => ?_⟩
  · rw [put_out h.ok ha hb, h.mem u x hu, List.mem_append, List.mem_singleton, Prod.mk.injEq]
    constructor
    · rintro ((h1 | h1) | ⟨h1, h2⟩)
      · exact .inl h1
      · exact .inr (.inl h1)
      · exact .inr (.inr ⟨by rw [h1], h2⟩)
    · rintro (h1 | h1 | ⟨h1, h2⟩)
      · exact .inl (.inl h1)
      · exact .inl (.inr h1)
      · exact .inr ⟨by omega, h2⟩
  · rw [List.nodup_append]
    refine ⟨h.nodup, by simp, fun p hp q hq e => ?_⟩
    rw [List.mem_singleton] at hq
    exact hno (.inr (by rw [← hq, ← e]; exact hp))
  · rw [List.mem_append, List.mem_singleton] at hy
    rcases hy with hy | hy
    · exact h.new y hy
    · exact ⟨a, b, hy, ha, hb, hne, fun e => hno (.inl e)⟩
theorem put_same {n : Nat} {L : List (List Int)} (ok : OK n L) {a b : Nat} (ha : a < n) (hb : b < n) (hne : a ≠ b) (hh : hasE n L a b = true) : putL L a b = L := by
  refine (ok.put ha hb hne).ext ok fun u hu x => ?_
  rw [put_out ok ha hb]
  constructor
  · rintro (h | ⟨rfl, rfl⟩)
    · exact h
    · exact (hasE_nat ha).1 hh
  · exact .inl
theorem put_has {n : Nat} {L : List (List Int)} (ok : OK n L) {a b : Nat} (ha : a < n) (hb : b < n) : hasE n (putL L a b) a b = true := (hasE_nat ha).2 ((put_out ok ha hb a _).2 (.inr ⟨rfl, rfl⟩))
theorem Und.cut {n : Nat} {L0 L : List (List Int)} {fl : List (Int × Int)} {a b : Nat} (ha : a < n) (hb : b < n) (h : Und n L0 L (((a : Int), (b : Int)) :: fl)) : hasE n L a b = true ∧ Und n L0 (cutL L a b) fl ∧ hasE n (cutL L a b) a b = false := by
  have hd := List.nodup_cons.1 h.nodup
  refine ⟨(hasE_nat ha).2 ((h.mem a b ha).2 (.inr (List.mem_cons_self ..))), ⟨h.ok.cut ha hb, fun u x hu => ?_, hd.2, fun y hy => h.new y (List.mem_cons_of_mem _ hy)⟩, ?_⟩
  · rw [cut_out h.ok ha hb, h.mem u x hu, List.mem_cons, Prod.mk.injEq]
    obtain ⟨a', b', e, -, -, -, hn⟩ := h.new _ (List.mem_cons_self ..)
    rw [Prod.mk.injEq] at e
    constructor
    · rintro ⟨h1 | ⟨h1, h2⟩ | h1, h3⟩
      · exact .inl h1
      · exact absurd ⟨by omega, h2⟩ h3
      · exact .inr h1
    · rintro (h1 | h1)
      · refine ⟨.inl h1, fun ⟨e1, e2⟩ => hn ?_⟩
        have : a' = a := by omega
        have : (b' : Int) = b := by omega
        subst_vars
        rw [this]; exact h1
      · exact ⟨.inr (.inr h1), fun ⟨e1, e2⟩ => hd.1 (by subst e1; subst e2; exact h1)⟩
  · rw [← Bool.not_eq_true, hasE_nat ha, cut_out h.ok ha hb]
    exact fun e => e.2 ⟨rfl, rfl⟩
theorem Und.done {n : Nat} {L0 L : List (List Int)} (ok : OK n L0) (h : Und n L0 L []) : L = L0 := h.ok.ext ok fun u hu x => by rw [h.mem u x hu]; simp
end Go.Proofs.Ytelplccbcbegkaa.Gr

namespace Go.Proofs.Ytelplccbcbegkaa.GrW
set_option linter.unusedVariables false
open Go Go.RowKit Go.Proofs Go.Proofs.Ytelplccbcbegkaa Go.Proofs.Ytelplccbcbegkaa.Wd
open Go.Proofs.Ytelplccbcbegkaa.Gr (OK ofL IsR outs intos ev edgesTo putL cutL)

theorem GAt.exist {w : World} {base g n : Nat} {F : Nat → Prop} {L : List (List Int)} (h : GAt w base F g n L) : GAt w base (fun k => F k ∧ k < w.heap.size) g n L := by
  obtain ⟨r, c, cur, h1, h2, h3, h4, h5, h6, h7, f1, f2, f3⟩ := h
  refine ⟨r, c, cur, h1, h2, h3, h4, h5, h6, h7, ⟨f1, h1.lt⟩, ⟨f2, h3.blk.lt⟩, fun i v b hi hv hb => ⟨f3 i v b hi hv hb, ?_⟩⟩
  obtain ⟨v2, e1, e2⟩ := h3.row i hi
  rw [hv] at e1
  cases e1
  exact (e2.owns hb).2
/-- The blocks that may be another: the graph's, and new ones. -/
def Gs (B0 B1 B3 : Nat) (k : Nat) : Prop := (B0 ≤ k ∧ k < B1) ∨ B3 ≤ k
/-- The graph, and the row of the edges that are new. -/
structure UG (B0 B1 B3 : Nat) (F : Nat → Prop) (w3 wr : World) (g n : Nat) (L : List (List Int)) (fv : Value) (fl : List (Int × Int)) : Prop where
  gr : GAt wr B0 F g n L
  sub : ∀ j, F j → Gs B0 B1 B3 j
  own : wr.ownsRow B3 34 2 fv fl.length (ev fl)
  sep : ∀ q, fv.ownBlock = some q → ¬ F q
  fr : Fr (Gs B0 B1 B3) w3 wr
theorem UG.size {B0 B1 B3 : Nat} {F : Nat → Prop} {w3 wr : World} {g n : Nat} {L : List (List Int)} {fv : Value} {fl : List (Int × Int)} (h : UG B0 B1 B3 F w3 wr g n L fv fl) : w3.heap.size ≤ wr.heap.size := h.fr.size
theorem UG.below {B0 B1 B3 : Nat} {F : Nat → Prop} {w3 wr w' : World} {g n : Nat} {L : List (List Int)} {fv : Value} {fl : List (Int × Int)} (h : UG B0 B1 B3 F w3 wr g n L fv fl) (hb : Below wr.heap.size wr w') : UG B0 B1 B3 F w3 w' g n L fv fl where
  gr := h.gr.below hb
  sub := h.sub
  own := own_belowW h.own hb
  sep := h.sep
  fr := h.fr.trans (Fr.of_below (F := fun _ => False) hb) (fun _ _ e => e.elim)
theorem UG.exist {B0 B1 B3 : Nat} {F : Nat → Prop} {w3 wr : World} {g n : Nat} {L : List (List Int)} {fv : Value} {fl : List (Int × Int)} (h : UG B0 B1 B3 F w3 wr g n L fv fl) : UG B0 B1 B3 (fun k => F k ∧ k < wr.heap.size) w3 wr g n L fv fl where
  gr := h.gr.exist
  sub := fun j hj => h.sub j hj.1
  own := h.own
  sep := fun q hq hF => h.sep q hq hF.1
  fr := h.fr
theorem UG.upd {B0 B1 B3 : Nat} {F : Nat → Prop} {w3 wr w' : World} {g n : Nat} {L L' : List (List Int)} {fv : Value} {fl : List (Int × Int)} (h : UG B0 B1 B3 F w3 wr g n L fv fl) (h3 : B3 ≤ w3.heap.size) (hu : Upd B0 F g n L' wr w') : ∃ F', UG B0 B1 B3 F' w3 w' g n L' fv fl := by
  obtain ⟨F', h1, h2, h4⟩ := hu
  have hs := h.size
  refine ⟨F', h1, fun j hj => (h4 j hj).elim (h.sub j) (fun e => .inr (by omega)), own_keep h.own (fun q hq => ?_), fun q hq hF => ?_, h.fr.trans h2 (fun j _ hj => h.sub j hj)⟩
  · obtain ⟨_, cs, hb⟩ := own_row h.own hq
    exact h2.block q hb.lt (h.sep q hq)
  · obtain ⟨_, cs, hb⟩ := own_row h.own hq
    rcases h4 q hF with e | e
    · exact h.sep q hq e
    · have := hb.lt; omega
theorem UG.app {B0 B1 B3 : Nat} {F : Nat → Prop} {w3 wr w' : World} {g n : Nat} {L : List (List Int)} {fv fv' : Value} {fl : List (Int × Int)} {x : Int × Int} (h : UG B0 B1 B3 F w3 wr g n L fv fl) (h3 : B3 ≤ w3.heap.size)
    (ho : w'.ownsRow B3 34 2 fv' (fl.length + 1) (ev fl ++ ev [x])) (hg : wr.grownBy w' fv.ownBlock) (hv : ∀ q, fv'.ownBlock = some q → fv.ownBlock = some q ∨ q = wr.heap.size) : UG B0 B1 B3 (fun k => F k ∧ k < wr.heap.size) w3 w' g n L fv' (fl ++ [x]) where
  gr := h.gr.exist.fr (Fr.of_grown (F := fun k => fv.ownBlock = some k) hg (fun q hq => hq)) (fun k hk e => h.sep k e hk.1)
  sub := fun j hj => h.sub j hj.1
  own := by rw [List.length_append, Gr.ev_append]; exact ho
  sep := fun q hq hF => by
    rcases hv q hq with e | e
    · exact h.sep q e hF.1
    · have := hF.2; omega
  fr := h.fr.trans (Fr.of_grown (F := fun k => fv.ownBlock = some k) hg (fun q hq => hq)) (fun j _ hj => .inr (own_row h.own hj).1)
/-- All that lay ahead of the graph's own blocks is as it was. -/
theorem UG.low {B0 B1 B3 : Nat} {F : Nat → Prop} {w w3 wr : World} {g n : Nat} {L : List (List Int)} {fv : Value} {fl : List (Int × Int)} (h : UG B0 B1 B3 F w3 wr g n L fv fl) (hB : Below B0 w w3) (h0 : B0 ≤ w.heap.size) (h03 : B0 ≤ B3) : Below B0 w wr :=
  hB.trans (h.fr.low (fun k hk => by rcases hk with e | e <;> omega) (Nat.le_trans h0 hB.size))
/-- What lies between is as it was. -/
theorem UG.mid {B0 B1 B3 : Nat} {F : Nat → Prop} {w3 wr : World} {g n : Nat} {L : List (List Int)} {fv : Value} {fl : List (Int × Int)} (h : UG B0 B1 B3 F w3 wr g n L fv fl) {k : Nat} (h1 : B1 ≤ k) (h2 : k < B3) (h3 : B3 ≤ w3.heap.size) : wr.heap[k]? = w3.heap[k]? :=
  h.fr.block k (by omega) (fun e => by unfold Gs at e; omega)
/-- Put and Has, at numbers among the vertices. -/
theorem hasE_range {n : Nat} {x : Int} (hn : 0 < n) : ∃ a : Nat, x % (n : Int) = (a : Int) ∧ a < n := by
  have h1 := Int.emod_nonneg x (b := (n : Int)) (by omega)
  have h2 := Int.emod_lt_of_pos x (b := (n : Int)) (by omega)
  exact ⟨(x % (n : Int)).toNat, by omega, by omega⟩
theorem put_fresh {w : World} {base g n : Nat} {F : Nat → Prop} {L : List (List Int)} (h : GAt w base F g n L) (ok : OK n L) (hn : n ≤ 30000) (hbase : base ≤ w.heap.size) {a b : Nat} (ha : a < n) (hb : b < n) (hne : a ≠ b) : Calls Try.prog 33 #[.pointer (some ⟨g, 0, none⟩), .int .i64 a, .int .i64 b] w fun e w' => e = .returned (.tuple #[.bool (!hasE n L a b), .int .i64 0]) ∧ Upd base F g n (putL L a b) w w' := by
  refine (put_all w base g n F L h (ok.rises hn) hbase a b).mono ?_
  intro e w' hP
  unfold PutOut at hP
  rw [if_pos (by unfold canPut; rw [Gr.isV_of ha, Gr.isV_of hb]; simp; omega)] at hP
  exact hP
theorem put_equal {w : World} {base g n : Nat} {F : Nat → Prop} {L : List (List Int)} (h : GAt w base F g n L) (ok : OK n L) (hn : n ≤ 30000) (hbase : base ≤ w.heap.size) (a : Nat) : Calls Try.prog 33 #[.pointer (some ⟨g, 0, none⟩), .int .i64 a, .int .i64 a] w fun e w' => e = .returned (.tuple #[.bool false, .int .i64 2]) ∧ w' = w := by
  refine (put_all w base g n F L h (ok.rises hn) hbase a a).mono ?_
  intro e w' hP
  unfold PutOut at hP
  rw [if_neg (by unfold canPut; simp)] at hP
  exact hP
theorem has_c {w : World} {base g n : Nat} {F : Nat → Prop} {L : List (List Int)} (h : GAt w base F g n L) (ok : OK n L) (hn : n ≤ 30000) (u v : Int) (b : Bool) (hb : hasE n L u v = b) : Calls Try.prog 36 #[.pointer (some ⟨g, 0, none⟩), .int .i64 u, .int .i64 v] w fun e w' => e = .returned (.bool b) ∧ Below w.heap.size w w' := by
  refine (has_any w base g n F L h (ok.rises hn) u v).mono ?_
  rintro e w' ⟨rfl, q, rfl⟩
  rw [hb]
  exact ⟨rfl, bdrewN (Below.refl _ _) q⟩
/-- A row of edges that lies between. -/
theorem same_own {w : World} {base base' : Nat} {A A' : Option Addr} {n c n' c' : Nat} {l m : List (Int × Int)} (h : w.ownsRow base 34 2 (.slice A n c) n (ev l)) (h' : w.ownsRow base' 34 2 (.slice A' n' c') n' (ev m)) :
    Calls Try.prog 21 #[.slice A n c, .slice A' n' c'] w fun e w' => e = .returned (.bool (decide (l = m))) ∧ Below w.heap.size w w' := by
  obtain ⟨h1, h2, h3, h4⟩ := EdgesAt.of_own h
  obtain ⟨k1, k2, k3, k4⟩ := EdgesAt.of_own h'
  exact sameEdges_any A A' c c' l m n n' h2 k2 h3 h4 w h1 k1
end Go.Proofs.Ytelplccbcbegkaa.GrW

namespace Go.Proofs.Ytelplccbcbegkaa.GrW
set_option linter.unusedVariables false
open Go Go.RowKit Go.Proofs Go.Proofs.Ytelplccbcbegkaa Go.Proofs.Ytelplccbcbegkaa.Wd

def nils (k : Nat) : List Value := List.replicate k (.slice none 0 0)
theorem zeros_nils (m : Nat) : (Builtin.zeroCells #[Value.slice none 0 0, .slice none 0 0] m).toList = nils (m * 2) := by
  apply List.ext_getElem?
  intro j
  unfold Builtin.zeroCells nils
  simp [List.getElem?_map, List.getElem?_replicate]
  by_cases h : j < m * 2
  · have : j % 2 = 0 ∨ j % 2 = 1 := by omega
    rcases this with e | e <;> simp [h, e]
  · simp [h]
theorem nils_at {k i : Nat} (h : i < k) : (nils k)[i]? = some (.slice none 0 0) := by unfold nils; simp [h]
theorem nils_one (k : Nat) : ∀ u ∈ nils k, u.oneCell' = true := fun u hu => by
  have := List.eq_of_mem_replicate hu
  subst this; rfl
/-- What vertices of the same rows, and some more without, are: where they lay, or anew. -/
structure More (w w' : World) (r r' n m c' : Nat) (cur cur' : Array Value) : Prop where
  blk : Blk w' r' 96 cur'
  size : cur'.size = c' * 2
  cap : n + m ≤ c'
  max : c' ≤ maxLen
  olds : ∀ i, i < 2 * n → cur'[i]? = cur[i]?
  news : ∀ i, 2 * n ≤ i → i < 2 * (n + m) → cur'[i]? = some (.slice none 0 0)
  grown : w.grownBy w' (some r)
  at_ : r' = r ∨ w.heap.size ≤ r'
theorem verts_more {w : World} {r n c : Nat} {cur : Array Value} (hb : Blk w r 96 cur) (hs : cur.size = c * 2) (hn : n ≤ c) (hc : c ≤ maxLen) (h1 : ∀ i, i < 2 * n → ∃ u, cur[i]? = some u ∧ u.oneCell' = true) (m : Nat) (hm : n + m ≤ 30000) (ty : TypeId) :
    ∃ r' c' cur' w', (Builtin.append_ #[91, 3] ty #[.slice (some ⟨r, 0, none⟩) n c, .int .i64 (m : Nat)]).run Try.prog w = .ok (.slice (some ⟨r', 0, none⟩) (n + m) c') w' ∧ More w w' r r' n m c' cur cur' := by
  obtain ⟨i0, hi0, hz0, hz1, hz2⟩ := info_parts infoVertex
  have hz : (Value.agg #[.slice none 0 0, .slice none 0 0]).cells = #[.slice none 0 0, .slice none 0 0] := rfl
  have hw : IntKind.i64.wrap (m : Int) = m := by rw [IntKind.wrap_i64]; omega
  have hneg : ¬ ((m : Int) < 0) := by omega
  by_cases hm0 : m = 0
  · subst hm0
    have hw0 : IntKind.i64.wrap 0 = 0 := by decide
    refine ⟨r, c, cur, w, ?_, ⟨hb, hs, by omega, hc, fun _ _ => rfl, fun i h1 h2 => by omega, World.grownBy.refl w _, .inl rfl⟩⟩
    simp [Builtin.append_, run_underlying Try.underlying91, run_underlying Try.underlying3, sizeOf, typeInfo, zeroValue, hi0, hz0, hz2, asInt, asIntOf, hn, storeCells, hw0]
  have hfits : ¬ (281474976710656 < (m : Int) * 48) := by omega
  have hol : (cur.toList.take (2 * n)).length = 2 * n := by simp; omega
  by_cases hroom : n + m ≤ c
  · have hzc := zeros_nils m
    obtain ⟨cur', k1, k2, k3⟩ := Blk.setCells (nils (m * 2)) (n * 2) hb (by unfold nils; simp; omega)
    have hst := run_storeCells_cells (P := Try.prog) r (n * 2) (nils (m * 2)) 0 w (fun j hj => by
      unfold nils at hj
      simp at hj
      rw [hb.cell, Array.getElem?_eq_getElem (by omega)]; rfl) (fun j hj => hb.frozen _) (nils_one _)
    have hlen : (nils (m * 2)).length = m * 2 := by unfold nils; simp
    have hat : ∀ i, cur'[i]? = (cur.toList.take (n * 2) ++ nils (m * 2) ++ cur.toList.drop (n * 2 + (nils (m * 2)).length))[i]? := fun i => by rw [← k3, Array.getElem?_toList]
    refine ⟨r, c, cur', w.setCells r (n * 2) (nils (m * 2)), ?_, ⟨k1, by rw [k2, hs], hroom, hc, fun i hi => ?_, fun i h1 h2 => ?_, grown_setCells r _ _ (World.grownBy.refl w _) (.inl rfl), .inl rfl⟩⟩
    · simp only [Nat.add_zero] at hst
      have hns : ¬ (m * 2 = 0) := by omega
      simp [Builtin.append_, run_underlying Try.underlying91, run_underlying Try.underlying3, sizeOf, typeInfo, zeroValue, hi0, hz0, hz1, hz2, asInt, asIntOf, hw, hneg, hfits, hroom, hns, hz, Addr.add_lit, hzc, hst]
    · rw [hat, List.append_assoc, List.getElem?_append_left (by simp; omega), List.getElem?_take_of_lt (by omega)]
      simp
    · rw [hat, List.append_assoc, List.getElem?_append_right (by simp; omega), List.getElem?_append_left (by simp [hlen]; omega)]
      exact nils_at (by simp; omega)
  · have hcells : ∀ j u, (cur.toList.take (2 * n))[j]? = some u → w.drew.cell? ((⟨r, 0, none⟩ : Addr).add j) = some u := by
      intro j u hu
      have hj := (List.getElem?_eq_some_iff.1 hu).1
      rw [hol] at hj
      rw [List.getElem?_take_of_lt hj] at hu
      rw [Addr.add_lit, Nat.zero_add]
      exact (hb.cell j).trans (by simpa using hu)
    have hold := run_firstCells_some (P := Try.prog) w.drew i0.size n ⟨r, 0, none⟩ n c (cur.toList.take (2 * n)) (by rw [hol, hz1]; omega) hcells
    have hr := Lib.run_append_grow_zeros (P := Try.prog) w 91 3 ty 96 i0 _ .i64 .i64 Try.underlying91 Try.underlying3 hi0 hz0 (some ⟨r, 0, none⟩) n c (cur.toList.take (2 * n)) hold m (by omega) (by rw [hz1]; decide) (by omega) (by omega) (by rw [hz2]; omega) (by rw [hz2]; exact growslice_fits (by omega) (by omega))
    have hge := grownCap_ge w (n + m) c 96
    have hat : ∀ i, ((cur.toList.take (2 * n)).toArray ++ Builtin.zeroCells #[Value.slice none 0 0, .slice none 0 0] m ++ Builtin.zeroCells #[Value.slice none 0 0, .slice none 0 0] (grownCap w (n + m) c 96 - (n + m)))[i]? = (cur.toList.take (2 * n) ++ (nils (m * 2) ++ nils ((grownCap w (n + m) c 96 - (n + m)) * 2)))[i]? := fun i => by
      rw [← zeros_nils, ← zeros_nils, ← Array.getElem?_toList, Array.toList_append, Array.toList_append, List.append_assoc]
    refine ⟨w.heap.size, grownCap w (n + m) c 96, _, _, hr, ⟨Blk.new_ w.drew _ _ rfl, ?_, hge, grownCap_le_maxLen w (n + m) c _ (by unfold maxLen; omega), fun i hi => ?_, fun i h1 h2 => ?_, grown_ahead (World.grownBy_alloc w.drew _ _), .inr (Nat.le_refl _)⟩⟩
    · simp [size_zeroCells, hz]
      omega
    · rw [hz, hat, List.getElem?_append_left (by rw [hol]; exact hi), List.getElem?_take_of_lt hi]
      simp
    · rw [hz, hat, List.getElem?_append_right (by rw [hol]; exact h1), hol, List.getElem?_append_left (by unfold nils; simp; omega)]
      exact nils_at (by omega)
end Go.Proofs.Ytelplccbcbegkaa.GrW

namespace Go.Proofs.Ytelplccbcbegkaa.GrW
set_option linter.unusedVariables false
open Go Go.RowKit Go.Proofs Go.Proofs.Ytelplccbcbegkaa Go.Proofs.Ytelplccbcbegkaa.Wd

/-- May it grow by so many? -/
def canGrow (n : Nat) (k : Int) : Bool := decide (0 ≤ k) && decide ((n : Int) + k ≤ 10000)
def growL (L : List (List Int)) (m : Nat) : List (List Int) := L ++ List.replicate (2 * m) []
def GrowOut (base : Nat) (F : Nat → Prop) (g n : Nat) (L : List (List Int)) (k : Int) (w : World) (e : Ending) (w' : World) : Prop :=
  if canGrow n k then e = .returned (.int .i64 0) ∧ Upd base F g (n + k.toNat) (growL L k.toNat) w w' else e = .returned (.int .i64 2) ∧ w' = w
theorem GAt.grow {w w2 : World} {base g n m r c r' c' : Nat} {F : Nat → Prop} {cur cur' : Array Value} {L : List (List Int)} (hg : Blk w g 93 #[.bool true, .slice (some ⟨r, 0, none⟩) n c]) (hbg : base ≤ g) (hv : VRows w base r cur L) (hL : L.length = 2 * n) (hsz : cur.size = c * 2) (hnc : n ≤ c) (fg : F g) (fr : F r)
    (frow : ∀ i v b, i < L.length → cur[i]? = some v → v.ownBlock = some b → F b) (hbase : base ≤ w.heap.size) (hm : More w w2 r r' n m c' cur cur') :
    Upd base F g (n + m) (growL L m) w (w2.setCell ⟨g, 1, none⟩ (.slice (some ⟨r', 0, none⟩) (n + m) c')) := by
  have hgr : g ≠ r := fun e => by rw [e] at hg; exact hg.ne_ hv.blk (by decide) rfl
  have hg2 : Blk w2 g 93 #[.bool true, .slice (some ⟨r, 0, none⟩) n c] := hg.grown hm.grown (fun e => hgr (by simpa using e))
  have hgr' : r' ≠ g := by
    rcases hm.at_ with e | e
    · rw [e]; exact hgr.symm
    · have := hg.lt; omega
  have far' : base ≤ r' := by
    rcases hm.at_ with e | e
    · rw [e]; exact hv.far
    · omega
  have hl : (growL L m).length = 2 * (n + m) := by unfold growL; simp [hL]; omega
  have hrow : ∀ i (hi : i < (growL L m).length), ∃ v, cur'[i]? = some v ∧ IRow w2 base v (growL L m)[i] ∧ (i < L.length → cur[i]? = some v) ∧ (L.length ≤ i → v.ownBlock = none) := fun i hi => by
    by_cases hlt : i < L.length
    · obtain ⟨v, h1, h2⟩ := hv.row i hlt
      refine ⟨v, (hm.olds i (by omega)).trans h1, ?_, fun _ => h1, fun h => by omega⟩
      have e : (growL L m)[i] = L[i] := List.getElem_append_left hlt
      rw [e]
      refine h2.keep fun b hb => hm.grown.block b (h2.owns hb).2 (fun e2 => ?_)
      have : b = r := by simpa using e2
      exact hv.ne_row h2 hb this
    · refine ⟨.slice none 0 0, hm.news i (by omega) (by omega), ?_, fun h => absurd h hlt, fun _ => rfl⟩
      have e : (growL L m)[i] = [] := (List.getElem_append_right (by omega)).trans (by simp)
      rw [e]
      exact .inl ⟨rfl, rfl⟩
  have far : ∀ {t : TypeId} {b : Nat} {cs : Array Value} (u : Value), Blk w2 b t cs → b ≠ g → Blk (w2.setCell ⟨g, 1, none⟩ u) b t cs := fun u hb hne => hb.farN hne u
  refine ⟨fun k => F k ∨ w.heap.size ≤ k, ⟨r', c', cur', ?_, hbg, ⟨far _ hm.blk hgr', far', by rw [hl]; have := hm.size; have := hm.cap; omega, fun i hi => ?_, fun i j v u q hij hi hj h1 h2 h3 h4 => ?_⟩, hl, hm.cap, hm.max, hm.size, .inl fg, ?_, fun i v b hi h1 h2 => ?_⟩, ?_, fun j hj => hj⟩
  · exact hg2.set_ 1 _
  · obtain ⟨v, h1, h2, -⟩ := hrow i hi
    refine ⟨v, h1, h2.keep fun b hb => heap_setCell_other w2 ⟨g, 1, none⟩ b _ (fun e => ?_)⟩
    obtain ⟨_, cs, hb2⟩ := h2.blk hb
    have e' : b = g := e
    rw [e'] at hb2
    exact hg2.ne_ hb2 (by decide) rfl
  · obtain ⟨v2, e1, -, e2, e3⟩ := hrow i hi
    obtain ⟨u2, f1, -, f2, f3⟩ := hrow j hj
    rw [h1] at e1
    cases e1
    rw [h2] at f1
    cases f1
    by_cases a : i < L.length
    · by_cases b : j < L.length
      · exact hv.apart i j v u q hij a b (e2 a) (f2 b) h3 h4
      · rw [f3 (by omega)] at h4; cases h4
    · rw [e3 (by omega)] at h3; cases h3
  · rcases hm.at_ with e | e
    · rw [e]; exact .inl fr
    · exact .inr e
  · obtain ⟨v2, e1, -, e2, e3⟩ := hrow i hi
    rw [h1] at e1
    cases e1
    by_cases a : i < L.length
    · exact .inl (frow i v b a (e2 a) h2)
    · rw [e3 (by omega)] at h2; cases h2
  · exact (Fr.of_grown hm.grown (fun b hb => by have : r = b := by simpa using hb
                                                rw [← this]; exact fr)).set_ fg 1 _
set_option maxRecDepth 100000 in
theorem grow_all (w : World) (base g n : Nat) (F : Nat → Prop) (L : List (List Int)) (h : GAt w base F g n L) (hbase : base ≤ w.heap.size) (hn : n ≤ 10000) (k : Int) :
    Calls Try.prog 59 #[.pointer (some ⟨g, 0, none⟩), .int .i64 k] w (GrowOut base F g n L k w) := by
  obtain ⟨r, c, cur, h1, h2, h3, h4, h5, h6, h7, f1, f2, f3⟩ := h
  have HN := Lib.hid (none_any w g _ ⟨h1.cell 0, h1.cell 1⟩)
  have c1 : w.cell? ⟨g, 1, none⟩ = some (.slice (some ⟨r, 0, none⟩) n c) := h1.cell 1
  by_cases hk : canGrow n k = true
  · have hk2 : 0 ≤ k ∧ (n : Int) + k ≤ 10000 := by unfold canGrow at hk; simpa using hk
    obtain ⟨m, rfl⟩ : ∃ m : Nat, k = m := ⟨k.toNat, by omega⟩
    obtain ⟨r', c', cur', w2, hrun, hm⟩ := verts_more h3.blk h7 h5 h6 (fun i hi => by
      obtain ⟨v, e1, e2⟩ := h3.row i (by omega)
      obtain ⟨A, d, rfl⟩ := e2.lies
      exact ⟨_, e1, rfl⟩) m (by omega) 91
    have HF : Hid (GrowOut base F g n L (m : Int) w (.returned (.int .i64 0)) (w2.setCell ⟨g, 1, none⟩ (.slice (some ⟨r', 0, none⟩) (n + m) c'))) := Lib.hid (by
      unfold GrowOut
      rw [if_pos hk, Int.toNat_natCast]
      exact ⟨rfl, GAt.grow h1 h2 h3 h4 h7 h5 f1 f2 f3 hbase hm⟩)
    have hgr : g ≠ r := fun e => by rw [e] at h1; exact h1.ne_ h3.blk (by decide) rfl
    have hg2 : Blk w2 g 93 #[.bool true, .slice (some ⟨r, 0, none⟩) n c] := h1.grown hm.grown (fun e => hgr (by simpa using e))
    have hc2 := hg2.at_ 1 rfl
    have hz2 := hg2.frozen 1
    have HRUN := Lib.hid hrun
    have u0 : ¬ (m : Int) < 0 := by omega
    have u1 : ¬ (10000 - (n : Int)) < (m : Int) := by omega
    clear h1 h2 h3 h4 h5 h6 h7 f1 f2 f3 hm hrun hk hk2 hgr hg2
    go_enter Try.func59, Try.ntmps59
    go_wp2_with fail
    refine Calls.mono HN.out ?_
    rintro e w' ⟨rfl, rfl⟩
    clear HN
    go_wp2_with (at_builtin; refine Lib.wpList_append_run _ rfl (.tmp 25) (.tmp 26) 91 3 rfl _ _ rfl rfl _ _ HRUN.out ?_)
    clear HRUN
    go_wp2_with fail
    go_ret
    exact HF.out
  · have HF : Hid (GrowOut base F g n L k w (.returned (.int .i64 2)) w) := Lib.hid (by
      unfold GrowOut
      rw [if_neg hk]
      exact ⟨rfl, rfl⟩)
    have hk2 : k < 0 ∨ 10000 - (n : Int) < k := by
      unfold canGrow at hk
      simp only [Bool.and_eq_true, decide_eq_true_eq] at hk
      omega
    clear h1 h2 h3 h4 h5 h6 h7 f1 f2 f3 hk
    by_cases u0 : k < 0
    · clear hk2
      go_enter Try.func59, Try.ntmps59
      go_wp2_with fail
      refine Calls.mono HN.out ?_
      rintro e w' ⟨rfl, rfl⟩
      clear HN
      go_wp2_with fail
      go_ret
      exact HF.out
    · have u1 : 10000 - (n : Int) < k := hk2.resolve_left u0
      clear hk2
      go_enter Try.func59, Try.ntmps59
      go_wp2_with fail
      refine Calls.mono HN.out ?_
      rintro e w' ⟨rfl, rfl⟩
      clear HN
      go_wp2_with fail
      go_ret
      exact HF.out
end Go.Proofs.Ytelplccbcbegkaa.GrW
