/-
  Rows of nodes of the call's own; the walk of awake.
-/
import Derived.Test.YtcdjhafpnfgnlaaScopeWalks7
namespace Go.Proofs.Ytcdjhafpnfgnlaa.ScW
set_option linter.unusedVariables false
open Go.RowKit Go.Shelf Go.Proofs Go.Proofs.Ytcdjhafpnfgnlaa Go.Proofs.Ytcdjhafpnfgnlaa.Wd
open Go.Proofs.Ytcdjhafpnfgnlaa.Sc (N own flow rightAt right chain place chainI deep over below owned)

/-- The cells of nodes. -/
def NodeCells (xs : List Value) (ns : List N) : Prop :=
  xs.length = ns.length * 16 ∧ (∀ j, j < ns.length → xs[j * 16 + 3]? = some (.int .i64 (flow ns j)) ∧ xs[j * 16 + 4]? = some (.int .i64 (own ns j))) ∧ ∀ u ∈ xs, u.oneCell' = true
theorem NodeCells.nil : NodeCells [] [] := ⟨rfl, fun _ h => absurd h (Nat.not_lt_zero _), fun _ h => by cases h⟩
theorem own_app_left {ns : List N} {x : N} {j : Nat} (hj : j < ns.length) : own (ns ++ [x]) j = own ns j := by
  unfold own; simp [List.getD, List.getElem?_append_left hj]
theorem flow_app_left {ns : List N} {x : N} {j : Nat} (hj : j < ns.length) : flow (ns ++ [x]) j = flow ns j := by
  unfold flow; simp [List.getD, List.getElem?_append_left hj]
theorem own_app_right (ns : List N) (x : N) : own (ns ++ [x]) ns.length = x.1 := by unfold own; simp [List.getD]
theorem flow_app_right (ns : List N) (x : N) : flow (ns ++ [x]) ns.length = x.2 := by unfold flow; simp [List.getD]
theorem NodeCells.snoc {xs cs : List Value} {ns : List N} (h : NodeCells xs ns) {x : N} (hl : cs.length = 16) (h3 : cs[3]? = some (.int .i64 x.2)) (h4 : cs[4]? = some (.int .i64 x.1)) (h1 : ∀ u ∈ cs, u.oneCell' = true) : NodeCells (xs ++ cs) (ns ++ [x]) := by
  obtain ⟨a1, a2, a3⟩ := h
  refine ⟨by rw [List.length_append, List.length_append, hl, a1, List.length_singleton]; omega, fun j hj => ?_, fun u hu => ?_⟩
  · by_cases hlt : j < ns.length
    · rw [List.getElem?_append_left (by omega), List.getElem?_append_left (by omega), own_app_left hlt, flow_app_left hlt]
      exact a2 j hlt
    · have : j = ns.length := by simp at hj; omega
      subst this
      rw [List.getElem?_append_right (by omega), List.getElem?_append_right (by omega), own_app_right, flow_app_right, show ns.length * 16 + 3 - xs.length = 3 by omega, show ns.length * 16 + 4 - xs.length = 4 by omega]
      exact ⟨h3, h4⟩
  · rcases List.mem_append.1 hu with h | h
    · exact a3 u h
    · exact h1 u h
/-- Own nodes as a slice. -/
theorem own_nodes {w : World} {base n c : Nat} {A : Option Addr} {xs : List Value} {ns : List N} (h : w.ownsRow base 31 16 (.slice A n c) n xs) (hc : NodeCells xs ns) : n = ns.length ∧ n ≤ c ∧ c ≤ maxLen ∧ Nodes w w.heap.size A ns := by
  have hl := h.1
  have hl2 := hc.1
  have hn : n = ns.length := by omega
  refine ⟨hn, own_le h, own_cap' h, fun j hj => ?_⟩
  rcases h.2 with ⟨_, h0⟩ | ⟨g, cap, cur, hv, hg, hh, hcc, hm, _, ht⟩
  · omega
  · cases hv
    have hblk : Blk w g 31 cur := hh
    have cell : ∀ i u, xs[i]? = some u → w.cell? ⟨g, i, none⟩ = some u := fun i u hu => by
      rw [hblk.cell]
      rw [← ht, List.getElem?_take] at hu
      split at hu
      · simpa using hu
      · cases hu
    refine ⟨g, 0, (xs.drop (j * 16)).take 16, rfl, hblk.lt, by rw [List.length_take, List.length_drop]; omega, fun i v hv => ?_, ?_, ?_, fun u hu => hc.2.2 u (List.mem_of_mem_drop (List.mem_of_mem_take hu))⟩
    · rw [Nat.zero_add]
      rw [List.getElem?_take] at hv
      split at hv
      · rw [List.getElem?_drop] at hv; exact cell _ _ hv
      · cases hv
    · rw [List.getElem?_take_of_lt (by omega), List.getElem?_drop]; exact (hc.2.1 j hj).1
    · rw [List.getElem?_take_of_lt (by omega), List.getElem?_drop]; exact (hc.2.1 j hj).2
theorem infoNodeF : (Try.prog.info? 31).map (fun i => (i.zero, i.size, i.bytes)) = some (some (.agg #[.string ⟨#[]⟩, .string ⟨#[]⟩, .int .u8 0, .int .i64 0, .int .i64 0, .int .i64 0, .slice none 0 0, .int .i64 0, .int .i64 0, .int .u8 0, .int .i64 0, .int .i64 0, .int .u8 0, .int .i64 0, .string ⟨#[]⟩, .slice none 0 0]), 16, 184) := by kernel_rfl
/-- A node with its owner and its flow, all else nought. -/
def nodeCells (f o : Int) : List Value := [.string ⟨#[]⟩, .string ⟨#[]⟩, .int .u8 0, .int .i64 f, .int .i64 o, .int .i64 0, .slice none 0 0, .int .i64 0, .int .i64 0, .int .u8 0, .int .i64 0, .int .i64 0, .int .u8 0, .int .i64 0, .string ⟨#[]⟩, .slice none 0 0]
theorem nodeCells_one (f o : Int) : ∀ u ∈ nodeCells f o, u.oneCell' = true := by
  intro u hu
  unfold nodeCells at hu
  iterate 16 (rcases List.mem_cons.1 hu with h | hu; · subst h; rfl)
  cases hu

def egOwners : List Int := [-1, 0, 0, 1, -1, 3]
def egDeeps : List Int := [1, 2, 2, 3, 1, 4]
def eg : List N := [(-1, 0), (0, 0), (0, 0), (1, 0), (-1, 0), (3, 0)]
theorem eg_take (k : Nat) (hk : k < 6) : eg.take (k + 1) = eg.take k ++ [(egOwners.getD k 0, 0)] := by
  rw [List.take_succ_eq_append_getElem (by exact hk)]
  congr 2
  match k, hk with
  | 0, _ => rfl
  | 1, _ => rfl
  | 2, _ => rfl
  | 3, _ => rfl
  | 4, _ => rfl
  | 5, _ => rfl
theorem IntsOut.nums {w w' : World} {e : Ending} {l : List Int} {n : Nat} (h : IntsOut w l e w') (hn : l.length = n) :
    ∃ A c, e = .returned (.slice A n c) ∧ Below w.heap.size w w' ∧ Nums w' w'.heap.size A l ∧ n ≤ c ∧ c ≤ maxLen := by
  obtain ⟨A, c, rfl, hb, ho⟩ := h
  obtain ⟨h1, -, h3, h4⟩ := Nums.of_own ho
  exact ⟨A, c, by rw [hn], hb, h1, by omega, h4⟩
theorem Nums.lit {w : World} {g B : Nat} {t : TypeId} {cs : Array Value} {l : List Int} (h : Blk w g t cs) (hc : cs.toList = iv l) (hB : g < B) : Nums w B (some ⟨g, 0, none⟩) l := fun j hj => by
  refine ⟨g, 0, rfl, hB, ?_⟩
  rw [h.cell]
  simp only [Nat.zero_add, ← Array.getElem?_toList, hc]
  exact List.getElem?_eq_getElem hj
theorem Nodes.lit {w : World} {g B : Nat} {t : TypeId} {cs : Array Value} {ns : List N} (h : Blk w g t cs) (hc : NodeCells cs.toList ns) (hB : g < B) : Nodes w B (some ⟨g, 0, none⟩) ns := fun j hj => by
  have hl2 := hc.1
  have cell : ∀ i u, cs.toList[i]? = some u → w.cell? ⟨g, i, none⟩ = some u := fun i u hu => by
    rw [h.cell]
    simpa using hu
  refine ⟨g, 0, (cs.toList.drop (j * 16)).take 16, rfl, hB, by rw [List.length_take, List.length_drop]; omega, fun i v hv => ?_, ?_, ?_, fun u hu => hc.2.2 u (List.mem_of_mem_drop (List.mem_of_mem_take hu))⟩
  · rw [Nat.zero_add]
    rw [List.getElem?_take] at hv
    split at hv
    · rw [List.getElem?_drop] at hv; exact cell _ _ hv
    · cases hv
  · rw [List.getElem?_take_of_lt (by omega), List.getElem?_drop]; exact (hc.2.1 j hj).1
  · rw [List.getElem?_take_of_lt (by omega), List.getElem?_drop]; exact (hc.2.1 j hj).2
/-- Two nodes that are not right. -/
def bad : List N := [(1, 0), (-1, 0)]
theorem bad_cells : NodeCells (nodeCells 0 1 ++ nodeCells 0 (-1)) bad :=
  (NodeCells.snoc (NodeCells.snoc NodeCells.nil (x := (1, 0)) rfl rfl rfl (nodeCells_one 0 1)) (x := (-1, 0)) rfl rfl rfl (nodeCells_one 0 (-1)))
theorem bad_right : right bad = false := by decide
theorem eg0 : chain eg 0 = [] := Sc.chain_none (by decide)
theorem eg1 : chain eg 1 = [0] := by
  rw [Sc.chain_some (by decide) (by decide)]; show 0 :: chain eg 0 = [0]; rw [eg0]
theorem eg2 : chain eg 2 = [0] := by
  rw [Sc.chain_some (by decide) (by decide)]; show 0 :: chain eg 0 = [0]; rw [eg0]
theorem eg3 : chain eg 3 = [1, 0] := by
  rw [Sc.chain_some (by decide) (by decide)]; show 1 :: chain eg 1 = [1, 0]; rw [eg1]
theorem eg4 : chain eg 4 = [] := Sc.chain_none (by decide)
theorem eg5 : chain eg 5 = [3, 1, 0] := by
  rw [Sc.chain_some (by decide) (by decide)]; show 3 :: chain eg 3 = [3, 1, 0]; rw [eg3]
theorem eg_deep (k : Nat) (hk : k < 6) : ((deep eg (k : Int) : Nat) : Int) = egDeeps.getD k 0 := by
  have : place eg (k : Int) = true := by unfold place; simp [eg]; omega
  unfold deep
  rw [this, if_pos rfl, Int.toNat_natCast]
  match k, hk with
  | 0, _ => rw [eg0]; rfl
  | 1, _ => rw [eg1]; rfl
  | 2, _ => rw [eg2]; rfl
  | 3, _ => rw [eg3]; rfl
  | 4, _ => rw [eg4]; rfl
  | 5, _ => rw [eg5]; rfl
theorem eg_chain : toI (chainI eg 5) = [3, 1, 0] := by
  unfold chainI
  rw [show place eg 5 = true by decide, if_pos rfl]
  show toI (chain eg 5) = _
  rw [eg5]; rfl
theorem eg_below : toI (below eg 1) = [3, 5] := by
  unfold below
  rw [show place eg 1 = true by decide, if_pos rfl]
  have h : ∀ k : Nat, k < 6 → over eg 1 (k : Int) = (chain eg k).any fun o => decide ((o : Int) = 1) := fun k hk => by
    unfold over chainI
    rw [show place eg (k : Int) = true by unfold place; simp [eg]; omega, if_pos rfl, Int.toNat_natCast]
  show toI ((List.range 6).filter fun k => over eg 1 (k : Int)) = _
  have e : (List.range 6) = [0, 1, 2, 3, 4, 5] := rfl
  rw [e]
  simp only [List.filter_cons, List.filter_nil, h 0 (by decide), h 1 (by decide), h 2 (by decide), h 3 (by decide), h 4 (by decide), h 5 (by decide), eg0, eg1, eg2, eg3, eg4, eg5]
  rfl
theorem eg_right : right eg = true := by decide
theorem eg_own1 : toI (owned eg 0 (-1)) = [0, 4] := by decide
theorem eg_own2 : toI (owned eg 0 0) = [1, 2] := by decide

set_option maxRecDepth 100000 in
set_option maxHeartbeats 8000000 in
theorem awake_any (w : World) : Calls Try.prog 11 #[] w fun e w' => e = .returned (.bool true) ∧ Below w.heap.size w w' := by
  obtain ⟨i0, hi0, hz0, hz1, hz2⟩ := info_parts infoNodeF
  go_enter Try.func11, Try.ntmps11
  go_wp2
  have z0 := Blk.new_ w 3 #[.int .i64 (-1), .int .i64 0, .int .i64 0, .int .i64 1, .int .i64 (-1), .int .i64 3] rfl
  have hB0 := (Below.refl w.heap.size w).alloc (Nat.le_refl _) (.cells #[.int .i64 (-1), .int .i64 0, .int .i64 0, .int .i64 1, .int .i64 (-1), .int .i64 3] 3)
  have hsz : (w.alloc (.cells #[.int .i64 (-1), .int .i64 0, .int .i64 0, .int .i64 1, .int .i64 (-1), .int .i64 3] 3)).heap.size = w.heap.size + 1 := by simp
  generalize w.alloc (.cells #[.int .i64 (-1), .int .i64 0, .int .i64 0, .int .i64 1, .int .i64 (-1), .int .i64 3] 3) = w0 at *
  go_loopw [1, 8] (fun v i wr => ∃ k : Nat, ∃ xs, k ≤ 6 ∧ i = .int .i64 k ∧ wr.ownsRow (w.heap.size + 1) 31 16 v k xs ∧ NodeCells xs (eg.take k) ∧ Below (w.heap.size + 1) w0 wr) (fun _ i _ => 6 - (intOf i).toNat)
  case atStart => exact ⟨0, [], Nat.zero_le _, rfl, ⟨rfl, .inl ⟨rfl, rfl⟩⟩, NodeCells.nil, by rw [← hsz]; exact Below.refl _ _⟩
  case round =>
    obtain ⟨k, xs, hk, rfl, hown, hNC, hB⟩ := hrel
    by_cases hlt : k < 6
    · have hb0 := z0.below hB (Nat.lt_succ_self _)
      have hbs := hB.size
      have hcell : wr.cell? ⟨w.heap.size, k, none⟩ = some (.int .i64 (egOwners.getD k 0)) := by
        rw [hb0.cell]
        match k, hlt with
        | 0, _ => rfl
        | 1, _ => rfl
        | 2, _ => rfl
        | 3, _ => rfl
        | 4, _ => rfl
        | 5, _ => rfl
      have HTK := Lib.hid (eg_take k hlt)
      have HNC := Lib.hid hNC
      clear hNC
      generalize egOwners.getD k 0 = ow at *
      clear hb0 z0 hB0
      obtain ⟨A1, cp1, rfl⟩ := own_form hown
      have hnew := heap_alloc_new wr (.cells (nodeCells 0 ow).toArray 31)
      have hone := nodeCells_one 0 ow
      have hal := hown.alloc (.cells (nodeCells 0 ow).toArray 31)
      have hB1 := (Below.refl (w.heap.size + 1) wr).alloc (by omega) (.cells (nodeCells 0 ow).toArray 31)
      unfold nodeCells at hnew hal hB1
      have hbs2 : w.heap.size + 1 ≤ wr.heap.size := by omega
      clear hown hsz hbs
      go_wp2_with (at_builtin; refine wpList_append_lies _ rfl (.tmp 12) (.tmp 15) _ rfl (w.heap.size + 1) 31 i0 _ 16 184 Try.underlying23 hi0 hz0 hz1 hz2 rfl (by omega) _ k _ rfl hal ⟨wr.heap.size, 0, none⟩ 1 1 (nodeCells 0 ow) rfl rfl (World.news_of_block hnew) hone (by omega) (by unfold maxLen; omega) (by omega) (by simp; omega) (wr.heap.size + 1) (by simp) ?_)
      intro g cap w2 hown2 hgrow _ _
      have hB2 := hB.trans (hB1.grown hgrow (by simp; omega) (fun j hj => (own_row hal hj).1))
      have R1 : Hid (NodeCells (xs ++ nodeCells 0 ow) (eg.take (k + 1))) := Lib.hid (by rw [HTK.out]; exact HNC.out.snoc rfl rfl rfl hone)
      clear hgrow hal hnew hB1 hone HNC HTK
      go_wp2
      go_roundw
      case rel => exact ⟨k + 1, xs ++ nodeCells 0 ow, by omega, by go_num, hown2, R1.out, hB2⟩
      case measure => simp [intOf]; omega
    · obtain rfl : k = 6 := by omega
      have hb0 := z0.below hB (Nat.lt_succ_self _)
      have hBB := hB0.trans (hB.mono (Nat.le_succ _))
      obtain ⟨A1, cp1, rfl⟩ := own_form hown
      obtain ⟨hnn, hA1, hA2, hNN⟩ := own_nodes hown (show NodeCells xs eg from hNC)
      clear hnn
      obtain ⟨wn, rfl⟩ : ∃ wn, wn = wr := ⟨wr, rfl⟩
      have hbs := hB.size
      have hsz2 : w.heap.size + 1 ≤ wn.heap.size := by omega
      simp only [Int.cast_ofNat_Int]
      clear hown hNC hB hB0 z0 hb0 hbs hsz
      go_wp2
      have z1 := Blk.new_ wn 3 #[.int .i64 1, .int .i64 2, .int .i64 2, .int .i64 3, .int .i64 1, .int .i64 4] rfl
      have hB1 := (Below.refl wn.heap.size wn).alloc (Nat.le_refl _) (.cells #[.int .i64 1, .int .i64 2, .int .i64 2, .int .i64 3, .int .i64 1, .int .i64 4] 3)
      have hN1 := hNN.grow hB1
      have hsz3 : (wn.alloc (.cells #[.int .i64 1, .int .i64 2, .int .i64 2, .int .i64 3, .int .i64 1, .int .i64 4] 3)).heap.size = wn.heap.size + 1 := by simp
      have hBB1 := hBB.trans (hB1.mono (by omega))
      generalize wn.alloc (.cells #[.int .i64 1, .int .i64 2, .int .i64 2, .int .i64 3, .int .i64 1, .int .i64 4] 3) = w1 at *
      clear hNN hB1 hBB
      go_loopw [20] (fun i wq => ∃ k : Nat, k ≤ 6 ∧ i = .int .i64 k ∧ Below (wn.heap.size + 1) w1 wq) (fun i _ => 6 - (intOf i).toNat)
      case atStart => exact ⟨0, Nat.zero_le _, rfl, hsz3 ▸ Below.refl _ _⟩
      case round =>
        obtain ⟨k, hk, rfl, hB⟩ := hrel
        by_cases hlt : k < 6
        · have hb0 := z1.below hB (Nat.lt_succ_self _)
          have hcell : wr.cell? ⟨wn.heap.size, k, none⟩ = some (.int .i64 (egDeeps.getD k 0)) := by
            rw [hb0.cell]
            match k, hlt with
            | 0, _ => rfl
            | 1, _ => rfl
            | 2, _ => rfl
            | 3, _ => rfl
            | 4, _ => rfl
            | 5, _ => rfl
          have HD := Lib.hid (eg_deep k hlt)
          have hB' : Below w1.heap.size w1 wr := by rw [hsz3]; exact hB
          have hNk2 := hN1.grow hB'
          have hwr := hB.size
          have hwr2 : wn.heap.size + 1 ≤ wr.heap.size := by omega
          generalize egDeeps.getD k 0 = dp at *
          clear hb0 z1 hB' hN1 hsz3 hwr
          go_wp2_with fail
          refine Calls.mono (deep_any A1 cp1 eg 6 rfl hA1 (by decide) eg_right k wr hNk2) ?_
          rintro e w3 ⟨rfl, hb3⟩
          rw [HD.out]
          have hB3 := hB.trans (hb3.mono hwr2)
          clear hB hb3 hNk2 hcell HD
          go_wp2
          go_roundw
          case rel => exact ⟨k + 1, by omega, by go_num, hB3⟩
          case measure => simp [intOf]; omega
        · obtain rfl : k = 6 := by omega
          have hB' : Below w1.heap.size w1 wr := by rw [hsz3]; exact hB
          have hNk := hN1.grow hB'
          have hBB2 := hBB1.trans (hB.mono (by omega))
          have hwr : w.heap.size ≤ wr.heap.size := hBB2.size
          clear hB' hB hN1 hBB1 hsz3 z1
          simp only [Int.cast_ofNat_Int]
          go_wp2_with fail
          refine Calls.mono (right_any A1 cp1 eg 6 rfl hA1 hA2 wr hNk) ?_
          rintro e w2 ⟨rfl, hb2⟩
          rw [eg_right]
          have hB2 := hBB2.trans (hb2.mono hwr)
          have hN2 := hNk.grow hb2
          clear hb2 hNk hBB2 hwr
          go_wp2_with fail
          refine Calls.mono (chain_any A1 cp1 eg 6 rfl hA1 (by decide) eg_right 5 w2 hN2) ?_
          rintro e w3 h3
          rw [eg_chain] at h3
          obtain ⟨A3, c3, rfl, hb3, hm3, hn3, hc3⟩ := h3.nums (n := 3) rfl
          clear h3
          have hb4 := hb3.alloc hb3.size (.cells #[.int .i64 3, .int .i64 1, .int .i64 0] 3)
          have hm4 := hm3.grow ((Below.refl _ w3).alloc (Nat.le_refl _) (.cells #[.int .i64 3, .int .i64 1, .int .i64 0] 3))
          have hl4 := Nums.lit (l := [3, 1, 0]) (B := (w3.alloc (.cells #[.int .i64 3, .int .i64 1, .int .i64 0] 3)).heap.size) (Blk.new_ w3 3 #[.int .i64 3, .int .i64 1, .int .i64 0] rfl) rfl (by simp)
          clear hb3 hm3
          go_wp2_with fail
          generalize w3.alloc (.cells #[.int .i64 3, .int .i64 1, .int .i64 0] 3) = w4 at *
          refine Calls.mono (ints_any _ _ c3 3 [3, 1, 0] [3, 1, 0] 3 3 rfl rfl hn3 hc3 w4 hm4 hl4) ?_
          rintro e w5 ⟨rfl, hb5⟩
          rw [show decide (([3, 1, 0] : List Int) = [3, 1, 0]) = true by decide]
          have hb5' := hb4.trans (hb5.mono hb4.size)
          have hB5 := hB2.trans (hb5'.mono hB2.size)
          have hN5 := hN2.grow hb5'
          clear hb4 hb5 hb5' hm4 hl4 hn3 hc3 hN2 hB2
          go_wp2_with fail
          refine Calls.mono (below_any A1 cp1 eg 6 rfl hA1 (by decide) eg_right 1 w5 hN5) ?_
          rintro e w6 h6
          rw [eg_below] at h6
          obtain ⟨A6, c6, rfl, hb6, hm6, hn6, hc6⟩ := h6.nums (n := 2) rfl
          clear h6
          have hb7 := hb6.alloc hb6.size (.cells #[.int .i64 3, .int .i64 5] 3)
          have hm7 := hm6.grow ((Below.refl _ w6).alloc (Nat.le_refl _) (.cells #[.int .i64 3, .int .i64 5] 3))
          have hl7 := Nums.lit (l := [3, 5]) (B := (w6.alloc (.cells #[.int .i64 3, .int .i64 5] 3)).heap.size) (Blk.new_ w6 3 #[.int .i64 3, .int .i64 5] rfl) rfl (by simp)
          clear hb6 hm6
          go_wp2_with fail
          generalize w6.alloc (.cells #[.int .i64 3, .int .i64 5] 3) = w7 at *
          refine Calls.mono (ints_any _ _ c6 2 [3, 5] [3, 5] 2 2 rfl rfl hn6 hc6 w7 hm7 hl7) ?_
          rintro e w8 ⟨rfl, hb8⟩
          rw [show decide (([3, 5] : List Int) = [3, 5]) = true by decide]
          have hb8' := hb7.trans (hb8.mono hb7.size)
          have hB8 := hB5.trans (hb8'.mono hB5.size)
          have hN8 := hN5.grow hb8'
          clear hb7 hb8 hb8' hm7 hl7 hn6 hc6 hN5 hB5
          go_wp2_with fail
          refine Calls.mono (own_any A1 cp1 eg 6 rfl hA1 hA2 (by decide) 0 (-1) w8 hN8) ?_
          rintro e w9 h9
          rw [eg_own1] at h9
          obtain ⟨A9, c9, rfl, hb9, hm9, hn9, hc9⟩ := h9.nums (n := 2) rfl
          clear h9
          have hb10 := hb9.alloc hb9.size (.cells #[.int .i64 0, .int .i64 4] 3)
          have hm10 := hm9.grow ((Below.refl _ w9).alloc (Nat.le_refl _) (.cells #[.int .i64 0, .int .i64 4] 3))
          have hl10 := Nums.lit (l := [0, 4]) (B := (w9.alloc (.cells #[.int .i64 0, .int .i64 4] 3)).heap.size) (Blk.new_ w9 3 #[.int .i64 0, .int .i64 4] rfl) rfl (by simp)
          clear hb9 hm9
          go_wp2_with fail
          generalize w9.alloc (.cells #[.int .i64 0, .int .i64 4] 3) = w10 at *
          refine Calls.mono (ints_any _ _ c9 2 [0, 4] [0, 4] 2 2 rfl rfl hn9 hc9 w10 hm10 hl10) ?_
          rintro e w11 ⟨rfl, hb11⟩
          rw [show decide (([0, 4] : List Int) = [0, 4]) = true by decide]
          have hb11' := hb10.trans (hb11.mono hb10.size)
          have hB11 := hB8.trans (hb11'.mono hB8.size)
          have hN11 := hN8.grow hb11'
          clear hb10 hb11 hb11' hm10 hl10 hn9 hc9 hN8 hB8
          go_wp2_with fail
          refine Calls.mono (own_any A1 cp1 eg 6 rfl hA1 hA2 (by decide) 0 0 w11 hN11) ?_
          rintro e w12 h12
          rw [eg_own2] at h12
          obtain ⟨A12, c12, rfl, hb12, hm12, hn12, hc12⟩ := h12.nums (n := 2) rfl
          clear h12
          have hb13 := hb12.alloc hb12.size (.cells #[.int .i64 1, .int .i64 2] 3)
          have hm13 := hm12.grow ((Below.refl _ w12).alloc (Nat.le_refl _) (.cells #[.int .i64 1, .int .i64 2] 3))
          have hl13 := Nums.lit (l := [1, 2]) (B := (w12.alloc (.cells #[.int .i64 1, .int .i64 2] 3)).heap.size) (Blk.new_ w12 3 #[.int .i64 1, .int .i64 2] rfl) rfl (by simp)
          clear hb12 hm12
          go_wp2_with fail
          generalize w12.alloc (.cells #[.int .i64 1, .int .i64 2] 3) = w13 at *
          refine Calls.mono (ints_any _ _ c12 2 [1, 2] [1, 2] 2 2 rfl rfl hn12 hc12 w13 hm13 hl13) ?_
          rintro e w14 ⟨rfl, hb14⟩
          rw [show decide (([1, 2] : List Int) = [1, 2]) = true by decide]
          have hb14' := hb13.trans (hb14.mono hb13.size)
          have hB14 := hB11.trans (hb14'.mono hB11.size)
          have hN14 := hN11.grow hb14'
          clear hb13 hb14 hb14' hm13 hl13 hn12 hc12 hN11 hB11
          go_wp2_with fail
          have hB15 := hB14.trans (((Below.refl _ w14).alloc (Nat.le_refl _) (.cells (nodeCells 0 1 ++ nodeCells 0 (-1)).toArray 31)).mono hB14.size)
          have hl15 := Nodes.lit (B := (w14.alloc (.cells (nodeCells 0 1 ++ nodeCells 0 (-1)).toArray 31)).heap.size) (Blk.new_ w14 31 (nodeCells 0 1 ++ nodeCells 0 (-1)).toArray rfl) bad_cells (by simp)
          have hgen : ∀ W, W = w14.alloc (.cells (nodeCells 0 1 ++ nodeCells 0 (-1)).toArray 31) → Calls Try.prog 12 #[.slice (some ⟨w14.heap.size, 0, none⟩) 2 2] W fun e w' => e = .returned (.bool false) ∧ Below w.heap.size w w' := by
            rintro W rfl
            refine Calls.mono (right_any _ 2 bad 2 rfl (Nat.le_refl _) (by unfold maxLen; omega) _ hl15) ?_
            rintro e w16 ⟨rfl, hb16⟩
            rw [bad_right]
            exact ⟨rfl, hB15.trans (hb16.mono hB15.size)⟩
          refine Calls.mono (hgen _ rfl) ?_
          clear hgen hl15 hB15 hN14 hB14
          rintro e w16 ⟨rfl, hb16⟩
          go_wp2_with fail
          go_ret
          exact ⟨rfl, hb16⟩
end Go.Proofs.Ytcdjhafpnfgnlaa.ScW
