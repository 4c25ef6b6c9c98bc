/-
  The walk of Forest once more, with the nodes' names.
-/
import Derived.Test.YtifmnoepifgaiaaNameAll
namespace Go.Proofs.Ytifmnoepifgaiaa.NmW
set_option linter.unusedVariables false
open Go.RowKit Go.Proofs Go.Proofs.Ytifmnoepifgaiaa Go.Proofs.Ytifmnoepifgaiaa.Wd Go.Proofs.Ytifmnoepifgaiaa.ScW Go.Proofs.Ytifmnoepifgaiaa.Nm
open Go.Proofs.Ytifmnoepifgaiaa.Sc (N own flow rightAt right chain place chainI deep over below owned)

/-- The lowest bit is a number. -/
theorem mask1_wf (x : Int) : (Lit.int .i64 (bits BinOp.and IntKind.i64 x 1)).wf = true := by
  have h : ∃ y : Nat, y ≤ 1 ∧ bits BinOp.and IntKind.i64 x 1 = (y : Int) := by
    have hle : (BitVec.ofInt 64 x &&& BitVec.ofInt 64 1).toNat ≤ 1 := by
      rw [BitVec.toNat_and]
      exact Nat.le_trans Nat.and_le_right (by decide)
    exact ⟨_, hle, IntWalk.i64_in _ ⟨Int.le_trans (by decide) (Int.natCast_nonneg _), Int.le_trans (Int.ofNat_le.2 hle) (by decide)⟩⟩
  obtain ⟨y, hy, e⟩ := h
  rw [e]
  exact WalkArith.wf_i64 (by omega)
/-- Cells of nodes without a name. -/
def NCell0 (xs : List Value) (ns : List N) : Prop := NodeCells xs ns ∧ (∀ j, j < ns.length → xs[j * 16 + 1]? = some (.string ⟨#[]⟩)) ∧ ∀ j, j < ns.length → (Lit.int .i64 (flow ns j)).wf = true
theorem NCell0.nil : NCell0 [] [] := ⟨NodeCells.nil, fun _ h => absurd h (Nat.not_lt_zero _), fun _ h => absurd h (Nat.not_lt_zero _)⟩
theorem NCell0.snoc {xs cs : List Value} {ns : List N} (h : NCell0 xs ns) {x : N} (hl : cs.length = 16) (h3 : cs[3]? = some (.int .i64 x.2)) (h4 : cs[4]? = some (.int .i64 x.1)) (h1 : ∀ u ∈ cs, u.oneCell' = true) (h0 : cs[1]? = some (.string ⟨#[]⟩)) (hw : (Lit.int .i64 x.2).wf = true) : NCell0 (xs ++ cs) (ns ++ [x]) := by
  refine ⟨h.1.snoc hl h3 h4 h1, fun j hj => ?_, fun j hj => ?_⟩
  · have ha := h.1.1
    by_cases hlt : j < ns.length
    · rw [List.getElem?_append_left (by omega)]
      exact h.2.1 j hlt
    · have : j = ns.length := by simp at hj; omega
      subst this
      rw [List.getElem?_append_right (by omega), show ns.length * 16 + 1 - xs.length = 1 by omega]
      exact h0
  · by_cases hlt : j < ns.length
    · rw [flow_app_left hlt]
      exact h.2.2 j hlt
    · have : j = ns.length := by simp at hj; omega
      subst this
      rw [flow_app_right]
      exact hw
set_option maxRecDepth 100000 in
set_option maxHeartbeats 8000000 in
theorem nforest_big (A : Option Addr) (c : Nat) (l : List Int) (n : Nat) (hn : n = l.length) (hnc : n ≤ c) (hcm : c ≤ maxLen) (hbig : 60 < n) (w : World) (hI : Nums w w.heap.size A l) :
    Calls Try.prog 17 #[.slice A n c] w fun e w' => ∃ A' c' ns xs, e = .returned (.slice A' ns.length c') ∧ ns.length ≤ 60 ∧ ns.length ≤ n ∧ right ns = true ∧ w'.ownsRow w.heap.size 35 16 (.slice A' ns.length c') ns.length xs ∧ NCell0 xs ns ∧ Below w.heap.size w w' := by
  unfold maxLen at hcm
  obtain ⟨i0, hi0, hz0, hz1, hz2⟩ := info_parts infoNodeF
  have HN := Lib.hid hn
  clear hn
  · have hM : (60 : Nat) ≤ n := by omega
    have hin : ¬ (n : Int) ≤ 60 := by omega
    go_enter Try.func17, Try.ntmps17
    go_wp2_with fail
    go_loopw [3, 14] (fun v i wr => ∃ (k : Nat) (ns : List N) (xs : List Value), k ≤ 60 ∧ i = .int .i64 k ∧ ns.length = k ∧ right ns = true ∧ wr.ownsRow w.heap.size 35 16 v k xs ∧ NCell0 xs ns ∧ Below w.heap.size w wr) (fun _ i _ => 60 - (intOf i).toNat)
    case atStart => exact ⟨0, [], [], Nat.zero_le _, rfl, rfl, rfl, ⟨rfl, .inl ⟨rfl, rfl⟩⟩, NCell0.nil, Below.refl _ _⟩
    case round =>
      obtain ⟨k, ns, xs, hk, rfl, hlen, hr, hown, hNC, hB⟩ := hrel
      by_cases hlt : k < 60
      · have hkl : k < l.length := by have := HN.out; omega
        obtain ⟨b, o, rfl, hbl, hc0⟩ := hI.at_ hkl
        have hc : wr.cell? ⟨b, o + k, none⟩ = some (.int .i64 l[k]) := (hB.cell (p := ⟨b, _, none⟩) hbl).trans hc0
        generalize l[k] = x at *
        have hbs := hB.size
        have HLEN := Lib.hid hlen
        clear hc0
        obtain ⟨A1, cp1, rfl⟩ := own_form hown
        have hNN := (own_nodes hown hNC.1).2.2.2
        have HR := Lib.hid hr
        have HNC := Lib.hid hNC
        obtain ⟨ow, how⟩ := mask_rem x k
        generalize hfl : bits BinOp.and IntKind.i64 (x / 256) 1 = fl
        have HFL := Lib.hid hfl
        clear hr hNC hlen
        have hal0 := (hown.alloc (.cells (nodeCells fl (-1)).toArray 35)).alloc (.cells (nodeCells fl (-1)).toArray 35)
        have hBa := ((Below.refl w.heap.size wr).alloc hbs (.cells (nodeCells fl (-1)).toArray 35)).alloc (by simp; omega) (.cells (nodeCells fl (-1)).toArray 35)
        have hnew := heap_alloc_new (wr.alloc (.cells (nodeCells fl (-1)).toArray 35)) (.cells (nodeCells fl (-1)).toArray 35)
        have hone := nodeCells_one fl (-1)
        unfold nodeCells at hal0 hBa hnew
        simp only [World.size_alloc] at hnew
        by_cases ho : ow < k
        · obtain ⟨b2, o2, rfl, hb2l, hfc⟩ := hNN.flow_at (j := ow) (by rw [HLEN.out]; exact ho)
          generalize hff : flow ns ow = ff at hfc
          have HFF := Lib.hid hff
          have hne : ¬ b2 = wr.heap.size := by omega
          clear hff
          go_wp2_with fail
          have hSg : ∀ X : Obj, (wr.alloc X).drew.cell? ⟨b2, o2 + ow * 16 + 3, none⟩ = some (.int .i64 ff) := fun X => ((Below.refl wr.heap.size wr).alloc (Nat.le_refl _) X |>.cell (p := ⟨b2, _, none⟩) hb2l).trans hfc
          have HSG := Lib.hid hSg
          have hS := hSg (.cells (nodeCells fl (-1)).toArray 35)
          unfold nodeCells at hS
          clear hSg
          refine wp_region_heldG [] (fun _ W => W.cell? ⟨b2, o2 + ow * 16 + 3, none⟩ = some (.int .i64 ff)) (by kernel_rfl) ?_
          change wpAnyG _ _ _ _ _ _ 10 _ _ (World.drew _)
          refine g_take (i := 0) rfl rfl (by kernel_rfl) (by kernel_rfl) (by kernel_rfl) (by kernel_rfl) (by kernel_rfl) (fun _ _ _ h => h) hS (fun L W hL hW => by go_simp; rfl) ?_
          refine g_take (i := 1) rfl rfl (by kernel_rfl) (by kernel_rfl) (by kernel_rfl) (by kernel_rfl) (by kernel_rfl) (fun _ _ _ h => h) hS (fun L W hL hW => by go_simp; rfl) ?_
          refine g_take (i := 2) rfl rfl (by kernel_rfl) (by kernel_rfl) (by kernel_rfl) (by kernel_rfl) (by kernel_rfl) (fun _ _ _ h => h) hS (fun L W hL hW => by go_simp; rfl) ?_
          refine g_take (i := 3) rfl rfl (by kernel_rfl) (by kernel_rfl) (by kernel_rfl) (by kernel_rfl) (by kernel_rfl) (fun _ _ _ h => h) hS (fun L W hL hW => by go_simp; rfl) ?_
          refine g_take (i := 4) rfl rfl (by kernel_rfl) (by kernel_rfl) (by kernel_rfl) (by kernel_rfl) (by kernel_rfl) (fun _ _ _ h => h) hS (fun L W hL hW => by go_simp; rfl) ?_
          refine g_take (i := 5) rfl rfl (by kernel_rfl) (by kernel_rfl) (by kernel_rfl) (by kernel_rfl) (by kernel_rfl) (fun _ _ _ h => h) hS (fun L W hL hW => by go_simp; rfl) ?_
          refine g_take (i := 6) rfl rfl (by kernel_rfl) (by kernel_rfl) (by kernel_rfl) (by kernel_rfl) (by kernel_rfl) (fun _ _ _ h => h) hS (fun L W hL hW => by go_simp; rfl) ?_
          refine g_one (i := 7) rfl rfl (by kernel_rfl) fun K hK => ?_
          go_simp
          refine hK _ _ (HSG.out _) ?_
          clear hK K hS
          have hS := HSG.out (.cells (nodeCells fl ow).toArray 35)
          unfold nodeCells at hS
          refine g_take (i := 8) rfl rfl (by kernel_rfl) (by kernel_rfl) (by kernel_rfl) (by kernel_rfl) (by kernel_rfl) (fun _ _ _ h => h) hS (fun L W hL hW => by go_simp; rfl) ?_
          refine g_one (i := 9) rfl rfl (by kernel_rfl) fun K hK => ?_
          go_simp
          refine hK _ _ (HSG.out _) ?_
          clear hK K hS
          refine wpAnyG_done (by kernel_rfl) ?_ _
          have hal := ((hown.alloc (.cells (nodeCells ff ow).toArray 35)).alloc (.cells (nodeCells ff ow).toArray 35)).drew
          have hBc := (((Below.refl w.heap.size wr).alloc hbs (.cells (nodeCells ff ow).toArray 35)).alloc (by simp; omega) (.cells (nodeCells ff ow).toArray 35)).drew
          have hnew2 := heap_alloc_new (wr.alloc (.cells (nodeCells ff ow).toArray 35)) (.cells (nodeCells ff ow).toArray 35)
          have hone2 := nodeCells_one ff ow
          unfold nodeCells at hal hBc hnew2
          simp only [World.size_alloc] at hnew2
          clear hal0 hBa hnew hone HSG
          go_wp2_with (at_builtin; refine (fun (h : ∀ _ : Unit, _) => h ()) ?_)
          intro _
          refine wpList_append_lies _ rfl (.tmp 40) (.tmp 42) _ rfl w.heap.size 35 i0 _ 16 184 Try.underlying23 hi0 hz0 hz1 hz2 rfl (by omega) _ k _ rfl hal ⟨wr.heap.size + 1, 0, none⟩ 1 1 (nodeCells ff ow) rfl rfl (World.news_of_block hnew2) hone2 (by omega) (by unfold maxLen; omega) (by omega) (by rw [World.size_drew]; simp; omega) (wr.heap.size + 1 + 1) (by rw [World.size_drew]; simp) ?_
          intro g cap w2 hown2 hgrow _ _
          have hB2 := hB.trans (hBc.grown hgrow (by rw [World.size_drew]; simp; omega) (fun j hj => (own_row hal hj).1))
          have R1 : Hid (NCell0 (xs ++ nodeCells ff ow) (ns ++ [((ow : Int), ff)])) := Lib.hid (HNC.out.snoc rfl rfl rfl hone2 rfl (by rw [← HFF.out]; exact HNC.out.2.2 ow (by rw [HLEN.out]; exact ho)))
          have R2 : Hid (right (ns ++ [((ow : Int), ff)]) = true) := Lib.hid (right_snoc HR.out (.inr ⟨Int.natCast_nonneg _, by rw [HLEN.out]; exact Int.ofNat_lt.2 ho, HFF.out.symm⟩))
          have R3 : Hid ((ns ++ [((ow : Int), ff)]).length = k + 1) := Lib.hid (by simp [HLEN.out])
          clear hgrow hal hnew2 hBc hone2 HNC hB hown HFL HFF hfc hNN
          go_wp2
          go_roundw
          case rel => exact ⟨k + 1, ns ++ [((ow : Int), ff)], _, by omega, by go_num, R3.out, R2.out, hown2, R1.out, hB2⟩
          case measure => simp [intOf]; omega
        · clear hNN
          go_wp2_with (at_builtin; refine (fun (h : ∀ _ : Unit, _) => h ()) ?_)
          intro _
          refine wpList_append_lies _ rfl (.tmp 40) (.tmp 42) _ rfl w.heap.size 35 i0 _ 16 184 Try.underlying23 hi0 hz0 hz1 hz2 rfl (by omega) _ k _ rfl hal0 ⟨wr.heap.size + 1, 0, none⟩ 1 1 (nodeCells fl (-1)) rfl rfl (World.news_of_block hnew) hone (by omega) (by unfold maxLen; omega) (by omega) (by simp; omega) (wr.heap.size + 1 + 1) (by simp) ?_
          intro g cap w2 hown2 hgrow _ _
          have hB2 := hB.trans (hBa.grown hgrow (by simp; omega) (fun j hj => (own_row hal0 hj).1))
          have R1 : Hid (NCell0 (xs ++ nodeCells fl (-1)) (ns ++ [(-1, fl)])) := Lib.hid (HNC.out.snoc rfl rfl rfl hone rfl (by rw [← HFL.out]; exact mask1_wf _))
          have R2 : Hid (right (ns ++ [(-1, fl)]) = true) := Lib.hid (right_snoc HR.out (.inl rfl))
          have R3 : Hid ((ns ++ [((-1 : Int), fl)]).length = k + 1) := Lib.hid (by simp [HLEN.out])
          clear hgrow hal0 hnew hBa hone HNC hB hown HFL
          go_wp2
          go_roundw
          case rel => exact ⟨k + 1, ns ++ [(-1, fl)], _, by omega, by go_num, R3.out, R2.out, hown2, R1.out, hB2⟩
          case measure => simp [intOf]; omega
      · obtain rfl : k = 60 := by omega
        try simp only [Int.cast_ofNat_Int]
        obtain ⟨A1, cp1, rfl⟩ := own_form hown
        go_wp2_with fail
        go_ret
        exact ⟨A1, cp1, ns, xs, by rw [hlen]; rfl, by omega, by omega, hr, by rw [hlen]; exact hown, hNC, hB⟩

set_option maxRecDepth 100000 in
set_option maxHeartbeats 8000000 in
theorem nforest_small (A : Option Addr) (c : Nat) (l : List Int) (n : Nat) (hn : n = l.length) (hnc : n ≤ c) (hcm : c ≤ maxLen) (hsmall : n ≤ 60) (w : World) (hI : Nums w w.heap.size A l) :
    Calls Try.prog 17 #[.slice A n c] w fun e w' => ∃ A' c' ns xs, e = .returned (.slice A' ns.length c') ∧ ns.length ≤ 60 ∧ ns.length ≤ n ∧ right ns = true ∧ w'.ownsRow w.heap.size 35 16 (.slice A' ns.length c') ns.length xs ∧ NCell0 xs ns ∧ Below w.heap.size w w' := by
  unfold maxLen at hcm
  obtain ⟨i0, hi0, hz0, hz1, hz2⟩ := info_parts infoNodeF
  have HN := Lib.hid hn
  clear hn
  · go_enter Try.func17, Try.ntmps17
    have hin : (n : Int) ≤ 60 := by omega
    go_wp2_with fail
    go_loopw [3, 14] (fun v i wr => ∃ (k : Nat) (ns : List N) (xs : List Value), k ≤ n ∧ i = .int .i64 k ∧ ns.length = k ∧ right ns = true ∧ wr.ownsRow w.heap.size 35 16 v k xs ∧ NCell0 xs ns ∧ Below w.heap.size w wr) (fun _ i _ => n - (intOf i).toNat)
    case atStart => exact ⟨0, [], [], Nat.zero_le _, rfl, rfl, rfl, ⟨rfl, .inl ⟨rfl, rfl⟩⟩, NCell0.nil, Below.refl _ _⟩
    case round =>
      obtain ⟨k, ns, xs, hk, rfl, hlen, hr, hown, hNC, hB⟩ := hrel
      by_cases hlt : k < n
      · have hkl : k < l.length := by have := HN.out; omega
        obtain ⟨b, o, rfl, hbl, hc0⟩ := hI.at_ hkl
        have hc : wr.cell? ⟨b, o + k, none⟩ = some (.int .i64 l[k]) := (hB.cell (p := ⟨b, _, none⟩) hbl).trans hc0
        generalize l[k] = x at *
        have hbs := hB.size
        have HLEN := Lib.hid hlen
        clear hc0
        obtain ⟨A1, cp1, rfl⟩ := own_form hown
        have hNN := (own_nodes hown hNC.1).2.2.2
        have HR := Lib.hid hr
        have HNC := Lib.hid hNC
        obtain ⟨ow, how⟩ := mask_rem x k
        generalize hfl : bits BinOp.and IntKind.i64 (x / 256) 1 = fl
        have HFL := Lib.hid hfl
        clear hr hNC hlen
        have hal0 := (hown.alloc (.cells (nodeCells fl (-1)).toArray 35)).alloc (.cells (nodeCells fl (-1)).toArray 35)
        have hBa := ((Below.refl w.heap.size wr).alloc hbs (.cells (nodeCells fl (-1)).toArray 35)).alloc (by simp; omega) (.cells (nodeCells fl (-1)).toArray 35)
        have hnew := heap_alloc_new (wr.alloc (.cells (nodeCells fl (-1)).toArray 35)) (.cells (nodeCells fl (-1)).toArray 35)
        have hone := nodeCells_one fl (-1)
        unfold nodeCells at hal0 hBa hnew
        simp only [World.size_alloc] at hnew
        by_cases ho : ow < k
        · obtain ⟨b2, o2, rfl, hb2l, hfc⟩ := hNN.flow_at (j := ow) (by rw [HLEN.out]; exact ho)
          generalize hff : flow ns ow = ff at hfc
          have HFF := Lib.hid hff
          have hne : ¬ b2 = wr.heap.size := by omega
          clear hff
          go_wp2_with fail
          have hSg : ∀ X : Obj, (wr.alloc X).drew.cell? ⟨b2, o2 + ow * 16 + 3, none⟩ = some (.int .i64 ff) := fun X => ((Below.refl wr.heap.size wr).alloc (Nat.le_refl _) X |>.cell (p := ⟨b2, _, none⟩) hb2l).trans hfc
          have HSG := Lib.hid hSg
          have hS := hSg (.cells (nodeCells fl (-1)).toArray 35)
          unfold nodeCells at hS
          clear hSg
          refine wp_region_heldG [] (fun _ W => W.cell? ⟨b2, o2 + ow * 16 + 3, none⟩ = some (.int .i64 ff)) (by kernel_rfl) ?_
          change wpAnyG _ _ _ _ _ _ 10 _ _ (World.drew _)
          refine g_take (i := 0) rfl rfl (by kernel_rfl) (by kernel_rfl) (by kernel_rfl) (by kernel_rfl) (by kernel_rfl) (fun _ _ _ h => h) hS (fun L W hL hW => by go_simp; rfl) ?_
          refine g_take (i := 1) rfl rfl (by kernel_rfl) (by kernel_rfl) (by kernel_rfl) (by kernel_rfl) (by kernel_rfl) (fun _ _ _ h => h) hS (fun L W hL hW => by go_simp; rfl) ?_
          refine g_take (i := 2) rfl rfl (by kernel_rfl) (by kernel_rfl) (by kernel_rfl) (by kernel_rfl) (by kernel_rfl) (fun _ _ _ h => h) hS (fun L W hL hW => by go_simp; rfl) ?_
          refine g_take (i := 3) rfl rfl (by kernel_rfl) (by kernel_rfl) (by kernel_rfl) (by kernel_rfl) (by kernel_rfl) (fun _ _ _ h => h) hS (fun L W hL hW => by go_simp; rfl) ?_
          refine g_take (i := 4) rfl rfl (by kernel_rfl) (by kernel_rfl) (by kernel_rfl) (by kernel_rfl) (by kernel_rfl) (fun _ _ _ h => h) hS (fun L W hL hW => by go_simp; rfl) ?_
          refine g_take (i := 5) rfl rfl (by kernel_rfl) (by kernel_rfl) (by kernel_rfl) (by kernel_rfl) (by kernel_rfl) (fun _ _ _ h => h) hS (fun L W hL hW => by go_simp; rfl) ?_
          refine g_take (i := 6) rfl rfl (by kernel_rfl) (by kernel_rfl) (by kernel_rfl) (by kernel_rfl) (by kernel_rfl) (fun _ _ _ h => h) hS (fun L W hL hW => by go_simp; rfl) ?_
          refine g_one (i := 7) rfl rfl (by kernel_rfl) fun K hK => ?_
          go_simp
          refine hK _ _ (HSG.out _) ?_
          clear hK K hS
          have hS := HSG.out (.cells (nodeCells fl ow).toArray 35)
          unfold nodeCells at hS
          refine g_take (i := 8) rfl rfl (by kernel_rfl) (by kernel_rfl) (by kernel_rfl) (by kernel_rfl) (by kernel_rfl) (fun _ _ _ h => h) hS (fun L W hL hW => by go_simp; rfl) ?_
          refine g_one (i := 9) rfl rfl (by kernel_rfl) fun K hK => ?_
          go_simp
          refine hK _ _ (HSG.out _) ?_
          clear hK K hS
          refine wpAnyG_done (by kernel_rfl) ?_ _
          have hal := ((hown.alloc (.cells (nodeCells ff ow).toArray 35)).alloc (.cells (nodeCells ff ow).toArray 35)).drew
          have hBc := (((Below.refl w.heap.size wr).alloc hbs (.cells (nodeCells ff ow).toArray 35)).alloc (by simp; omega) (.cells (nodeCells ff ow).toArray 35)).drew
          have hnew2 := heap_alloc_new (wr.alloc (.cells (nodeCells ff ow).toArray 35)) (.cells (nodeCells ff ow).toArray 35)
          have hone2 := nodeCells_one ff ow
          unfold nodeCells at hal hBc hnew2
          simp only [World.size_alloc] at hnew2
          clear hal0 hBa hnew hone HSG
          go_wp2_with (at_builtin; refine (fun (h : ∀ _ : Unit, _) => h ()) ?_)
          intro _
          refine wpList_append_lies _ rfl (.tmp 40) (.tmp 42) _ rfl w.heap.size 35 i0 _ 16 184 Try.underlying23 hi0 hz0 hz1 hz2 rfl (by omega) _ k _ rfl hal ⟨wr.heap.size + 1, 0, none⟩ 1 1 (nodeCells ff ow) rfl rfl (World.news_of_block hnew2) hone2 (by omega) (by unfold maxLen; omega) (by omega) (by rw [World.size_drew]; simp; omega) (wr.heap.size + 1 + 1) (by rw [World.size_drew]; simp) ?_
          intro g cap w2 hown2 hgrow _ _
          have hB2 := hB.trans (hBc.grown hgrow (by rw [World.size_drew]; simp; omega) (fun j hj => (own_row hal hj).1))
          have R1 : Hid (NCell0 (xs ++ nodeCells ff ow) (ns ++ [((ow : Int), ff)])) := Lib.hid (HNC.out.snoc rfl rfl rfl hone2 rfl (by rw [← HFF.out]; exact HNC.out.2.2 ow (by rw [HLEN.out]; exact ho)))
          have R2 : Hid (right (ns ++ [((ow : Int), ff)]) = true) := Lib.hid (right_snoc HR.out (.inr ⟨Int.natCast_nonneg _, by rw [HLEN.out]; exact Int.ofNat_lt.2 ho, HFF.out.symm⟩))
          have R3 : Hid ((ns ++ [((ow : Int), ff)]).length = k + 1) := Lib.hid (by simp [HLEN.out])
          clear hgrow hal hnew2 hBc hone2 HNC hB hown HFL HFF hfc hNN
          go_wp2
          go_roundw
          case rel => exact ⟨k + 1, ns ++ [((ow : Int), ff)], _, by omega, by go_num, R3.out, R2.out, hown2, R1.out, hB2⟩
          case measure => simp [intOf]; omega
        · clear hNN
          go_wp2_with (at_builtin; refine (fun (h : ∀ _ : Unit, _) => h ()) ?_)
          intro _
          refine wpList_append_lies _ rfl (.tmp 40) (.tmp 42) _ rfl w.heap.size 35 i0 _ 16 184 Try.underlying23 hi0 hz0 hz1 hz2 rfl (by omega) _ k _ rfl hal0 ⟨wr.heap.size + 1, 0, none⟩ 1 1 (nodeCells fl (-1)) rfl rfl (World.news_of_block hnew) hone (by omega) (by unfold maxLen; omega) (by omega) (by simp; omega) (wr.heap.size + 1 + 1) (by simp) ?_
          intro g cap w2 hown2 hgrow _ _
          have hB2 := hB.trans (hBa.grown hgrow (by simp; omega) (fun j hj => (own_row hal0 hj).1))
          have R1 : Hid (NCell0 (xs ++ nodeCells fl (-1)) (ns ++ [(-1, fl)])) := Lib.hid (HNC.out.snoc rfl rfl rfl hone rfl (by rw [← HFL.out]; exact mask1_wf _))
          have R2 : Hid (right (ns ++ [(-1, fl)]) = true) := Lib.hid (right_snoc HR.out (.inl rfl))
          have R3 : Hid ((ns ++ [((-1 : Int), fl)]).length = k + 1) := Lib.hid (by simp [HLEN.out])
          clear hgrow hal0 hnew hBa hone HNC hB hown HFL
          go_wp2
          go_roundw
          case rel => exact ⟨k + 1, ns ++ [(-1, fl)], _, by omega, by go_num, R3.out, R2.out, hown2, R1.out, hB2⟩
          case measure => simp [intOf]; omega
      · obtain rfl : k = n := by omega
        try simp only [Int.cast_ofNat_Int]
        obtain ⟨A1, cp1, rfl⟩ := own_form hown
        go_wp2_with fail
        go_ret
        exact ⟨A1, cp1, ns, xs, by rw [hlen]; rfl, by omega, by omega, hr, by rw [hlen]; exact hown, hNC, hB⟩

theorem nforest_any (A : Option Addr) (c : Nat) (l : List Int) (n : Nat) (hn : n = l.length) (hnc : n ≤ c) (hcm : c ≤ maxLen) (w : World) (hI : Nums w w.heap.size A l) :
    Calls Try.prog 17 #[.slice A n c] w fun e w' => ∃ A' c' ns xs, e = .returned (.slice A' ns.length c') ∧ ns.length ≤ 60 ∧ ns.length ≤ n ∧ right ns = true ∧ w'.ownsRow w.heap.size 35 16 (.slice A' ns.length c') ns.length xs ∧ NCell0 xs ns ∧ Below w.heap.size w w' := by
  rcases Nat.lt_or_ge 60 n with h | h
  · exact nforest_big A c l n hn hnc hcm h w hI
  · exact nforest_small A c l n hn hnc hcm h w hI
end Go.Proofs.Ytifmnoepifgaiaa.NmW
