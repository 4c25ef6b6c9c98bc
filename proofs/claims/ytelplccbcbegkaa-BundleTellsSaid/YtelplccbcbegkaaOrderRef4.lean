/-
  The document's order: within.
-/
import Derived.Test.YtelplccbcbegkaaOrderRef3
import Derived.Test.YtelplccbcbegkaaOrderRefPl
namespace Go.Proofs.Ytelplccbcbegkaa.OrW
set_option linter.unusedVariables false
open Go Go.RowKit Go.Proofs Go.Proofs.Ytelplccbcbegkaa Go.Proofs.Ytelplccbcbegkaa.Wd Go.Proofs.Ytelplccbcbegkaa.GrW Go.Proofs.Ytelplccbcbegkaa.Ord
open Go.Proofs.Ytelplccbcbegkaa.Gr (OK putL outs intos Path edgesTo ev)

theorem results_cell_row1 {P : Program} {fn : Func} {p : Tmp} {ty : TypeId} (h : fn.results = #[.cell p ty]) (tmps : Array Value) (w : World) (g : Nat) (te : TypeId) (cs : Array Value) (fr : Nat × Nat) (d : TypeDesc)
    (hp : tmps.getD p undef = .pointer (some ⟨g, 0, none⟩)) (hg : w.heap[g]? = some (.cells cs te fr))
    (hu : P.underlying ty = some d) (hd : (match d with | .struct _ | .array _ _ => true | _ => false) = true) (hi : (P.info? ty).map (·.size) = some cs.size) :
    (results fn tmps).run P w = .ok (.agg cs) w := by
  have hp' : tmps[p]?.getD undef = .pointer (some ⟨g, 0, none⟩) := by simpa using hp
  simp [results, h, hp', asAddr, run_loadVar_row w g te ty cs fr d hg hu hd hi]
theorem idx_perm {n : Nat} {P V : List Nat} (hP : Perm n P V) {v : Nat} (hv : v < n) : idx (zs V) (v : Int) = (P.getD v 0 : Nat) := by
  obtain ⟨h1, h2⟩ := hP.pa v hv
  have hl : P.getD v 0 < (zs V).length := by rw [zs_length, hP.la]; exact h1
  refine idx_hit hl (by rw [zs_getD (by rw [hP.la]; exact h1), h2]) fun t ht => ?_
  rw [zs_getD (by rw [hP.la]; omega)]
  intro e
  have e2 : V.getD t 0 = V.getD (P.getD v 0) 0 := by rw [h2]; omega
  have := hP.injA (by omega) h1 e2
  omega
theorem idx_none {n : Nat} {P V : List Nat} (hP : Perm n P V) {v : Int} (hv : isV n v = false) : idx (zs V) v = -1 := by
  refine idx_miss fun t ht e => ?_
  rw [zs_length, hP.la] at ht
  rw [zs_getD (by rw [hP.la]; exact ht)] at e
  have := (hP.ap t ht).1
  have h2 : isV n v = true := by rw [← e]; unfold isV; rw [Bool.and_eq_true, decide_eq_true_eq, decide_eq_true_eq]; exact ⟨by omega, by omega⟩
  rw [hv] at h2; cases h2
/-- An edge between two places. -/
def inE (P : List Nat) (low high : Nat) (x : Int × Int) : Bool := inB P low high x.1 && inB P low high x.2
theorem inE_nat {P : List Nat} {low high a b : Nat} : inE P low high ((a : Int), (b : Int)) = true ↔ (low ≤ P.getD a 0 ∧ P.getD a 0 ≤ high) ∧ low ≤ P.getD b 0 ∧ P.getD b 0 ≤ high := by
  unfold inE
  rw [Bool.and_eq_true, inB_nat, inB_nat]
theorem take_in {E : List (Int × Int)} {j : Nat} (h : j < E.length) (f : Int × Int → Bool) : (E.take (j + 1)).filter f = (E.take j).filter f ++ if f E[j] = true then [E[j]] else [] := by
  rw [List.take_succ_eq_append_getElem h, List.filter_append]
  congr 1
  by_cases e : f E[j] = true
  · rw [if_pos e]; simp [e]
  · rw [if_neg e]; simp [Bool.eq_false_iff.2 e]
/-- What within answers. -/
def WithinOut (w : World) (n : Nat) (E : List (Int × Int)) (e : Ending) (w' : World) : Prop := ∃ A' q' c', e = .returned (rv n A' q' c') ∧ Below w.heap.size w w' ∧ w'.ownsRow w.heap.size 34 2 (.slice A' q' c') q' (ev E)
/-- While within goes on: its boxes, and the row so far. -/
structure WI (w wr : World) (n : Nat) (A : Option Addr) (q c : Nat) (Am : Option Addr) (cm : Nat) (v : Value) (m : Nat) (E : List (Int × Int)) : Prop where
  low : Below w.heap.size w wr
  b0 : Blk wr w.heap.size 55 #[.int .i64 (n : Int), .slice A q c, .slice Am n cm]
  b1 : Blk wr (w.heap.size + 1) 53 #[.int .i64 0, .slice none 0 0]
  b2 : Blk wr (w.heap.size + 2) 53 #[.int .i64 (n : Int), v]
  row : wr.ownsRow (w.heap.size + 3) 34 2 v m (ev E)
  len : m = E.length
section
variable {w wr w' : World} {n : Nat} {A : Option Addr} {q c : Nat} {Am : Option Addr} {cm : Nat} {v : Value} {m : Nat} {E : List (Int × Int)}
theorem WI.below (h : WI w wr n A q c Am cm v m E) (hb : Below wr.heap.size wr w') : WI w w' n A q c Am cm v m E :=
  ⟨h.low.trans (hb.mono h.low.size), h.b0.below hb h.b0.lt, h.b1.below hb h.b1.lt, h.b2.below hb h.b2.lt, own_belowW h.row hb, h.len⟩
theorem WI.push (h : WI w wr n A q c Am cm v m E) {x : Int × Int} {V : Value} (ho : w'.ownsRow (w.heap.size + 3) 34 2 V (m + 1) (ev (E ++ [x]))) (hg : wr.grownBy w' v.ownBlock) : WI w (w'.setCell ⟨w.heap.size + 2, 1, none⟩ V) n A q c Am cm V (m + 1) (E ++ [x]) := by
  have far : ∀ b, v.ownBlock = some b → w.heap.size + 3 ≤ b := fun b hb => (own_row h.row hb).1
  have far2 : ∀ b, V.ownBlock = some b → w.heap.size + 3 ≤ b := fun b hb => (own_row ho hb).1
  refine ⟨(h.low.grown hg h.low.size (fun b hb => by have := far b hb; omega)).setCell (p := ⟨w.heap.size + 2, 1, none⟩) (Nat.le_add_right _ _) _, (h.b0.grown hg (fun e => by have := far _ e.symm; omega)).farN (by omega) _, (h.b1.grown hg (fun e => by have := far _ e.symm; omega)).farN (by omega) _, (h.b2.grown hg (fun e => by have := far _ e.symm; omega)).set_ 1 V, own_far ho (fun e => by have := far2 (w.heap.size + 2) e; omega) _, by rw [List.length_append, h.len]; rfl⟩
end
set_option maxRecDepth 100000 in
set_option maxHeartbeats 8000000 in
theorem withinR_any (w : World) (n : Nat) (hn : n ≤ 30000) (L : List (List Int)) (ok : OK n L) (P V : List Nat) (hP : Perm n P V) (A : Option Addr) (q c : Nat) (hq : q = (edgesTo L n).length) (hqc : q ≤ c) (hcm : c ≤ maxLen) (hbig : q ≤ 1000000) (hE : EdgesAt w w.heap.size A (edgesTo L n)) (Am : Option Addr) (cm : Nat) (hI : Nums w w.heap.size Am (zs V)) (low high : Nat) :
    Calls Try.prog 62 #[ov n A q c Am n cm, .int .i64 (low : Int), .int .i64 (high : Int)] w (WithinOut w n (edgesTo (wL n L P low high) n)) := by
  have hB0 : Below w.heap.size w ((w.alloc (.cells #[.int .i64 (n : Int), .slice A q c, .slice Am n cm] 55)).alloc (.cells #[.int .i64 0, .slice none 0 0] 53)) := ((Below.refl _ w).alloc (Nat.le_refl _) _).alloc (by simp) _
  have hX : Blk ((w.alloc (.cells #[.int .i64 (n : Int), .slice A q c, .slice Am n cm] 55)).alloc (.cells #[.int .i64 0, .slice none 0 0] 53)) w.heap.size 55 #[.int .i64 (n : Int), .slice A q c, .slice Am n cm] := (Blk.new_ w _ _ rfl).alloc _
  have hZ : Blk ((w.alloc (.cells #[.int .i64 (n : Int), .slice A q c, .slice Am n cm] 55)).alloc (.cells #[.int .i64 0, .slice none 0 0] 53)) (w.heap.size + 1) 53 #[.int .i64 0, .slice none 0 0] := Blk.new_ _ _ _ (by simp)
  have c0 := hX.at_ 0 rfl
  have HW0 : Hid (WI w (((w.alloc (.cells #[.int .i64 (n : Int), .slice A q c, .slice Am n cm] 55)).alloc (.cells #[.int .i64 0, .slice none 0 0] 53)).alloc (.cells #[.int .i64 (n : Int), .slice none 0 0] 53)) n A q c Am cm (.slice none 0 0) 0 (((edgesTo L n).take 0).filter (inE P low high))) := Lib.hid ⟨hB0.alloc (by simp; omega) _, hX.alloc _, hZ.alloc _, Blk.new_ _ _ _ (by simp), World.ownsRow_nil _ _ _ _, rfl⟩
  have HP := Lib.hid hP
  have HE := Lib.hid hE
  have HI := Lib.hid hI
  have HOK := Lib.hid ok
  have HQ := Lib.hid hq
  have HFE : Hid (edgesTo (wL n L P low high) n = (edgesTo L n).filter (inE P low high)) := Lib.hid (wL_edges n (Nat.le_refl n))
  have HLV : Hid (n = (zs V).length) := Lib.hid (by rw [zs_length, hP.la])
  clear hB0 hX hZ hP hE hI ok hq
  unfold maxLen at hcm
  unfold ov
  go_enter Try.func62, Try.ntmps62
  go_wp2_with fail
  clear c0
  go_loopw [8] (fun ix wr => ∃ j : Nat, j ≤ q ∧ ix = .int .i64 j ∧ Hid (∃ v m, m ≤ j ∧ WI w wr n A q c Am cm v m (((edgesTo L n).take j).filter (inE P low high)))) (fun ix _ => q - (intOf ix).toNat)
  case atStart => exact ⟨0, Nat.zero_le _, rfl, Lib.hid ⟨_, 0, Nat.le_refl _, HW0.out⟩⟩
  case round =>
    obtain ⟨j, hj, rfl, HS⟩ := hrel
    clear HW0
    obtain ⟨v, mr, hmj, hW⟩ := HS.out
    clear HS
    have HW := Lib.hid hW
    have d1 := hW.b0.at_ 1 rfl
    by_cases hlt : j < q
    · have hjl : j < (edgesTo L n).length := by have := HQ.out; omega
      obtain ⟨b, off, rfl, hb, p1, p2⟩ := HE.out j hjl
      obtain ⟨x, y, hxy, hx, hy, -⟩ := Gr.edge_of HOK.out hjl
      have HTK := Lib.hid (take_in hjl (inE P low high))
      rw [hxy] at p1 p2
      rw [hxy] at HTK
      have q1 := (hW.low.cell (p := ⟨b, _, none⟩) hb).trans p1
      have q2 := (hW.low.cell (p := ⟨b, _, none⟩) hb).trans p2
      have HIX := Lib.hid (idx_perm HP.out hx)
      have HIY := Lib.hid (idx_perm HP.out hy)
      have HNE : Hid (inE P low high ((x : Int), (y : Int)) = true ↔ (low ≤ P.getD x 0 ∧ P.getD x 0 ≤ high) ∧ low ≤ P.getD y 0 ∧ P.getD y 0 ≤ high) := Lib.hid inE_nat
      generalize inE P low high ((x : Int), (y : Int)) = bi at *
      generalize P.getD x 0 = px at HIX HNE
      generalize P.getD y 0 = py at HIY HNE
      have i1 : (0 : Int) ≤ (j : Int) := by omega
      have i2 : (j : Int) < (q : Int) := by omega
      have HBX := Lib.hid (Blk.new_ wr 34 #[.int .i64 (x : Int), .int .i64 (y : Int)] rfl)
      have HWa := Lib.hid (hW.below ((Below.refl _ wr).alloc (Nat.le_refl _) (.cells #[.int .i64 (x : Int), .int .i64 (y : Int)] 34)))
      clear hxy p1 p2 hb hjl hW HW
      go_upto_region 6 with fail
      generalize hwx : wr.alloc (.cells #[.int .i64 (x : Int), .int .i64 (y : Int)] 34) = wx at *
      generalize hbx : wr.heap.size = bx at *
      clear d1 q1 q2 hwx
      have HCL : Hid (∀ W, Below wx.heap.size wx W → W.cell? ⟨w.heap.size, 0, none⟩ = some (.int .i64 (n : Int)) ∧ W.cell? ⟨w.heap.size, 1, none⟩ = some (.slice (some ⟨b, off, none⟩) q c) ∧ W.cell? ⟨w.heap.size, 2, none⟩ = some (.slice Am n cm) ∧ W.cell? ⟨bx, 0, none⟩ = some (.int .i64 (x : Int)) ∧ W.cell? ⟨bx, 1, none⟩ = some (.int .i64 (y : Int))) := Lib.hid (fun W hW => ⟨(HWa.out.b0.below hW HWa.out.b0.lt).at_ 0 rfl, (HWa.out.b0.below hW HWa.out.b0.lt).at_ 1 rfl, (HWa.out.b0.below hW HWa.out.b0.lt).at_ 2 rfl, (HBX.out.below hW HBX.out.lt).at_ 0 rfl, (HBX.out.below hW HBX.out.lt).at_ 1 rfl⟩)
      have hS : Below wx.heap.size wx wx.drew := (Below.refl _ wx).drew
      refine wp_region_heldG [] (fun _ W => Below wx.heap.size wx W) (by kernel_rfl) ?_
      change wpAnyG _ _ _ _ _ _ 10 _ _ wx.drew
      refine g_take (i := 0) rfl rfl (by kernel_rfl) (by kernel_rfl) (by kernel_rfl) (by kernel_rfl) (by kernel_rfl) (fun _ _ _ h => h) hS (fun L' W' hL hW => by obtain ⟨k0, k1, k2, k3, k4⟩ := HCL.out _ hW; go_simp; rfl) ?_
      refine g_take (i := 1) rfl rfl (by kernel_rfl) (by kernel_rfl) (by kernel_rfl) (by kernel_rfl) (by kernel_rfl) (fun _ _ _ h => h) hS (fun L' W' hL hW => by go_simp; rfl) ?_
      refine g_take (i := 2) rfl rfl (by kernel_rfl) (by kernel_rfl) (by kernel_rfl) (by kernel_rfl) (by kernel_rfl) (fun _ _ _ h => h) hS (fun L' W' hL hW => by obtain ⟨k0, k1, k2, k3, k4⟩ := HCL.out _ hW; go_simp; rfl) ?_
      refine g_take (i := 4) rfl rfl (by kernel_rfl) (by kernel_rfl) (by kernel_rfl) (by kernel_rfl) (by kernel_rfl) (fun _ _ _ h => h) hS (fun L' W' hL hW => by obtain ⟨k0, k1, k2, k3, k4⟩ := HCL.out _ hW; go_simp; rfl) ?_
      refine g_take (i := 5) rfl rfl (by kernel_rfl) (by kernel_rfl) (by kernel_rfl) (by kernel_rfl) (by kernel_rfl) (fun _ _ _ h => h) hS (fun L' W' hL hW => by go_simp; rfl) ?_
      refine g_take (i := 6) rfl rfl (by kernel_rfl) (by kernel_rfl) (by kernel_rfl) (by kernel_rfl) (by kernel_rfl) (fun _ _ _ h => h) hS (fun L' W' hL hW => by obtain ⟨k0, k1, k2, k3, k4⟩ := HCL.out _ hW; go_simp; rfl) ?_
      refine g_one (i := 3) rfl rfl (by kernel_rfl) fun K' hK => ?_
      go_simp
      refine Calls.mono (placeR_any _ n (some ⟨b, off, none⟩) q c Am n cm (zs V) HLV.out hn (((Nums.below HI.out HWa.out.low).more HWa.out.low.size).grow hS) (x : Int)) ?_
      rintro e wsx ⟨rfl, Bx⟩
      rw [HIX.out]
      have hS : Below wx.heap.size wx wsx := hS.trans (Bx.mono hS.size)
      refine hK _ _ hS ?_
      clear hK K' Bx
      refine g_one (i := 7) rfl rfl (by kernel_rfl) fun K' hK => ?_
      go_simp
      refine Calls.mono (placeR_any _ n (some ⟨b, off, none⟩) q c Am n cm (zs V) HLV.out hn (((Nums.below HI.out HWa.out.low).more HWa.out.low.size).grow hS) (y : Int)) ?_
      rintro e wsy ⟨rfl, By⟩
      rw [HIY.out]
      have hS : Below wx.heap.size wx wsy := hS.trans (By.mono hS.size)
      refine hK _ _ hS ?_
      clear hK K' By
      refine g_take (i := 8) rfl rfl (by kernel_rfl) (by kernel_rfl) (by kernel_rfl) (by kernel_rfl) (by kernel_rfl) (fun _ _ _ h => h) hS (fun L' W' hL hW => by go_simp; rfl) ?_
      refine g_take (i := 9) rfl rfl (by kernel_rfl) (by kernel_rfl) (by kernel_rfl) (by kernel_rfl) (by kernel_rfl) (fun _ _ _ h => h) hS (fun L' W' hL hW => by go_simp; rfl) ?_
      refine wpAnyG_done (by kernel_rfl) ?_ _
      have HWb := Lib.hid (HWa.out.below hS)
      have HBY := Lib.hid (HBX.out.below hS HBX.out.lt)
      clear HWa HBX HCL
      clear hS
      clear HIX HIY
      go_simp
      by_cases h1 : (low : Int) ≤ (px : Int)
      · by_cases h2 : (px : Int) ≤ (high : Int)
        · by_cases h3 : (low : Int) ≤ (py : Int)
          · by_cases h4 : (py : Int) ≤ (high : Int)
            · have hbi := HNE.out.2 ⟨⟨by omega, by omega⟩, by omega, by omega⟩
              have HTK2 := Lib.hid (HTK.out.trans (by rw [if_pos hbi]))
              have HBI := Lib.hid hbi
              have b0 := HBY.out.at_ 0 rfl
              have b1 := HBY.out.at_ 1 rfl
              have e1 := HWb.out.b2.at_ 1 rfl
              clear HTK HNE hbi
              go_wp2_with (at_builtin; refine wpList_edge rfl (.tmp 57) (.tmp 59) rfl (w.heap.size + 3) v mr _ rfl (HWb.out.row.alloc _) wsy.heap.size ((x : Int), (y : Int)) rfl (Blk.new_ _ _ _ (by simp)) (by omega) (by have := HWb.out.b2.lt; simp; omega) ?_)
              intro g2 cap w7 ho7 hg7
              have HW7 := Lib.hid ((HWb.out.below ((Below.refl _ _).alloc (Nat.le_refl _) (.cells #[.int .i64 (x : Int), .int .i64 (y : Int)] 34))).push ho7 hg7)
              have f7 : w7.frozen? ⟨w.heap.size + 2, 1, none⟩ = false := ((HWb.out.b2.alloc (.cells #[.int .i64 (x : Int), .int .i64 (y : Int)] 34)).grown hg7 (fun e => by have := (own_row HWb.out.row e.symm).1; omega)).frozen 1
              have f8 := ((HWb.out.b2.alloc (.cells #[.int .i64 (x : Int), .int .i64 (y : Int)] 34)).grown hg7 (fun e => by have := (own_row HWb.out.row e.symm).1; omega)).at_ 1 rfl
              clear ho7 hg7 b0 b1 e1
              have HN : Hid (∃ v m, m ≤ j + 1 ∧ WI w (w7.setCell ⟨w.heap.size + 2, 1, none⟩ (.slice (some ⟨g2, 0, none⟩) (mr + 1) cap)) n (some ⟨b, off, none⟩) q c Am cm v m (((edgesTo L n).take (j + 1)).filter (inE P low high))) := Lib.hid ⟨_, mr + 1, by omega, by rw [HTK2.out]; exact HW7.out⟩
              clear HW7 HWb HBY HTK2
              go_wp2_with fail
              go_roundw
              case rel => exact ⟨j + 1, by omega, by go_num, HN⟩
              case measure => simp [intOf]; omega
            · have HN : Hid (∃ v m, m ≤ j + 1 ∧ WI w wsy n (some ⟨b, off, none⟩) q c Am cm v m (((edgesTo L n).take (j + 1)).filter (inE P low high))) := Lib.hid ⟨v, mr, by omega, by rw [HTK.out, if_neg (fun e => by have := (HNE.out.1 e).2.2; omega), List.append_nil]; exact HWb.out⟩
              clear HWb HBY HTK HNE
              go_wp2_with fail
              go_roundw
              case rel => exact ⟨j + 1, by omega, by go_num, HN⟩
              case measure => simp [intOf]; omega
          · have HN : Hid (∃ v m, m ≤ j + 1 ∧ WI w wsy n (some ⟨b, off, none⟩) q c Am cm v m (((edgesTo L n).take (j + 1)).filter (inE P low high))) := Lib.hid ⟨v, mr, by omega, by rw [HTK.out, if_neg (fun e => by have := (HNE.out.1 e).2.1; omega), List.append_nil]; exact HWb.out⟩
            clear HWb HBY HTK HNE
            go_wp2_with fail
            go_roundw
            case rel => exact ⟨j + 1, by omega, by go_num, HN⟩
            case measure => simp [intOf]; omega
        · have HN : Hid (∃ v m, m ≤ j + 1 ∧ WI w wsy n (some ⟨b, off, none⟩) q c Am cm v m (((edgesTo L n).take (j + 1)).filter (inE P low high))) := Lib.hid ⟨v, mr, by omega, by rw [HTK.out, if_neg (fun e => by have := (HNE.out.1 e).1.2; omega), List.append_nil]; exact HWb.out⟩
          clear HWb HBY HTK HNE
          go_wp2_with fail
          go_roundw
          case rel => exact ⟨j + 1, by omega, by go_num, HN⟩
          case measure => simp [intOf]; omega
      · have HN : Hid (∃ v m, m ≤ j + 1 ∧ WI w wsy n (some ⟨b, off, none⟩) q c Am cm v m (((edgesTo L n).take (j + 1)).filter (inE P low high))) := Lib.hid ⟨v, mr, by omega, by rw [HTK.out, if_neg (fun e => by have := (HNE.out.1 e).1.1; omega), List.append_nil]; exact HWb.out⟩
        clear HWb HBY HTK HNE
        go_wp2_with fail
        go_roundw
        case rel => exact ⟨j + 1, by omega, by go_num, HN⟩
        case measure => simp [intOf]; omega
    · have hjq : j = q := by omega
      subst hjq
      have HFIN : Hid (((edgesTo L n).take j).filter (inE P low high) = edgesTo (wL n L P low high) n) := Lib.hid (by rw [HFE.out, List.take_of_length_le (by have := HQ.out; omega)])
      rw [HFIN.out] at hW
      have HW2 := Lib.hid hW
      obtain ⟨A', c', hv⟩ := own_form hW.row
      subst hv
      have i2 : ¬ (j : Int) < (j : Int) := by omega
      have y0 := hW.b2.at_ 0 rfl
      have y1 := hW.b2.at_ 1 rfl
      have z0 := hW.b1.at_ 0 rfl
      have f0 := hW.b1.frozen 0
      have k1 := hW.b1.set_ 0 (.int .i64 (n : Int))
      have z1 := k1.at_ 1 rfl
      have f1 := k1.frozen 1
      have K2 := Lib.hid (k1.set_ 1 (.slice A' mr c'))
      have HEND : Hid (WithinOut w n (edgesTo (wL n L P low high) n) (.returned (rv n A' mr c')) ((wr.setCell ⟨w.heap.size + 1, 0, none⟩ (.int .i64 (n : Int))).setCell ⟨w.heap.size + 1, 1, none⟩ (.slice A' mr c'))) := Lib.hid (by
        have far : (Value.slice A' mr c').ownBlock ≠ some (w.heap.size + 1) := fun e => by have := (own_row hW.row e).1; omega
        exact ⟨A', mr, c', rfl, (hW.low.setCell (p := ⟨w.heap.size + 1, 0, none⟩) (Nat.le_add_right _ _) _).setCell (p := ⟨w.heap.size + 1, 1, none⟩) (Nat.le_add_right _ _) _, own_base (own_far (own_far hW.row far _) far _) (by omega)⟩)
      clear hW k1 HW HW2 HFIN
      go_wp2_with fail
      refine bodyPost_ret (results_cell_row1 rfl _ _ (w.heap.size + 1) 53 #[.int .i64 (n : Int), .slice A' mr c'] (0, 0) _ rfl K2.out.out Try.underlying53 rfl (by kernel_rfl)) rfl ?_
      exact HEND.out
end Go.Proofs.Ytelplccbcbegkaa.OrW
