/-
  The walk of GraphSorts.
-/
import Derived.Test.YtclbpohhmaojcaaGraphSortsPl
namespace Go.Proofs.Ytclbpohhmaojcaa.GrW
set_option linter.unusedVariables false
open Go Go.RowKit Go.Proofs Go.Proofs.Ytclbpohhmaojcaa Go.Proofs.Ytclbpohhmaojcaa.Wd
open Go.Proofs.Ytclbpohhmaojcaa.Gr (OK ofL IsR outs intos Cyc ev edgesTo Topo Free AtR left0)

theorem len_g {w : World} {base g n : Nat} {F : Nat → Prop} {L : List (List Int)} (h : GAt w base F g n L) : Calls Try.prog 17 #[.pointer (some ⟨g, 0, none⟩)] w fun e w' => e = .returned (.int .i64 n) ∧ w = w' := by
  obtain ⟨r, c, hH, -⟩ := h.head
  exact len_any w g r n c hH
set_option maxRecDepth 100000 in
set_option maxHeartbeats 8000000 in
theorem sorts_walk (nb : Nat) (hnb : nb < 256) (A : Option Addr) (c : Nat) (l : List (Int × Int)) (n : Nat) (hn : n = l.length) (hnc : n ≤ c) (hcm : c ≤ maxLen) (w : World) (hI : EdgesAt w w.heap.size A l) :
    Calls Try.prog 5 #[.int .u8 nb, .slice A n c] w fun e w' => e = .returned (.bool true) ∧ Below w.heap.size w w' := by
  have HOF := Lib.hid (of_any nb hnb A c l n hn hnc hcm w hI)
  have hok0 := OK.ofL (many := manyOf nb) (by unfold manyOf; omega) (l.take 80)
  have hM0 : manyOf nb ≤ 31 ∧ 2 ≤ manyOf nb := by unfold manyOf; omega
  generalize ofL (manyOf nb) (l.take 80) = L at *
  generalize manyOf nb = M at *
  obtain ⟨hM31, hM2⟩ := hM0
  have HOK := Lib.hid hok0
  obtain ⟨R, hR⟩ := Gr.isR M L
  have HR := Lib.hid hR
  clear hok0 hI hn hnc hcm hR
  go_enter Try.func5, Try.ntmps5
  go_wp2_with fail
  refine Calls.mono HOF.out ?_
  rintro e w1 ⟨g, rfl, G1, B1⟩
  have HG1 := Lib.hid (show Lg w w1 g M L from ⟨G1, B1⟩)
  clear HOF G1 B1
  go_wp2_with fail
  refine Calls.mono (sort_any w1 _ g M _ L HG1.out.at_ (HOK.out.rises (by omega)) HOK.out.inside HOK.out.cons (by omega)) ?_
  rintro e w2 ⟨out, T1, T2, B2, hcase⟩
  have HG2 := Lib.hid (HG1.out.next B2)
  have HT := Lib.hid T1
  have HIFF := Lib.hid (Gr.sorted_iff HOK.out T1 T2)
  clear HG1 B2 T1 T2
  rcases hcase with ⟨hlen, v', rfl, ho⟩ | ⟨hlen, rfl⟩
  · have hno : (edgesTo L M).any (fun x => R x.2 x.1) = false := by
      rw [← Bool.not_eq_true, Gr.any_cyc HOK.out HR.out]
      exact HIFF.out.1 hlen
    have HNO := Lib.hid hno
    have HLEN := Lib.hid hlen
    rw [hlen] at ho
    obtain ⟨Ao, co, hv⟩ := own_form ho
    subst hv
    have HO := Lib.hid (Nums.of_own ho)
    clear hno ho hlen HIFF
    go_wp2_with fail
    refine Calls.mono (edges_any w2 _ g M _ L HG2.out.at_ (HOK.out.rises (by omega)) (by omega)) ?_
    rintro e w3 ⟨Ae, ce, rfl, B3, O3⟩
    have HG3 := Lib.hid (HG2.out.next B3)
    have HE3 := Lib.hid (EdgesAt.of_own O3)
    have HB3 := Lib.hid B3
    clear HG2 B3 O3
    generalize hmq : (edgesTo L M).length = q at *
    have HMQ := Lib.hid hmq.symm
    have hq9 : q ≤ 31000000 := by rw [← hmq]; exact Nat.le_trans (Gr.edgesTo_length (HOK.out.rises (by omega)) M) (by omega)
    clear hmq
    go_wp2_with fail
    go_loopw [9, 32] (fun v9 i wr => ∃ (j : Nat) (b : Bool), j ≤ q ∧ i = .int .i64 j ∧ v9 = .bool b ∧ Hid (b = ((edgesTo L M).take j).any (fun x => R x.2 x.1) ∧ Lg w wr g M L ∧ Below w3.heap.size w3 wr)) (fun _ i _ => q - (intOf i).toNat)
    case atStart => exact ⟨0, false, Nat.zero_le _, rfl, rfl, Lib.hid ⟨rfl, HG3.out, Below.refl _ _⟩⟩
    case round =>
     obtain ⟨j, b, hj, rfl, rfl, HS⟩ := hrel
     by_cases hlt : j < q
     · have hjl : j < (edgesTo L M).length := by have := HMQ.out; omega
       obtain ⟨bb, off, rfl, hbl, p1, p2⟩ := HE3.out.1 j hjl
       have q1 := (HS.out.2.2.cell (p := ⟨bb, _, none⟩) hbl).trans p1
       have q2 := (HS.out.2.2.cell (p := ⟨bb, _, none⟩) hbl).trans p2
       have HX : Hid (((edgesTo L M).take (j + 1)).any (fun x => R x.2 x.1) = (((edgesTo L M).take j).any (fun x => R x.2 x.1) || R ((edgesTo L M)[j]).2 ((edgesTo L M)[j]).1)) := Lib.hid (by rw [List.take_succ_eq_append_getElem hjl, List.any_append]; simp)
       generalize (edgesTo L M)[j] = x at *
       obtain ⟨xf, xt⟩ := x
       have i1 : (0 : Int) ≤ (j : Int) := by omega
       have i2 : (j : Int) < (q : Int) := by omega
       have HBA : Hid (Below wr.heap.size wr (wr.alloc (.cells #[.int .i64 xf, .int .i64 xt] 32))) := Lib.hid ((Below.refl _ wr).alloc (Nat.le_refl _) _)
       have a3 := (Blk.new_ wr 32 #[.int .i64 xf, .int .i64 xt] rfl).at_ 0 rfl
       have a4 := (Blk.new_ wr 32 #[.int .i64 xf, .int .i64 xt] rfl).at_ 1 rfl
       clear p1 p2 hbl hjl
       cases b
       · go_wp2_with fail
         refine Calls.mono (reach_b (HS.out.2.1.next HBA.out).at_ HOK.out (by omega) HR.out xt xf) ?_
         rintro e w4 ⟨rfl, B4⟩
         have HN : Hid (R xt xf = ((edgesTo L M).take (j + 1)).any (fun x => R x.2 x.1) ∧ Lg w w4 g M L ∧ Below w3.heap.size w3 w4) := Lib.hid ⟨by rw [HX.out, ← HS.out.1]; rfl, (HS.out.2.1.next HBA.out).next B4, (HS.out.2.2.trans (HBA.out.mono HS.out.2.2.size)).trans (B4.mono (Nat.le_trans HS.out.2.2.size HBA.out.size))⟩
         clear B4 HS HX q1 q2 a3 a4 HBA
         generalize R xt xf = b2 at *
         go_wp2_with fail
         go_roundw
         case rel => exact ⟨j + 1, b2, by omega, by go_num, rfl, HN⟩
         case measure => simp [intOf]; omega
       · have HN : Hid (true = ((edgesTo L M).take (j + 1)).any (fun x => R x.2 x.1) ∧ Lg w (wr.alloc (.cells #[.int .i64 xf, .int .i64 xt] 32)) g M L ∧ Below w3.heap.size w3 (wr.alloc (.cells #[.int .i64 xf, .int .i64 xt] 32))) := Lib.hid ⟨by rw [HX.out, ← HS.out.1]; rfl, HS.out.2.1.next HBA.out, HS.out.2.2.trans (HBA.out.mono HS.out.2.2.size)⟩
         clear HS HX HBA
         go_wp2_with fail
         go_roundw
         case rel => exact ⟨j + 1, true, by omega, by go_num, rfl, HN⟩
         case measure => simp [intOf]; omega
     · have hbv : b = false := by
         rw [HS.out.1, List.take_of_length_le (by have := HMQ.out; omega)]
         exact HNO.out
       subst hbv
       clear HNO HE3 HG3
       have HS := Lib.hid (show Lg w wr g M L ∧ True ∧ Below w2.heap.size w2 wr from ⟨HS.out.2.1, trivial, HB3.out.trans (HS.out.2.2.mono HB3.out.size)⟩)
       clear HB3
       generalize hW5 : wr = w5 at *
       clear hW5
       have hmk := make_ints M (by omega) L
       have HB5 : Hid (Below w2.heap.size w2 w5) := Lib.hid HS.out.2.2
       have HG5 := Lib.hid HS.out.1
       clear HS
       go_wp2_with fail
       refine Calls.mono (len_g HG5.out.at_) ?_
       rintro e w6 ⟨rfl, rfl⟩
       have e1 : ((M : Int) != (M : Int)) = false := by simp
       go_wp2_with fail
       clear hmk e1
       have HA0 : Hid (Blk (w5.alloc (.cells (iv (left0 M L 0)).toArray 3)) w5.heap.size 3 (iv (left0 M L 0)).toArray ∧ AtR M out 0 (left0 M L 0) ∧ Below w5.heap.size w5 (w5.alloc (.cells (iv (left0 M L 0)).toArray 3))) := Lib.hid ⟨Blk.new_ w5 _ _ rfl, AtR.zero (by unfold left0; simp) (fun v hv => by unfold left0; rw [Gr.left_at hv]; simp), (Below.refl _ w5).alloc (Nat.le_refl _) _⟩
       go_loopw [67] (fun i wr => ∃ (k : Nat) (at_ : List Int), k ≤ M ∧ i = .int .i64 k ∧ Hid (Blk wr w5.heap.size 3 (iv at_).toArray ∧ AtR M out k at_ ∧ Below w5.heap.size w5 wr)) (fun i _ => M - (intOf i).toNat)
       case atStart => exact ⟨0, _, Nat.zero_le _, rfl, HA0⟩
       case round =>
         obtain ⟨k, at_, hk, rfl, HS⟩ := hrel
         clear HA0
         by_cases hlt : k < M
         · have hko : k < out.length := by have := HLEN.out; omega
           obtain ⟨b, off, rfl, hb, hc0⟩ := HO.out.1.at_ hko
           obtain ⟨v, hv, hvM⟩ := HT.out.inside _ (List.getElem_mem hko)
           have hce := ((HB5.out.trans (HS.out.2.2.mono HB5.out.size)).cell (p := ⟨b, _, none⟩) hb).trans hc0
           rw [hv] at hce
           have hnow := HS.out.2.1.now HT.out.nodup hko hv hvM
           have HNX := Lib.hid (HS.out.2.1.next HT.out.nodup hko hv hvM)
           have hlen := HS.out.2.1.len
           have hcl : wr.cell? ⟨w5.heap.size, v, none⟩ = some (.int .i64 0) := by rw [HS.out.1.at_ v (iv_at (by omega)), hnow]
           have hz : wr.frozen? ⟨w5.heap.size, v, none⟩ = false := HS.out.1.frozen v
           have HBK := Lib.hid (HS.out.1.set_ v (.int .i64 ((k : Int) + 1)))
           rw [iv_set] at HBK
           have HN : Hid (Blk (wr.setCell ⟨w5.heap.size, v, none⟩ (.int .i64 ((k : Int) + 1))) w5.heap.size 3 (iv (at_.set v ((k : Int) + 1))).toArray ∧ AtR M out (k + 1) (at_.set v ((k : Int) + 1)) ∧ Below w5.heap.size w5 (wr.setCell ⟨w5.heap.size, v, none⟩ (.int .i64 ((k : Int) + 1)))) := Lib.hid ⟨HBK.out, HNX.out, HS.out.2.2.setCell (Nat.le_refl _) _⟩
           have i1 : (0 : Int) ≤ (k : Int) := by omega
           have i2 : (k : Int) < (M : Int) := by omega
           have i3 : (0 : Int) ≤ (v : Int) := by omega
           have i4 : (v : Int) < (M : Int) := by omega
           have i5 : ¬ (v : Int) < 0 := by omega
           have i6 : ¬ (M : Int) ≤ (v : Int) := by omega
           clear hnow HNX hlen HBK HS hv hc0 hb hko
           go_wp2_with fail
           go_roundw
           case rel => exact ⟨k + 1, _, by omega, by go_num, HN⟩
           case measure => simp [intOf]; omega
         · have HG6 := Lib.hid (HG5.out.next HS.out.2.2)
           have HA : Hid (AtR M out out.length at_ ∧ Blk wr w5.heap.size 3 (iv at_).toArray) := Lib.hid (by
             have e : k = out.length := by have := HLEN.out; omega
             refine ⟨?_, HS.out.1⟩
             have h := HS.out.2.1
             rw [e] at h; exact h)
           have HB6 := Lib.hid (HB5.out.trans (HS.out.2.2.mono HB5.out.size))
           clear HS HG5 HB5
           generalize hW6 : wr = w6 at *
           clear hW6
           go_wp2_with fail
           refine Calls.mono (edges_any w6 _ g M _ L HG6.out.at_ (HOK.out.rises (by omega)) (by omega)) ?_
           rintro e w7 ⟨Ae, ce, rfl, B7, O7⟩
           have HG7 := Lib.hid (HG6.out.next B7)
           have HB7 := Lib.hid (HB6.out.trans (B7.mono HB6.out.size))
           have HE7 := Lib.hid (EdgesAt.of_own O7)
           have HA7 := Lib.hid (show AtR M out out.length at_ ∧ Blk w7 w5.heap.size 3 (iv at_).toArray from ⟨HA.out.1, HA.out.2.below B7 HA.out.2.lt⟩)
           clear HG6 HB6 O7 B7 HA
           generalize hmq : (edgesTo L M).length = q at *
           have HMQ := Lib.hid hmq.symm
           have hq9 : q ≤ 31000000 := by rw [← hmq]; exact Nat.le_trans (Gr.edgesTo_length (HOK.out.rises (by omega)) M) (by omega)
           clear hmq
           go_wp2_with fail
           go_loopw [95] (fun i wr => ∃ j : Nat, j ≤ q ∧ i = .int .i64 j ∧ Hid (Below w7.heap.size w7 wr)) (fun i _ => q - (intOf i).toNat)
           case atStart => exact ⟨0, Nat.zero_le _, rfl, Lib.hid (Below.refl _ _)⟩
           case round =>
             obtain ⟨j, hj, rfl, HS⟩ := hrel
             by_cases hlt2 : j < q
             · have hjl : j < (edgesTo L M).length := by have := HMQ.out; omega
               obtain ⟨b, off, rfl, hb, p1, p2⟩ := HE7.out.1 j hjl
               have q1 := (HS.out.cell (p := ⟨b, _, none⟩) hb).trans p1
               have q2 := (HS.out.cell (p := ⟨b, _, none⟩) hb).trans p2
               obtain ⟨u, v, hx, huM, hvM, hlt3⟩ := Gr.places HOK.out HT.out HLEN.out HA7.out.1 (List.getElem_mem hjl)
               rw [hx] at q1 q2
               have hal := HA7.out.1.len
               have HBA : Hid (Below w7.heap.size w7 (wr.alloc (.cells #[.int .i64 (u : Int), .int .i64 (v : Int)] 32))) := Lib.hid (HS.out.alloc HS.out.size _)
               have a1 : (wr.alloc (.cells #[.int .i64 (u : Int), .int .i64 (v : Int)] 32)).cell? ⟨w5.heap.size, u, none⟩ = some (.int .i64 (at_.getD u 0)) := (HA7.out.2.below HBA.out HA7.out.2.lt).at_ u (iv_at (by omega))
               have a2 : (wr.alloc (.cells #[.int .i64 (u : Int), .int .i64 (v : Int)] 32)).cell? ⟨w5.heap.size, v, none⟩ = some (.int .i64 (at_.getD v 0)) := (HA7.out.2.below HBA.out HA7.out.2.lt).at_ v (iv_at (by omega))
               have a3 := (Blk.new_ wr 32 #[.int .i64 (u : Int), .int .i64 (v : Int)] rfl).at_ 0 rfl
               have a4 := (Blk.new_ wr 32 #[.int .i64 (u : Int), .int .i64 (v : Int)] rfl).at_ 1 rfl
               generalize at_.getD u 0 = pu at *
               generalize at_.getD v 0 = pv at *
               have i1 : (0 : Int) ≤ (j : Int) := by omega
               have i2 : (j : Int) < (q : Int) := by omega
               have i3 : (0 : Int) ≤ (u : Int) := by omega
               have i4 : (u : Int) < (M : Int) := by omega
               have i5 : (0 : Int) ≤ (v : Int) := by omega
               have i6 : (v : Int) < (M : Int) := by omega
               have i7 : ¬ pv ≤ pu := by omega
               clear p1 p2 hb hjl hx hal HS hlt3
               go_wp2_with fail
               clear q1 q2
               generalize wr.alloc (.cells #[.int .i64 (u : Int), .int .i64 (v : Int)] 32) = wa at *
               go_quiet (fail)
               have HN : Hid (Below w7.heap.size w7 (wa.drewN nq)) := Lib.hid (bdrewN HBA.out nq)
               clear HBA a1 a2 a3 a4
               go_wp2_with fail
               go_roundw
               case rel => exact ⟨j + 1, by omega, by go_num, HN⟩
               case measure => simp [intOf]; omega
             · have HG8 := Lib.hid (HG7.out.next HS.out)
               have HB8 := Lib.hid (HB7.out.trans (HS.out.mono HB7.out.size))
               clear HS HG7 HB7 HE7 HA7
               generalize hW8 : wr = w8 at *
               clear hW8
               go_wp2_with fail
               go_loopw [17] (fun i wr => ∃ j : Nat, 1 ≤ j ∧ j ≤ M ∧ i = .int .i64 j ∧ Hid (Below w8.heap.size w8 wr)) (fun i _ => M - (intOf i).toNat)
               case atStart => exact ⟨1, Nat.le_refl _, by omega, rfl, Lib.hid (Below.refl _ _)⟩
               case round =>
                 obtain ⟨j, hj1, hj, rfl, HS⟩ := hrel
                 by_cases hlt4 : j < M
                 · obtain ⟨i, rfl⟩ : ∃ i, j = i + 1 := ⟨j - 1, by omega⟩
                   have hi1 : i + 1 < out.length := by have := HLEN.out; omega
                   have hi0 : i < out.length := by omega
                   obtain ⟨b, off, rfl, hb, p0⟩ := HO.out.1.at_ hi0
                   obtain ⟨b', off', hAA, hb', p1⟩ := HO.out.1.at_ hi1
                   have hAA' : b = b' ∧ off = off' := by
                     simp only [Option.some.injEq, Addr.mk.injEq, and_true] at hAA
                     exact hAA
                   obtain ⟨rfl, rfl⟩ := hAA'
                   have hlow := HB8.out.trans (HS.out.mono HB8.out.size)
                   have q0 := (hlow.cell (p := ⟨b, _, none⟩) hb).trans p0
                   have q1 := (hlow.cell (p := ⟨b, _, none⟩) hb').trans p1
                   obtain ⟨x, hx, hxM⟩ := HT.out.inside _ (List.getElem_mem hi0)
                   obtain ⟨y, hy, hyM⟩ := HT.out.inside _ (List.getElem_mem hi1)
                   have hless := Gr.lesser HOK.out HT.out hi1
                   rw [hx] at q0 hless
                   rw [hy] at q1 hless
                   have HLESS : Hid ((y : Int) < (x : Int) → hasE M L (x : Int) (y : Int) = true) := Lib.hid (fun h => by
                     obtain ⟨u, v, e1, e2, h1, h2, h3⟩ := hless h
                     have : u = x := by omega
                     subst this
                     have : v = y := by omega
                     subst this
                     exact Gr.hasE_edge h1 h3)
                   have HG9 := Lib.hid (HG8.out.next HS.out)
                   have HS' := Lib.hid HS.out
                   have j0 : (0 : Int) ≤ (i : Int) := by omega
                   have j1 : (i : Int) < (M : Int) := by omega
                   have j2 : (i : Int) + 1 < (M : Int) := by omega
                   have j3 : (0 : Int) ≤ (i : Int) + 1 := by omega
                   have j4 : (i : Int) ≤ 31 := by omega
                   clear hless hx hy p0 p1 hb hb' hAA hlow HS hi0 hi1 hj1
                   by_cases hgr : (y : Int) < (x : Int)
                   · have hgr2 : y < x := by omega
                     have HH := Lib.hid (HLESS.out hgr)
                     have dgr : decide (y < x) = true := decide_eq_true hgr2
                     have hwi : IntKind.i64.wrap (i : Int) = (i : Int) := by rw [IntKind.wrap_i64]; omega
                     have hwi2 : wrap64 (i : Int) = (i : Int) := IntWalk.wrap64_in _ (by omega)
                     clear HLESS
                     go_wp2_with fail
                     have hS : wr.drew.cell? ⟨b, off + i, none⟩ = some (.int .i64 (x : Int)) ∧ wr.drew.cell? ⟨b, off + (i + 1), none⟩ = some (.int .i64 (y : Int)) := ⟨q0, q1⟩
                     refine wp_region_heldG [] (fun _ W => W.cell? ⟨b, off + i, none⟩ = some (.int .i64 (x : Int)) ∧ W.cell? ⟨b, off + (i + 1), none⟩ = some (.int .i64 (y : Int))) (by kernel_rfl) ?_
                     change wpAnyG _ _ _ _ _ _ 24 _ _ wr.drew
                     refine g_take (i := 0) rfl rfl (by kernel_rfl) (by kernel_rfl) (by kernel_rfl) (by kernel_rfl) (by kernel_rfl) (fun _ _ _ h => h) hS (fun L W hL hW => by go_simp; rfl) ?_
                     refine g_take (i := 1) rfl rfl (by kernel_rfl) (by kernel_rfl) (by kernel_rfl) (by kernel_rfl) (by kernel_rfl) (fun _ _ _ h => h) hS (fun L W hL hW => by go_simp; rfl) ?_
                     refine g_take (i := 2) rfl rfl (by kernel_rfl) (by kernel_rfl) (by kernel_rfl) (by kernel_rfl) (by kernel_rfl) (fun _ _ _ h => h) hS (fun L W hL hW => by go_simp; rfl) ?_
                     refine g_take (i := 3) rfl rfl (by kernel_rfl) (by kernel_rfl) (by kernel_rfl) (by kernel_rfl) (by kernel_rfl) (fun _ _ _ h => h) hS (fun L W hL hW => by go_simp; rfl) ?_
                     refine g_take (i := 4) rfl rfl (by kernel_rfl) (by kernel_rfl) (by kernel_rfl) (by kernel_rfl) (by kernel_rfl) (fun _ _ _ h => h) hS (fun L W hL hW => by obtain ⟨q0, q1⟩ := hW; go_simp; rfl) ?_
                     refine g_take (i := 5) rfl rfl (by kernel_rfl) (by kernel_rfl) (by kernel_rfl) (by kernel_rfl) (by kernel_rfl) (fun _ _ _ h => h) hS (fun L W hL hW => by go_simp; rfl) ?_
                     refine g_take (i := 6) rfl rfl (by kernel_rfl) (by kernel_rfl) (by kernel_rfl) (by kernel_rfl) (by kernel_rfl) (fun _ _ _ h => h) hS (fun L W hL hW => by go_simp; rfl) ?_
                     refine g_take (i := 7) rfl rfl (by kernel_rfl) (by kernel_rfl) (by kernel_rfl) (by kernel_rfl) (by kernel_rfl) (fun _ _ _ h => h) hS (fun L W hL hW => by go_simp; rfl) ?_
                     refine g_take (i := 8) rfl rfl (by kernel_rfl) (by kernel_rfl) (by kernel_rfl) (by kernel_rfl) (by kernel_rfl) (fun _ _ _ h => h) hS (fun L W hL hW => by obtain ⟨q0, q1⟩ := hW; go_simp; rfl) ?_
                     refine g_take (i := 9) rfl rfl (by kernel_rfl) (by kernel_rfl) (by kernel_rfl) (by kernel_rfl) (by kernel_rfl) (fun _ _ _ h => h) hS (fun L W hL hW => by go_simp; rfl) ?_
                     refine g_take (i := 10) rfl rfl (by kernel_rfl) (by kernel_rfl) (by kernel_rfl) (by kernel_rfl) (by kernel_rfl) (fun _ _ _ h => h) hS (fun L W hL hW => by go_simp; rfl) ?_
                     refine g_takeG (i := 11) rfl (by simp only [Region.wanted, yielded]; go_simp) (by kernel_rfl) (by kernel_rfl) (by kernel_rfl) (by kernel_rfl) (by kernel_rfl) (fun _ _ _ h => h) hS (fun L W hL hW => by go_simp; rfl) ?_
                     refine g_takeG (i := 12) rfl (by simp only [Region.wanted, yielded]; go_simp) (by kernel_rfl) (by kernel_rfl) (by kernel_rfl) (by kernel_rfl) (by kernel_rfl) (fun _ _ _ h => h) hS (fun L W hL hW => by go_simp; rfl) ?_
                     refine g_takeG (i := 13) rfl (by simp only [Region.wanted, yielded]; go_simp) (by kernel_rfl) (by kernel_rfl) (by kernel_rfl) (by kernel_rfl) (by kernel_rfl) (fun _ _ _ h => h) hS (fun L W hL hW => by go_simp; rfl) ?_
                     refine g_takeG (i := 14) rfl (by simp only [Region.wanted, yielded]; go_simp) (by kernel_rfl) (by kernel_rfl) (by kernel_rfl) (by kernel_rfl) (by kernel_rfl) (fun _ _ _ h => h) hS (fun L W hL hW => by go_simp; rfl) ?_
                     refine g_takeG (i := 15) rfl (by simp only [Region.wanted, yielded]; go_simp) (by kernel_rfl) (by kernel_rfl) (by kernel_rfl) (by kernel_rfl) (by kernel_rfl) (fun _ _ _ h => h) hS (fun L W hL hW => by go_simp; rfl) ?_
                     refine g_takeG (i := 16) rfl (by simp only [Region.wanted, yielded]; go_simp) (by kernel_rfl) (by kernel_rfl) (by kernel_rfl) (by kernel_rfl) (by kernel_rfl) (fun _ _ _ h => h) hS (fun L W hL hW => by obtain ⟨q0, q1⟩ := hW; go_simp; rfl) ?_
                     refine g_takeG (i := 17) rfl (by simp only [Region.wanted, yielded]; go_simp) (by kernel_rfl) (by kernel_rfl) (by kernel_rfl) (by kernel_rfl) (by kernel_rfl) (fun _ _ _ h => h) hS (fun L W hL hW => by go_simp; rfl) ?_
                     refine g_takeG (i := 18) rfl (by simp only [Region.wanted, yielded]; go_simp) (by kernel_rfl) (by kernel_rfl) (by kernel_rfl) (by kernel_rfl) (by kernel_rfl) (fun _ _ _ h => h) hS (fun L W hL hW => by go_simp; rfl) ?_
                     refine g_takeG (i := 19) rfl (by simp only [Region.wanted, yielded]; go_simp) (by kernel_rfl) (by kernel_rfl) (by kernel_rfl) (by kernel_rfl) (by kernel_rfl) (fun _ _ _ h => h) hS (fun L W hL hW => by go_simp; rfl) ?_
                     refine g_takeG (i := 20) rfl (by simp only [Region.wanted, yielded]; go_simp) (by kernel_rfl) (by kernel_rfl) (by kernel_rfl) (by kernel_rfl) (by kernel_rfl) (fun _ _ _ h => h) hS (fun L W hL hW => by obtain ⟨q0, q1⟩ := hW; go_simp; rfl) ?_
                     refine g_one (i := 21) rfl (by simp only [Region.wanted, yielded]; go_simp) (by kernel_rfl) fun K hK => ?_
                     go_simp
                     refine Calls.mono (has_any wr.drew _ g M _ L (HG9.out.next ((Below.refl _ wr).drew)).at_ (HOK.out.rises (by omega)) (x : Int) (y : Int)) ?_
                     rintro e w9 ⟨rfl, nq, rfl⟩
                     rw [HH.out]
                     have hS2 : (wr.drew.drewN nq).cell? ⟨b, off + i, none⟩ = some (.int .i64 (x : Int)) ∧ (wr.drew.drewN nq).cell? ⟨b, off + (i + 1), none⟩ = some (.int .i64 (y : Int)) := hS
                     refine hK _ _ hS2 ?_
                     clear hK K
                     refine g_takeG (i := 22) rfl (by simp only [Region.wanted, yielded]; go_simp) (by kernel_rfl) (by kernel_rfl) (by kernel_rfl) (by kernel_rfl) (by kernel_rfl) (fun _ _ _ h => h) hS2 (fun L W hL hW => by go_simp; rfl) ?_
                     refine g_take (i := 23) rfl rfl (by kernel_rfl) (by kernel_rfl) (by kernel_rfl) (by kernel_rfl) (by kernel_rfl) (fun _ _ _ h => h) hS2 (fun L W hL hW => by go_simp; rfl) ?_
                     refine wpAnyG_done (by kernel_rfl) ?_ _
                     have HN : Hid (Below w8.heap.size w8 (wr.drewN (1 + nq))) := Lib.hid (bdrewN HS'.out (1 + nq))
                     clear hS hS2 q0 q1 HH HS' HG9 hwi hwi2 dgr hgr hgr2
                     go_simp
                     go_wp2_with fail
                     go_roundw
                     case rel => exact ⟨i + 1 + 1, by omega, by omega, by go_num, HN⟩
                     case measure => simp [intOf]; omega
                   · have dgr : decide ((y : Int) < (x : Int)) = false := decide_eq_false hgr
                     have dgr2 : decide (y < x) = false := decide_eq_false (by omega)
                     go_wp2_with fail
                     go_quiet (fail)
                     have HN : Hid (Below w8.heap.size w8 (wr.drewN nq)) := Lib.hid (bdrewN HS'.out nq)
                     clear q0 q1 HLESS HS' HG9
                     go_wp2_with fail
                     go_roundw
                     case rel => exact ⟨i + 1 + 1, by omega, by omega, by go_num, HN⟩
                     case measure => simp [intOf]; omega
                 · have HGE := Lib.hid (HG8.out.next HS.out)
                   clear HG8 HS HB8
                   have e2 : ((M : Int) == (M : Int)) = true := by simp
                   go_wp2_with fail
                   refine Calls.mono (awake_any _) ?_
                   rintro e w9 ⟨rfl, B9⟩
                   have HB := Lib.hid (HGE.out.low.trans (B9.mono HGE.out.low.size))
                   clear HGE B9
                   go_wp2_with fail
                   go_ret
                   exact ⟨rfl, HB.out⟩
  · have hyes : (edgesTo L M).any (fun x => R x.2 x.1) = true := by
      rw [Gr.any_cyc HOK.out HR.out]
      exact Classical.byContradiction fun h => by have := HIFF.out.2 h; omega
    have HNO := Lib.hid hyes
    clear hyes hlen HIFF
    go_wp2_with fail
    refine Calls.mono (edges_any w2 _ g M _ L HG2.out.at_ (HOK.out.rises (by omega)) (by omega)) ?_
    rintro e w3 ⟨Ae, ce, rfl, B3, O3⟩
    have HG3 := Lib.hid (HG2.out.next B3)
    have HE3 := Lib.hid (EdgesAt.of_own O3)
    have HB3 := Lib.hid B3
    clear HG2 B3 O3
    generalize hmq : (edgesTo L M).length = q at *
    have HMQ := Lib.hid hmq.symm
    have hq9 : q ≤ 31000000 := by rw [← hmq]; exact Nat.le_trans (Gr.edgesTo_length (HOK.out.rises (by omega)) M) (by omega)
    clear hmq
    go_wp2_with fail
    go_loopw [9, 32] (fun v9 i wr => ∃ (j : Nat) (b : Bool), j ≤ q ∧ i = .int .i64 j ∧ v9 = .bool b ∧ Hid (b = ((edgesTo L M).take j).any (fun x => R x.2 x.1) ∧ Lg w wr g M L ∧ Below w3.heap.size w3 wr)) (fun _ i _ => q - (intOf i).toNat)
    case atStart => exact ⟨0, false, Nat.zero_le _, rfl, rfl, Lib.hid ⟨rfl, HG3.out, Below.refl _ _⟩⟩
    case round =>
     obtain ⟨j, b, hj, rfl, rfl, HS⟩ := hrel
     by_cases hlt : j < q
     · have hjl : j < (edgesTo L M).length := by have := HMQ.out; omega
       obtain ⟨bb, off, rfl, hbl, p1, p2⟩ := HE3.out.1 j hjl
       have q1 := (HS.out.2.2.cell (p := ⟨bb, _, none⟩) hbl).trans p1
       have q2 := (HS.out.2.2.cell (p := ⟨bb, _, none⟩) hbl).trans p2
       have HX : Hid (((edgesTo L M).take (j + 1)).any (fun x => R x.2 x.1) = (((edgesTo L M).take j).any (fun x => R x.2 x.1) || R ((edgesTo L M)[j]).2 ((edgesTo L M)[j]).1)) := Lib.hid (by rw [List.take_succ_eq_append_getElem hjl, List.any_append]; simp)
       generalize (edgesTo L M)[j] = x at *
       obtain ⟨xf, xt⟩ := x
       have i1 : (0 : Int) ≤ (j : Int) := by omega
       have i2 : (j : Int) < (q : Int) := by omega
       have HBA : Hid (Below wr.heap.size wr (wr.alloc (.cells #[.int .i64 xf, .int .i64 xt] 32))) := Lib.hid ((Below.refl _ wr).alloc (Nat.le_refl _) _)
       have a3 := (Blk.new_ wr 32 #[.int .i64 xf, .int .i64 xt] rfl).at_ 0 rfl
       have a4 := (Blk.new_ wr 32 #[.int .i64 xf, .int .i64 xt] rfl).at_ 1 rfl
       clear p1 p2 hbl hjl
       cases b
       · go_wp2_with fail
         refine Calls.mono (reach_b (HS.out.2.1.next HBA.out).at_ HOK.out (by omega) HR.out xt xf) ?_
         rintro e w4 ⟨rfl, B4⟩
         have HN : Hid (R xt xf = ((edgesTo L M).take (j + 1)).any (fun x => R x.2 x.1) ∧ Lg w w4 g M L ∧ Below w3.heap.size w3 w4) := Lib.hid ⟨by rw [HX.out, ← HS.out.1]; rfl, (HS.out.2.1.next HBA.out).next B4, (HS.out.2.2.trans (HBA.out.mono HS.out.2.2.size)).trans (B4.mono (Nat.le_trans HS.out.2.2.size HBA.out.size))⟩
         clear B4 HS HX q1 q2 a3 a4 HBA
         generalize R xt xf = b2 at *
         go_wp2_with fail
         go_roundw
         case rel => exact ⟨j + 1, b2, by omega, by go_num, rfl, HN⟩
         case measure => simp [intOf]; omega
       · have HN : Hid (true = ((edgesTo L M).take (j + 1)).any (fun x => R x.2 x.1) ∧ Lg w (wr.alloc (.cells #[.int .i64 xf, .int .i64 xt] 32)) g M L ∧ Below w3.heap.size w3 (wr.alloc (.cells #[.int .i64 xf, .int .i64 xt] 32))) := Lib.hid ⟨by rw [HX.out, ← HS.out.1]; rfl, HS.out.2.1.next HBA.out, HS.out.2.2.trans (HBA.out.mono HS.out.2.2.size)⟩
         clear HS HX HBA
         go_wp2_with fail
         go_roundw
         case rel => exact ⟨j + 1, true, by omega, by go_num, rfl, HN⟩
         case measure => simp [intOf]; omega
     · have hbv : b = true := by
         rw [HS.out.1, List.take_of_length_le (by have := HMQ.out; omega)]
         exact HNO.out
       subst hbv
       clear HNO HE3 HG3
       have HS := Lib.hid (show Lg w wr g M L ∧ True from ⟨HS.out.2.1, trivial⟩)
       clear HB3
       have HG5 := Lib.hid HS.out.1
       clear HS
       go_wp2_with fail
       refine Calls.mono (len_g HG5.out.at_) ?_
       rintro e w6 ⟨rfl, rfl⟩
       have e1 : ((M : Int) != (M : Int)) = false := by simp
       go_wp2_with fail
       refine Calls.mono (awake_any _) ?_
       rintro e w9 ⟨rfl, B9⟩
       have HB := Lib.hid (HG5.out.low.trans (B9.mono HG5.out.low.size))
       clear HG5 B9
       go_wp2_with fail
       go_ret
       exact ⟨rfl, HB.out⟩
end Go.Proofs.Ytclbpohhmaojcaa.GrW
