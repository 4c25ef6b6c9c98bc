/-
  The walk of the document's Load.
-/
import Derived.Test.YtpohefpiidlnjaaHeadRef3
import Derived.Test.YtpohefpiidlnjaaDiskStep0
import Derived.Test.YtpohefpiidlnjaaHeadWalks7
namespace Go.Proofs.Ytpohefpiidlnjaa.Hr
set_option linter.unusedVariables false
open Go Go.RowKit Go.Proofs Go.Proofs.Ytpohefpiidlnjaa Go.Proofs.Ytpohefpiidlnjaa.Wd
open Go.Proofs.Ytpohefpiidlnjaa.Hd (H Wf le8 un8 le8_length)
open Go.Proofs.Ytpohefpiidlnjaa.HdW (readR hv results_cell_row2 loadR saveR)
open Go.Proofs.Ytpohefpiidlnjaa.Dk (DS Ok hd)
open Go.Proofs.Ytpohefpiidlnjaa.Dr (Sl RV rval rcells Ref)
def Boxed2 (w0 : World) (h : H) (ok : Bool) (v4 v5 : Value) (wx : World) : Prop := ∃ w1, w1 = wx ∧ ∃ r, v4 = .pointer (some ⟨r, 0, none⟩) ∧ v5 = .bool ok ∧ Blk w1 r 24 (hv h) ∧ Below w0.heap.size w0 w1
set_option maxRecDepth 100000 in
set_option maxHeartbeats 4000000 in
theorem rload {w : World} {F : Nat → Prop} {s : DS} {v : Nat → Sl} {cl k : Int} (ok : Ok s) (h : RV w F s v cl k) : Calls Try.prog 29 #[rval s v cl k] w fun e w' => e = .returned (.tuple #[.agg (hv (loadR s).1), .int .i64 ((loadR s).2 : Nat)]) ∧ Below w.heap.size w w' := by
  obtain ⟨X, hX⟩ : ∃ X, X = rcells s v cl k := ⟨_, rfl⟩
  unfold Dr.rval
  rw [← hX]
  have HX := Lib.hid hX
  have hbx := (Blk.new_ w 69 X rfl).alloc (.cells #[.int .u64 0, .int .u64 0, .int .u8 0] 24)
  have hres := Blk.new_ (w.alloc (.cells X 69)) 24 #[.int .u64 0, .int .u64 0, .int .u8 0] (n := w.heap.size + 1) (by simp)
  have hlow : Below w.heap.size w ((w.alloc (.cells X 69)).alloc (.cells #[.int .u64 0, .int .u64 0, .int .u8 0] 24)) := ((Below.refl _ w).alloc (Nat.le_refl _) _).alloc (by simp) _
  have hrv := h.below hlow
  have HOK := Lib.hid ok
  clear hX h ok
  go_enter Try.func29, Try.ntmps29
  go_upto_region 1 with fail
  generalize ((w.alloc (.cells X 69)).alloc (.cells #[.int .u64 0, .int .u64 0, .int .u8 0] 24)) = w0 at *
  have HBX := Lib.hid hbx
  have HRES := Lib.hid hres
  have HLOW := Lib.hid hlow
  have HRV := Lib.hid hrv
  clear hbx hres hlow hrv
  cases hd0 : s.dead
  rotate_left
  · have q12 := HBX.out.at_ 12 (v := .bool true) (by rw [HX.out, ← hd0]; rfl)
    have HR : Hid (loadR s = (Hd.none_, 3)) := Lib.hid (by unfold HdW.loadR; rw [if_pos hd0])
    clear hd0
    go_wp2_with (refine wpList_put_row rfl rfl 24 (.tmp 2) _ rfl (w.heap.size + 1) rfl 24 _ #[.int .u64 0, .int .u64 0, .int .u8 0] rfl HRES.out (by kernel_rfl) rfl (hv_one ⟨0, 0, 0⟩) ?_)
    refine bodyPost_ret (results_cell_row2 rfl _ _ (w.heap.size + 1) 24 #[.int .u64 0, .int .u64 0, .int .u8 0] (0, 0) _ rfl (HRES.out.row _).out Try.underlying24 rfl (by kernel_rfl)) rfl ?_
    rw [HR.out]
    exact ⟨rfl, below_rowH HLOW.out (Nat.le_succ _) _⟩
  have q12 := HBX.out.at_ 12 (v := .bool false) (by rw [HX.out, ← hd0]; rfl)
  have HR : Hid (loadR s = if 0 < (Hd.pick (hd s 0) (hd s 1)).serial then (Hd.pick (hd s 0) (hd s 1), 0) else (Hd.none_, 50)) := Lib.hid (by unfold HdW.loadR; rw [if_neg (by rw [hd0]; simp)])
  have HH : Hid (∀ W, Below w0.heap.size w0 W → ∀ i : Int, Calls Try.prog 49 #[rval s v cl k, .int .i64 i] W (Dr.SliceOut F (hd s i) W)) := Lib.hid (fun W hW i => Dr.rhead HOK.out (HRV.out.below hW) i)
  clear hd0
  go_upto_region 3 with fail
  clear q12
  go_cut [4, 5] (fun v4 v5 wx => Boxed2 w0 (Hd.pick (hd s 0) (hd s 1)) (decide (0 < (Hd.pick (hd s 0) (hd s 1)).serial)) v4 v5 wx)
  case first =>
    refine wp_region_heldG [] (fun _ W => Below w0.heap.size w0 W) (by kernel_rfl) ?_
    change wpAnyG _ _ _ _ _ _ 11 _ _ (World.drew w0)
    have hS : Below w0.heap.size w0 w0.drew := (Below.refl _ w0).drew
    refine g_take (i := 0) rfl rfl (by kernel_rfl) (by kernel_rfl) (by kernel_rfl) (by kernel_rfl) (by kernel_rfl) (fun _ _ _ h => h) hS (fun L W hL hW => Dr.run_load_row 69 (.tmp 1) rfl w.heap.size (by go_simp) 69 X _ _ (HBX.out.below hW HBX.out.lt).out Try.underlying69 rfl (by rw [Dr.rx_size HX.out]; kernel_rfl)) ?_
    refine g_take (i := 2) rfl rfl (by kernel_rfl) (by kernel_rfl) (by kernel_rfl) (by kernel_rfl) (by kernel_rfl) (fun _ _ _ h => h) hS (fun L W hL hW => Dr.run_load_row 69 (.tmp 1) rfl w.heap.size (by go_simp) 69 X _ _ (HBX.out.below hW HBX.out.lt).out Try.underlying69 rfl (by rw [Dr.rx_size HX.out]; kernel_rfl)) ?_
    refine g_two (i := 1) (j := 8) (by kernel_rfl) rfl rfl rfl rfl (fun K hK => ?_) (fun K hK => ?_)
    · have HCK := Lib.hid (HH.out _ hS 0)
      unfold Dr.rval at HCK
      rw [← HX.out] at HCK
      go_simp
      refine Calls.mono HCK.out ?_
      rintro en y0 ⟨⟨⟨A0, n0, c0⟩, rfl, href0⟩, hb0⟩
      skip
      have hS := hS.trans (hb0.mono hS.size)
      have HRF0 := Lib.hid href0
      clear href0 HCK hb0
      refine hK _ _ hS ?_
      clear hK K
      refine g_two (i := 3) (j := 8) (by kernel_rfl) rfl rfl rfl rfl (fun K hK => ?_) (fun K hK => ?_)
      · have HCK := Lib.hid (HH.out _ hS 1)
        unfold Dr.rval at HCK
        rw [← HX.out] at HCK
        go_simp
        refine Calls.mono HCK.out ?_
        rintro en y1 ⟨⟨⟨A1, n1, c1⟩, rfl, href1⟩, hb1⟩
        have HRF0 := Lib.hid (HRF0.out.below hb1)
        skip
        have hS := hS.trans (hb1.mono hS.size)
        have HRF1 := Lib.hid href1
        clear href1 HCK hb1
        refine hK _ _ hS ?_
        clear hK K
        refine g_two (i := 4) (j := 8) (by kernel_rfl) rfl rfl rfl rfl (fun K hK => ?_) (fun K hK => ?_)
        · have HCK := Lib.hid (rpick A0 A1 c0 c1 n0 n1 (hd s 0) (hd s 1) HRF0.out.len HRF1.out.len HRF0.out.le HRF1.out.le HRF0.out.max HRF1.out.max _ HRF0.out.bytes HRF1.out.bytes)
          unfold HdW.hv at HCK
          go_simp
          refine Calls.mono HCK.out ?_
          rintro en y4 ⟨rfl, hb4⟩
          skip
          have hS := hS.trans (hb4.mono hS.size)
          clear HCK hb4
          refine hK _ _ hS ?_
          clear hK K
          refine g_take (i := 5) rfl rfl (by kernel_rfl) (by kernel_rfl) (by kernel_rfl) (by kernel_rfl) (by kernel_rfl) (fun _ _ _ h => h) hS (fun L W hL hW => by go_simp; rfl) ?_
          refine g_take (i := 6) rfl rfl (by kernel_rfl) (by kernel_rfl) (by kernel_rfl) (by kernel_rfl) (by kernel_rfl) (fun _ _ _ h => h) hS (fun L W hL hW => by go_simp; rfl) ?_
          refine g_take (i := 7) rfl rfl (by kernel_rfl) (by kernel_rfl) (by kernel_rfl) (by kernel_rfl) (by kernel_rfl) (fun _ _ _ h => h) hS (fun L W hL hW => by go_simp; rfl) ?_
          refine g_one (i := 8) rfl rfl (by kernel_rfl) fun K hK => ?_
          have HSY := Lib.hid hS
          have HZB : Hid (Blk ((y4).alloc (.cells #[.int .u64 0, .int .u64 0, .int .u8 0] 24)) y4.heap.size 24 #[.int .u64 0, .int .u64 0, .int .u8 0]) := Lib.hid (Blk.new_ (y4) 24 #[.int .u64 0, .int .u64 0, .int .u8 0] rfl)
          have hS9 := hS.alloc hS.size (.cells #[.int .u64 0, .int .u64 0, .int .u8 0] 24)
          skip
          clear hS
          have hS := hS9
          clear hS9
          go_simp
          refine hK _ _ hS ?_
          clear hK K
          refine g_one (i := 9) rfl rfl (by kernel_rfl) fun K hK => ?_
          have hS9 := HSY.out.alloc HSY.out.size (.cells #[.int .u64 ((Hd.pick (hd s 0) (hd s 1)).serial : Nat), .int .u64 ((Hd.pick (hd s 0) (hd s 1)).epoch : Nat), .int .u8 ((Hd.pick (hd s 0) (hd s 1)).live : Nat)] 24)
          have HFI : Hid (Boxed2 w0 (Hd.pick (hd s 0) (hd s 1)) (decide (0 < (Hd.pick (hd s 0) (hd s 1)).serial)) (.pointer (some ⟨y4.heap.size, 0, none⟩)) (.bool (decide (0 < (Hd.pick (hd s 0) (hd s 1)).serial))) (y4.alloc (.cells #[.int .u64 ((Hd.pick (hd s 0) (hd s 1)).serial : Nat), .int .u64 ((Hd.pick (hd s 0) (hd s 1)).epoch : Nat), .int .u8 ((Hd.pick (hd s 0) (hd s 1)).live : Nat)] 24))) := Lib.hid ⟨_, rfl, _, rfl, rfl, Blk.new_ y4 24 _ rfl, hS9⟩
          go_simp
          refine hK _ _ hS9 ?_
          clear hK K
          refine g_take (i := 10) rfl rfl (by kernel_rfl) (by kernel_rfl) (by kernel_rfl) (by kernel_rfl) (by kernel_rfl) (fun _ _ _ h => h) hS9 (fun L W hL hW => by go_simp; rfl) ?_
          refine wpAnyG_done (by kernel_rfl) ?_ _
          go_simp
          go_wp2_with fail
          go_meet
          exact HFI.out
        · have HSY := Lib.hid hS
          have HZB : Hid (Blk ((y1).alloc (.cells #[.int .u64 0, .int .u64 0, .int .u8 0] 24)) y1.heap.size 24 #[.int .u64 0, .int .u64 0, .int .u8 0]) := Lib.hid (Blk.new_ (y1) 24 #[.int .u64 0, .int .u64 0, .int .u8 0] rfl)
          have hS9 := hS.alloc hS.size (.cells #[.int .u64 0, .int .u64 0, .int .u8 0] 24)
          have HRF0 := Lib.hid (HRF0.out.below ((Below.refl _ _).alloc (Nat.le_refl _) (.cells #[.int .u64 0, .int .u64 0, .int .u8 0] 24)))
          have HRF1 := Lib.hid (HRF1.out.below ((Below.refl _ _).alloc (Nat.le_refl _) (.cells #[.int .u64 0, .int .u64 0, .int .u8 0] 24)))
          clear hS
          have hS := hS9
          clear hS9
          go_simp
          refine hK _ _ hS ?_
          clear hK K
          refine g_one (i := 4) rfl rfl (by kernel_rfl) fun K hK => ?_
          have HCK := Lib.hid (rpick A0 A1 c0 c1 n0 n1 (hd s 0) (hd s 1) HRF0.out.len HRF1.out.len HRF0.out.le HRF1.out.le HRF0.out.max HRF1.out.max _ HRF0.out.bytes HRF1.out.bytes)
          unfold HdW.hv at HCK
          go_simp
          refine Calls.mono HCK.out ?_
          rintro en y4 ⟨rfl, hb4⟩
          have hz0 := HZB.out.below hb4 HZB.out.lt
          have HZB := Lib.hid hz0
          clear hz0
          have hS := hS.trans (hb4.mono hS.size)
          clear HCK hb4
          refine hK _ _ hS ?_
          clear hK K
          refine g_take (i := 5) rfl rfl (by kernel_rfl) (by kernel_rfl) (by kernel_rfl) (by kernel_rfl) (by kernel_rfl) (fun _ _ _ h => h) hS (fun L W hL hW => by go_simp; rfl) ?_
          refine g_take (i := 6) rfl rfl (by kernel_rfl) (by kernel_rfl) (by kernel_rfl) (by kernel_rfl) (by kernel_rfl) (fun _ _ _ h => h) hS (fun L W hL hW => by go_simp; rfl) ?_
          refine g_take (i := 7) rfl rfl (by kernel_rfl) (by kernel_rfl) (by kernel_rfl) (by kernel_rfl) (by kernel_rfl) (fun _ _ _ h => h) hS (fun L W hL hW => by go_simp; rfl) ?_
          refine g_one (i := 9) rfl rfl (by kernel_rfl) fun K hK => ?_
          have q0 := HZB.out.at_ 0 (v := .int .u64 0) rfl
          have q1 := HZB.out.at_ 1 (v := .int .u64 0) rfl
          have q2 := HZB.out.at_ 2 (v := .int .u8 0) rfl
          have qf0 := HZB.out.frozen 0
          have qf1 := HZB.out.frozen 1
          have qf2 := HZB.out.frozen 2
          have hS9 := ((hS.setCell (p := ⟨y1.heap.size, 0, none⟩) HSY.out.size (.int .u64 ((Hd.pick (hd s 0) (hd s 1)).serial : Nat))).setCell (p := ⟨y1.heap.size, 1, none⟩) HSY.out.size (.int .u64 ((Hd.pick (hd s 0) (hd s 1)).epoch : Nat))).setCell (p := ⟨y1.heap.size, 2, none⟩) HSY.out.size (.int .u8 ((Hd.pick (hd s 0) (hd s 1)).live : Nat))
          have HFI : Hid (Boxed2 w0 (Hd.pick (hd s 0) (hd s 1)) (decide (0 < (Hd.pick (hd s 0) (hd s 1)).serial)) (.pointer (some ⟨y1.heap.size, 0, none⟩)) (.bool (decide (0 < (Hd.pick (hd s 0) (hd s 1)).serial))) (((y4.setCell ⟨y1.heap.size, 0, none⟩ (.int .u64 ((Hd.pick (hd s 0) (hd s 1)).serial : Nat))).setCell ⟨y1.heap.size, 1, none⟩ (.int .u64 ((Hd.pick (hd s 0) (hd s 1)).epoch : Nat))).setCell ⟨y1.heap.size, 2, none⟩ (.int .u8 ((Hd.pick (hd s 0) (hd s 1)).live : Nat)))) := Lib.hid ⟨_, rfl, _, rfl, rfl, ((HZB.out.set_ 0 (.int .u64 ((Hd.pick (hd s 0) (hd s 1)).serial : Nat))).set_ 1 (.int .u64 ((Hd.pick (hd s 0) (hd s 1)).epoch : Nat))).set_ 2 (.int .u8 ((Hd.pick (hd s 0) (hd s 1)).live : Nat)), hS9⟩
          go_simp
          clear q0 q1 q2 qf0 qf1 qf2
          refine hK _ _ hS9 ?_
          clear hK K
          refine g_take (i := 10) rfl rfl (by kernel_rfl) (by kernel_rfl) (by kernel_rfl) (by kernel_rfl) (by kernel_rfl) (fun _ _ _ h => h) hS9 (fun L W hL hW => by go_simp; rfl) ?_
          refine wpAnyG_done (by kernel_rfl) ?_ _
          go_simp
          go_wp2_with fail
          go_meet
          exact HFI.out
      · have HSY := Lib.hid hS
        have HZB : Hid (Blk ((y0).alloc (.cells #[.int .u64 0, .int .u64 0, .int .u8 0] 24)) y0.heap.size 24 #[.int .u64 0, .int .u64 0, .int .u8 0]) := Lib.hid (Blk.new_ (y0) 24 #[.int .u64 0, .int .u64 0, .int .u8 0] rfl)
        have hS9 := hS.alloc hS.size (.cells #[.int .u64 0, .int .u64 0, .int .u8 0] 24)
        have HRF0 := Lib.hid (HRF0.out.below ((Below.refl _ _).alloc (Nat.le_refl _) (.cells #[.int .u64 0, .int .u64 0, .int .u8 0] 24)))
        clear hS
        have hS := hS9
        clear hS9
        go_simp
        refine hK _ _ hS ?_
        clear hK K
        refine g_one (i := 3) rfl rfl (by kernel_rfl) fun K hK => ?_
        have HCK := Lib.hid (HH.out _ hS 1)
        unfold Dr.rval at HCK
        rw [← HX.out] at HCK
        go_simp
        refine Calls.mono HCK.out ?_
        rintro en y1 ⟨⟨⟨A1, n1, c1⟩, rfl, href1⟩, hb1⟩
        have HRF0 := Lib.hid (HRF0.out.below hb1)
        have hz0 := HZB.out.below hb1 HZB.out.lt
        have HZB := Lib.hid hz0
        clear hz0
        have hS := hS.trans (hb1.mono hS.size)
        have HRF1 := Lib.hid href1
        clear href1 HCK hb1
        refine hK _ _ hS ?_
        clear hK K
        refine g_one (i := 4) rfl rfl (by kernel_rfl) fun K hK => ?_
        have HCK := Lib.hid (rpick A0 A1 c0 c1 n0 n1 (hd s 0) (hd s 1) HRF0.out.len HRF1.out.len HRF0.out.le HRF1.out.le HRF0.out.max HRF1.out.max _ HRF0.out.bytes HRF1.out.bytes)
        unfold HdW.hv at HCK
        go_simp
        refine Calls.mono HCK.out ?_
        rintro en y4 ⟨rfl, hb4⟩
        have hz0 := HZB.out.below hb4 HZB.out.lt
        have HZB := Lib.hid hz0
        clear hz0
        have hS := hS.trans (hb4.mono hS.size)
        clear HCK hb4
        refine hK _ _ hS ?_
        clear hK K
        refine g_take (i := 5) rfl rfl (by kernel_rfl) (by kernel_rfl) (by kernel_rfl) (by kernel_rfl) (by kernel_rfl) (fun _ _ _ h => h) hS (fun L W hL hW => by go_simp; rfl) ?_
        refine g_take (i := 6) rfl rfl (by kernel_rfl) (by kernel_rfl) (by kernel_rfl) (by kernel_rfl) (by kernel_rfl) (fun _ _ _ h => h) hS (fun L W hL hW => by go_simp; rfl) ?_
        refine g_take (i := 7) rfl rfl (by kernel_rfl) (by kernel_rfl) (by kernel_rfl) (by kernel_rfl) (by kernel_rfl) (fun _ _ _ h => h) hS (fun L W hL hW => by go_simp; rfl) ?_
        refine g_one (i := 9) rfl rfl (by kernel_rfl) fun K hK => ?_
        have q0 := HZB.out.at_ 0 (v := .int .u64 0) rfl
        have q1 := HZB.out.at_ 1 (v := .int .u64 0) rfl
        have q2 := HZB.out.at_ 2 (v := .int .u8 0) rfl
        have qf0 := HZB.out.frozen 0
        have qf1 := HZB.out.frozen 1
        have qf2 := HZB.out.frozen 2
        have hS9 := ((hS.setCell (p := ⟨y0.heap.size, 0, none⟩) HSY.out.size (.int .u64 ((Hd.pick (hd s 0) (hd s 1)).serial : Nat))).setCell (p := ⟨y0.heap.size, 1, none⟩) HSY.out.size (.int .u64 ((Hd.pick (hd s 0) (hd s 1)).epoch : Nat))).setCell (p := ⟨y0.heap.size, 2, none⟩) HSY.out.size (.int .u8 ((Hd.pick (hd s 0) (hd s 1)).live : Nat))
        have HFI : Hid (Boxed2 w0 (Hd.pick (hd s 0) (hd s 1)) (decide (0 < (Hd.pick (hd s 0) (hd s 1)).serial)) (.pointer (some ⟨y0.heap.size, 0, none⟩)) (.bool (decide (0 < (Hd.pick (hd s 0) (hd s 1)).serial))) (((y4.setCell ⟨y0.heap.size, 0, none⟩ (.int .u64 ((Hd.pick (hd s 0) (hd s 1)).serial : Nat))).setCell ⟨y0.heap.size, 1, none⟩ (.int .u64 ((Hd.pick (hd s 0) (hd s 1)).epoch : Nat))).setCell ⟨y0.heap.size, 2, none⟩ (.int .u8 ((Hd.pick (hd s 0) (hd s 1)).live : Nat)))) := Lib.hid ⟨_, rfl, _, rfl, rfl, ((HZB.out.set_ 0 (.int .u64 ((Hd.pick (hd s 0) (hd s 1)).serial : Nat))).set_ 1 (.int .u64 ((Hd.pick (hd s 0) (hd s 1)).epoch : Nat))).set_ 2 (.int .u8 ((Hd.pick (hd s 0) (hd s 1)).live : Nat)), hS9⟩
        go_simp
        clear q0 q1 q2 qf0 qf1 qf2
        refine hK _ _ hS9 ?_
        clear hK K
        refine g_take (i := 10) rfl rfl (by kernel_rfl) (by kernel_rfl) (by kernel_rfl) (by kernel_rfl) (by kernel_rfl) (fun _ _ _ h => h) hS9 (fun L W hL hW => by go_simp; rfl) ?_
        refine wpAnyG_done (by kernel_rfl) ?_ _
        go_simp
        go_wp2_with fail
        go_meet
        exact HFI.out
    · have HSY := Lib.hid hS
      have HZB : Hid (Blk ((w0.drew).alloc (.cells #[.int .u64 0, .int .u64 0, .int .u8 0] 24)) w0.heap.size 24 #[.int .u64 0, .int .u64 0, .int .u8 0]) := Lib.hid (Blk.new_ (w0.drew) 24 #[.int .u64 0, .int .u64 0, .int .u8 0] rfl)
      have hS9 := hS.alloc hS.size (.cells #[.int .u64 0, .int .u64 0, .int .u8 0] 24)
      skip
      clear hS
      have hS := hS9
      clear hS9
      go_simp
      refine hK _ _ hS ?_
      clear hK K
      refine g_one (i := 1) rfl rfl (by kernel_rfl) fun K hK => ?_
      have HCK := Lib.hid (HH.out _ hS 0)
      unfold Dr.rval at HCK
      rw [← HX.out] at HCK
      go_simp
      refine Calls.mono HCK.out ?_
      rintro en y0 ⟨⟨⟨A0, n0, c0⟩, rfl, href0⟩, hb0⟩
      have hz0 := HZB.out.below hb0 HZB.out.lt
      have HZB := Lib.hid hz0
      clear hz0
      have hS := hS.trans (hb0.mono hS.size)
      have HRF0 := Lib.hid href0
      clear href0 HCK hb0
      refine hK _ _ hS ?_
      clear hK K
      refine g_one (i := 3) rfl rfl (by kernel_rfl) fun K hK => ?_
      have HCK := Lib.hid (HH.out _ hS 1)
      unfold Dr.rval at HCK
      rw [← HX.out] at HCK
      go_simp
      refine Calls.mono HCK.out ?_
      rintro en y1 ⟨⟨⟨A1, n1, c1⟩, rfl, href1⟩, hb1⟩
      have HRF0 := Lib.hid (HRF0.out.below hb1)
      have hz0 := HZB.out.below hb1 HZB.out.lt
      have HZB := Lib.hid hz0
      clear hz0
      have hS := hS.trans (hb1.mono hS.size)
      have HRF1 := Lib.hid href1
      clear href1 HCK hb1
      refine hK _ _ hS ?_
      clear hK K
      refine g_one (i := 4) rfl rfl (by kernel_rfl) fun K hK => ?_
      have HCK := Lib.hid (rpick A0 A1 c0 c1 n0 n1 (hd s 0) (hd s 1) HRF0.out.len HRF1.out.len HRF0.out.le HRF1.out.le HRF0.out.max HRF1.out.max _ HRF0.out.bytes HRF1.out.bytes)
      unfold HdW.hv at HCK
      go_simp
      refine Calls.mono HCK.out ?_
      rintro en y4 ⟨rfl, hb4⟩
      have hz0 := HZB.out.below hb4 HZB.out.lt
      have HZB := Lib.hid hz0
      clear hz0
      have hS := hS.trans (hb4.mono hS.size)
      clear HCK hb4
      refine hK _ _ hS ?_
      clear hK K
      refine g_take (i := 5) rfl rfl (by kernel_rfl) (by kernel_rfl) (by kernel_rfl) (by kernel_rfl) (by kernel_rfl) (fun _ _ _ h => h) hS (fun L W hL hW => by go_simp; rfl) ?_
      refine g_take (i := 6) rfl rfl (by kernel_rfl) (by kernel_rfl) (by kernel_rfl) (by kernel_rfl) (by kernel_rfl) (fun _ _ _ h => h) hS (fun L W hL hW => by go_simp; rfl) ?_
      refine g_take (i := 7) rfl rfl (by kernel_rfl) (by kernel_rfl) (by kernel_rfl) (by kernel_rfl) (by kernel_rfl) (fun _ _ _ h => h) hS (fun L W hL hW => by go_simp; rfl) ?_
      refine g_one (i := 9) rfl rfl (by kernel_rfl) fun K hK => ?_
      have q0 := HZB.out.at_ 0 (v := .int .u64 0) rfl
      have q1 := HZB.out.at_ 1 (v := .int .u64 0) rfl
      have q2 := HZB.out.at_ 2 (v := .int .u8 0) rfl
      have qf0 := HZB.out.frozen 0
      have qf1 := HZB.out.frozen 1
      have qf2 := HZB.out.frozen 2
      have hS9 := ((hS.setCell (p := ⟨w0.heap.size, 0, none⟩) HSY.out.size (.int .u64 ((Hd.pick (hd s 0) (hd s 1)).serial : Nat))).setCell (p := ⟨w0.heap.size, 1, none⟩) HSY.out.size (.int .u64 ((Hd.pick (hd s 0) (hd s 1)).epoch : Nat))).setCell (p := ⟨w0.heap.size, 2, none⟩) HSY.out.size (.int .u8 ((Hd.pick (hd s 0) (hd s 1)).live : Nat))
      have HFI : Hid (Boxed2 w0 (Hd.pick (hd s 0) (hd s 1)) (decide (0 < (Hd.pick (hd s 0) (hd s 1)).serial)) (.pointer (some ⟨w0.heap.size, 0, none⟩)) (.bool (decide (0 < (Hd.pick (hd s 0) (hd s 1)).serial))) (((y4.setCell ⟨w0.heap.size, 0, none⟩ (.int .u64 ((Hd.pick (hd s 0) (hd s 1)).serial : Nat))).setCell ⟨w0.heap.size, 1, none⟩ (.int .u64 ((Hd.pick (hd s 0) (hd s 1)).epoch : Nat))).setCell ⟨w0.heap.size, 2, none⟩ (.int .u8 ((Hd.pick (hd s 0) (hd s 1)).live : Nat)))) := Lib.hid ⟨_, rfl, _, rfl, rfl, ((HZB.out.set_ 0 (.int .u64 ((Hd.pick (hd s 0) (hd s 1)).serial : Nat))).set_ 1 (.int .u64 ((Hd.pick (hd s 0) (hd s 1)).epoch : Nat))).set_ 2 (.int .u8 ((Hd.pick (hd s 0) (hd s 1)).live : Nat)), hS9⟩
      go_simp
      clear q0 q1 q2 qf0 qf1 qf2
      refine hK _ _ hS9 ?_
      clear hK K
      refine g_take (i := 10) rfl rfl (by kernel_rfl) (by kernel_rfl) (by kernel_rfl) (by kernel_rfl) (by kernel_rfl) (fun _ _ _ h => h) hS9 (fun L W hL hW => by go_simp; rfl) ?_
      refine wpAnyG_done (by kernel_rfl) ?_ _
      go_simp
      go_wp2_with fail
      go_meet
      exact HFI.out
  case rest =>
  obtain ⟨w1, rfl, r, rfl, rfl, hb4, hlow2⟩ := hcut
  have HB4 := Lib.hid hb4
  have HRES2 := Lib.hid (HRES.out.below hlow2 HRES.out.lt)
  have HLOW2 := Lib.hid (HLOW.out.trans (hlow2.mono HLOW.out.size))
  clear hb4 hlow2 HRES HLOW HBX HRV HH HX
  generalize Hd.pick (hd s 0) (hd s 1) = p at *
  by_cases hp : 0 < p.serial
  · rw [if_pos hp] at HR
    have hpd : decide (0 < p.serial) = true := decide_eq_true hp
    rw [hpd]
    clear hpd hp
    go_wp2_with (first | (refine wpList_load_row rfl 24 (.tmp 4) rfl r rfl 24 (hv p) _ _ HB4.out.out Try.underlying24 rfl (by kernel_rfl) ?_) | (refine wpList_put_row rfl rfl 24 (.tmp 2) _ rfl (w.heap.size + 1) rfl 24 _ (hv p) rfl HRES2.out (by kernel_rfl) rfl (hv_one _) ?_))
    refine bodyPost_ret (results_cell_row2 rfl _ _ (w.heap.size + 1) 24 (hv p) (0, 0) _ rfl (HRES2.out.row _).out Try.underlying24 rfl (by kernel_rfl)) rfl ?_
    rw [HR.out]
    exact ⟨rfl, below_rowH HLOW2.out (Nat.le_succ _) _⟩
  · rw [if_neg hp] at HR
    have hpd : decide (0 < p.serial) = false := decide_eq_false hp
    rw [hpd]
    clear hpd hp
    go_wp2_with (refine wpList_put_row rfl rfl 24 (.tmp 2) _ rfl (w.heap.size + 1) rfl 24 _ #[.int .u64 0, .int .u64 0, .int .u8 0] rfl HRES2.out (by kernel_rfl) rfl (hv_one ⟨0, 0, 0⟩) ?_)
    refine bodyPost_ret (results_cell_row2 rfl _ _ (w.heap.size + 1) 24 #[.int .u64 0, .int .u64 0, .int .u8 0] (0, 0) _ rfl (HRES2.out.row _).out Try.underlying24 rfl (by kernel_rfl)) rfl ?_
    rw [HR.out]
    exact ⟨rfl, below_rowH HLOW2.out (Nat.le_succ _) _⟩
end Go.Proofs.Ytpohefpiidlnjaa.Hr
