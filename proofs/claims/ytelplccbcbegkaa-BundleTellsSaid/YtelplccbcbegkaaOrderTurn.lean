/-
  The walk of turn.
-/
import Derived.Test.YtelplccbcbegkaaOrderPart2
namespace Go.Proofs.Ytelplccbcbegkaa.OrW
set_option linter.unusedVariables false
open Go Go.RowKit Go.Maps Go.Proofs Go.Proofs.Ytelplccbcbegkaa Go.Proofs.Ytelplccbcbegkaa.Wd Go.Proofs.Ytelplccbcbegkaa.GrW Go.Proofs.Ytelplccbcbegkaa.Ord
open Go.Proofs.Ytelplccbcbegkaa.Gr (OK putL outs intos Path)

theorem enters {f : FuncId} {fn : Func} {c : Code} (hf : Try.prog.funcs[f]? = some fn) (hname : (fn.name == "runtime.NumGoroutine") = false) (hb : fn.body = some c) (args : Array Value) (w : World) :
    (callFunc f args).run Try.prog w = .ok (.enter f args) w := by
  have h1 : fn.name ≠ "runtime.NumGoroutine" := by simpa using hname
  simp [callFunc, hf, h1, hb]
theorem turn1_any (w : World) (b : Nat) (p high : Nat) (h : w.cell? ⟨b, 0, none⟩ = some (.int .i64 (high : Nat))) : Calls Try.prog 67 #[.int .i64 (p : Nat), .pointer (some ⟨b, 0, none⟩)] w fun e w' => e = .returned (.bool (decide (p ≤ high))) ∧ w = w' := by
  go_enter Try.func67, Try.ntmps67
  go_wp2_with fail
  go_ret
  have e : decide (p ≤ high) = decide ((p : Int) ≤ (high : Int)) := by
    rw [Bool.eq_iff_iff, decide_eq_true_eq, decide_eq_true_eq]; omega
  exact ⟨by rw [e]; rfl, rfl⟩
theorem turn2_any (w : World) (b : Nat) (p low : Nat) (h : w.cell? ⟨b, 0, none⟩ = some (.int .i64 (low : Nat))) : Calls Try.prog 68 #[.int .i64 (p : Nat), .pointer (some ⟨b, 0, none⟩)] w fun e w' => e = .returned (.bool (decide (low ≤ p))) ∧ w = w' := by
  go_enter Try.func68, Try.ntmps68
  go_wp2_with fail
  go_ret
  have e : decide (low ≤ p) = decide ((low : Int) ≤ (p : Int)) := by
    rw [Bool.eq_iff_iff, decide_eq_true_eq, decide_eq_true_eq]; omega
  exact ⟨by rw [e]; rfl, rfl⟩
theorem outE_nat {n : Nat} (L : List (List Int)) {x : Nat} (hx : x < n) : outE n L (x : Nat) = outs L x := by
  unfold outE outs
  rw [if_pos (by unfold isV; simp; omega), Int.toNat_natCast]
theorem intoE_nat {n : Nat} (L : List (List Int)) {x : Nat} (hx : x < n) : intoE n L (x : Nat) = intos L x := by
  unfold intoE intos
  rw [if_pos (by unfold isV; simp; omega), Int.toNat_natCast]
theorem nm_out {w : World} {base g n : Nat} {Fg : Nat → Prop} {L : List (List Int)} (h : GAt w base Fg g n L) (ok : OK n L) (hn : n ≤ 30000) {b high : Nat} (hb : Blk w b 3 #[.int .i64 (high : Nat)]) : NM w 56 67 g b n (outs L) (fun p => decide (p ≤ high)) where
  inN := enters Try.func56 (by kernel_rfl) rfl
  inM := enters Try.func67 (by kernel_rfl) rfl
  next := fun W hW x hx => by
    have := out_any W base g n Fg L (h.below hW) (ok.rises hn) (x : Nat)
    rw [outE_nat L hx] at this
    exact this
  may := fun W hW p => turn1_any W b p high ((hb.below hW hb.lt).at_ 0 rfl)
  inside := fun x hx z hz => ok.ins _ _ hz
  few := fun x hx => Nat.le_trans (ok.many _) hn
theorem nm_in {w : World} {base g n : Nat} {Fg : Nat → Prop} {L : List (List Int)} (h : GAt w base Fg g n L) (ok : OK n L) (hn : n ≤ 30000) {b low : Nat} (hb : Blk w b 3 #[.int .i64 (low : Nat)]) : NM w 54 68 g b n (intos L) (fun p => decide (low ≤ p)) where
  inN := enters Try.func54 (by kernel_rfl) rfl
  inM := enters Try.func68 (by kernel_rfl) rfl
  next := fun W hW x hx => by
    have := into_any W base g n Fg L (h.below hW) (ok.rises hn) (x : Nat)
    rw [intoE_nat L hx] at this
    exact this
  may := fun W hW p => turn2_any W b p low ((hb.below hW hb.lt).at_ 0 rfl)
  inside := fun x hx z hz => ok.ins _ _ hz
  few := fun x hx => Nat.le_trans (ok.many _) hn
/-- What a turn answers. -/
def TurnOut (base : Nat) (F : Nat → Prop) (o n : Nat) (L : List (List Int)) (P A : List Nat) (u v : Nat) (w : World) (e : Ending) (w' : World) : Prop :=
  (Path L v u ∧ e = .returned (.tuple #[.int .i64 0, .int .i64 25]) ∧ Below w.heap.size w w') ∨
  (¬ Path L v u ∧ ∃ back fore pl, IsPart (intos L) (fun y => decide (P.getD v 0 ≤ P.getD y 0)) P u back ∧ IsPart (outs L) (fun y => decide (P.getD y 0 ≤ P.getD u 0)) P v fore ∧ pl.Pairwise (· < ·) ∧ pl.Perm (back ++ fore) ∧
    e = .returned (.tuple #[.int .i64 (moved n P (newP P A back fore pl) : Nat), .int .i64 0]) ∧ OUpd base F o n L (newP P A back fore pl) (newA A back fore pl) w w')
theorem mem_zs_iff {l : List Nat} {k : Nat} : (zs l).contains (k : Int) = decide (k ∈ l) := by
  rw [Bool.eq_iff_iff, List.contains_iff_mem, mem_zs, decide_eq_true_eq]
set_option maxRecDepth 100000 in
set_option maxHeartbeats 16000000 in
theorem turn_any (w : World) (base o n : Nat) (F : Nat → Prop) (L : List (List Int)) (P A : List Nat) (hO0 : OAt w base F o n L P A) (ok : OK n L) (hP : Perm n P A) (hup : Up L P) (hn15 : n ≤ 15000) (u v : Nat) (hu : u < n) (hv : v < n) :
    Calls Try.prog 50 #[.pointer (some ⟨o, 0, none⟩), .int .i64 (u : Nat), .int .i64 (v : Nat)] w (TurnOut base F o n L P A u v w) := by
  have hn : n ≤ 30000 := by omega
  obtain ⟨g, vp, va, Fg, hO1⟩ := hO0
  have hO := hO1.exist
  generalize hF0 : (fun k => F k ∧ k < w.heap.size) = F0 at hO
  have HF0 := Lib.hid hF0
  generalize hG0 : (fun k => Fg k ∧ k < w.heap.size) = G0 at hO
  clear hO1 hF0 hG0
  have HO := Lib.hid hO
  have HOK := Lib.hid ok
  have HP := Lib.hid hP
  have HUP := Lib.hid hup
  obtain ⟨Ap, cp, hvp⟩ := hO.rowp
  obtain ⟨Aa, ca, hva⟩ := hO.rowa
  rw [hP.lp] at hvp
  rw [hP.la] at hva
  obtain ⟨b1, f1, d1, e1, k1, -⟩ := hO.place (i := u) (by rw [hP.lp]; exact hu) 0
  obtain ⟨b2, f2, d2, e2, k2, -⟩ := hO.place (i := v) (by rw [hP.lp]; exact hv) 0
  rw [hP.lp] at e1 e2
  have e3 := e1.symm.trans e2
  simp only [Value.slice.injEq, Option.some.injEq, Addr.mk.injEq, and_true, true_and] at e3
  obtain ⟨⟨rfl, rfl⟩, rfl⟩ := e3
  have HVP := Lib.hid e1
  obtain ⟨c0, c1, c2⟩ := hO.cells
  rw [e1] at c1
  have i1 : (0 : Int) ≤ (u : Int) := by omega
  have i2 : (u : Int) < (n : Int) := by omega
  have j1 : (0 : Int) ≤ (v : Int) := by omega
  have j2 : (v : Int) < (n : Int) := by omega
  clear hO ok hP hup hvp hva e1 e2
  generalize hpu : P.getD u 0 = pu at *
  generalize hpv : P.getD v 0 = pv at *
  have HPU := Lib.hid hpu
  have HPV := Lib.hid hpv
  clear hpu hpv
  go_enter Try.func50, Try.ntmps50
  go_upto_region 1 with fail
  go_cut [8, 9] (fun a b wx => ∃ bl bh, a = .pointer (some ⟨bl, 0, none⟩) ∧ b = .pointer (some ⟨bh, 0, none⟩) ∧ Hid (Below w.heap.size w wx ∧ Blk wx bl 3 #[.int .i64 (pv : Nat)] ∧ Blk wx bh 3 #[.int .i64 (pu : Nat)]))
  case first =>
    go_wp2_with fail
    have HCL : Hid (∀ W, Below w.heap.size w W → W.cell? ⟨o, 1, none⟩ = some (.slice (some ⟨b1, f1, none⟩) n d1) ∧ W.cell? ⟨b1, f1 + u, none⟩ = some (.int .i64 (pu : Nat)) ∧ W.cell? ⟨b1, f1 + v, none⟩ = some (.int .i64 (pv : Nat))) := Lib.hid (fun W hW => ⟨(hW.cell (p := ⟨o, 1, none⟩) (GrW.lt_of_cell c1)).trans c1, (hW.cell (p := ⟨b1, f1 + u, none⟩) (GrW.lt_of_cell k1)).trans k1, (hW.cell (p := ⟨b1, f1 + v, none⟩) (GrW.lt_of_cell k2)).trans k2⟩)
    clear c1 k1 k2
    have hS : Below w.heap.size w w.drew := (Below.refl _ w).drew
    refine wp_region_heldG [] (fun _ W => Below w.heap.size w W) (by kernel_rfl) ?_
    change wpAnyG _ _ _ _ _ _ 18 _ _ w.drew
    refine g_take (i := 0) rfl rfl (by kernel_rfl) (by kernel_rfl) (by kernel_rfl) (by kernel_rfl) (by kernel_rfl) (fun _ _ _ h => h) hS (fun L' W' hL hW => by go_simp; rfl) ?_
    refine g_take (i := 1) rfl rfl (by kernel_rfl) (by kernel_rfl) (by kernel_rfl) (by kernel_rfl) (by kernel_rfl) (fun _ _ _ h => h) hS (fun L' W' hL hW => by go_simp; rfl) ?_
    refine g_take (i := 2) rfl rfl (by kernel_rfl) (by kernel_rfl) (by kernel_rfl) (by kernel_rfl) (by kernel_rfl) (fun _ _ _ h => h) hS (fun L' W' hL hW => by go_simp; rfl) ?_
    refine g_take (i := 3) rfl rfl (by kernel_rfl) (by kernel_rfl) (by kernel_rfl) (by kernel_rfl) (by kernel_rfl) (fun _ _ _ h => h) hS (fun L' W' hL hW => by obtain ⟨k0, k1, k2⟩ := HCL.out _ hW; go_simp; rfl) ?_
    refine g_take (i := 4) rfl rfl (by kernel_rfl) (by kernel_rfl) (by kernel_rfl) (by kernel_rfl) (by kernel_rfl) (fun _ _ _ h => h) hS (fun L' W' hL hW => by go_simp; rfl) ?_
    refine g_take (i := 5) rfl rfl (by kernel_rfl) (by kernel_rfl) (by kernel_rfl) (by kernel_rfl) (by kernel_rfl) (fun _ _ _ h => h) hS (fun L' W' hL hW => by go_simp; rfl) ?_
    refine g_take (i := 6) rfl rfl (by kernel_rfl) (by kernel_rfl) (by kernel_rfl) (by kernel_rfl) (by kernel_rfl) (fun _ _ _ h => h) hS (fun L' W' hL hW => by obtain ⟨k0, k1, k2⟩ := HCL.out _ hW; go_simp; rfl) ?_
    refine g_take (i := 7) rfl rfl (by kernel_rfl) (by kernel_rfl) (by kernel_rfl) (by kernel_rfl) (by kernel_rfl) (fun _ _ _ h => h) hS (fun L' W' hL hW => by go_simp; rfl) ?_
    refine g_take (i := 8) rfl rfl (by kernel_rfl) (by kernel_rfl) (by kernel_rfl) (by kernel_rfl) (by kernel_rfl) (fun _ _ _ h => h) hS (fun L' W' hL hW => by go_simp; rfl) ?_
    refine g_take (i := 9) rfl rfl (by kernel_rfl) (by kernel_rfl) (by kernel_rfl) (by kernel_rfl) (by kernel_rfl) (fun _ _ _ h => h) hS (fun L' W' hL hW => by go_simp; rfl) ?_
    refine g_take (i := 10) rfl rfl (by kernel_rfl) (by kernel_rfl) (by kernel_rfl) (by kernel_rfl) (by kernel_rfl) (fun _ _ _ h => h) hS (fun L' W' hL hW => by obtain ⟨k0, k1, k2⟩ := HCL.out _ hW; go_simp; rfl) ?_
    refine g_take (i := 11) rfl rfl (by kernel_rfl) (by kernel_rfl) (by kernel_rfl) (by kernel_rfl) (by kernel_rfl) (fun _ _ _ h => h) hS (fun L' W' hL hW => by go_simp; rfl) ?_
    refine g_take (i := 12) rfl rfl (by kernel_rfl) (by kernel_rfl) (by kernel_rfl) (by kernel_rfl) (by kernel_rfl) (fun _ _ _ h => h) hS (fun L' W' hL hW => by go_simp; rfl) ?_
    refine g_take (i := 13) rfl rfl (by kernel_rfl) (by kernel_rfl) (by kernel_rfl) (by kernel_rfl) (by kernel_rfl) (fun _ _ _ h => h) hS (fun L' W' hL hW => by obtain ⟨k0, k1, k2⟩ := HCL.out _ hW; go_simp; rfl) ?_
    refine g_two (i := 14) (j := 15) (by kernel_rfl) rfl rfl rfl rfl (fun K' hK => ?_) (fun K' hK => ?_)
    · go_simp
      have hS1 : Below w.heap.size w (w.alloc (.cells #[.int .i64 0] 3)).drew := ((Below.refl _ w).alloc (Nat.le_refl _) _).drew
      refine hK _ _ hS1 ?_
      clear hK K'
      refine g_one (i := 15) rfl rfl (by kernel_rfl) fun K' hK => ?_
      go_simp
      have z1 : Blk (((w.alloc (.cells #[.int .i64 0] 3)).alloc (.cells #[.int .i64 0] 3)).drew) w.heap.size 3 #[.int .i64 0] := ((Blk.new_ w 3 #[.int .i64 0] rfl).alloc _).drew
      have z2 : Blk (((w.alloc (.cells #[.int .i64 0] 3)).alloc (.cells #[.int .i64 0] 3)).drew) (w.heap.size + 1) 3 #[.int .i64 0] := (Blk.new_ _ 3 #[.int .i64 0] (by simp)).drew
      have hS2 : Below w.heap.size w (((w.alloc (.cells #[.int .i64 0] 3)).alloc (.cells #[.int .i64 0] 3)).drew) := (((Below.refl _ w).alloc (Nat.le_refl _) _).alloc (by simp) _).drew
      refine hK _ _ hS2 ?_
      clear hK K' hS1
      generalize ((w.alloc (.cells #[.int .i64 0] 3)).alloc (.cells #[.int .i64 0] 3)).drew = w2 at *
      have y1 := z1.at_ 0 rfl
      have y2 := z2.at_ 0 rfl
      have x1 := z1.frozen 0
      have x2 := z2.frozen 0
      refine g_one (i := 16) rfl rfl (by kernel_rfl) fun K' hK => ?_
      go_simp
      have hS3 := hS2.setCell (p := ⟨w.heap.size, 0, none⟩) (by show w.heap.size ≤ w.heap.size; omega) (.int .i64 (pv : Nat))
      refine hK _ _ hS3 ?_
      clear hK K'
      have v1 := z1.set_ 0 (.int .i64 (pv : Nat))
      have v2 := z2.farN (b := w.heap.size) (o := 0) (by omega) (.int .i64 (pv : Nat))
      have y3 := v2.at_ 0 rfl
      have x3 := v2.frozen 0
      refine g_one (i := 17) rfl rfl (by kernel_rfl) fun K' hK => ?_
      go_simp
      have hS4 := hS3.setCell (p := ⟨(w.heap.size + 1), 0, none⟩) (by show w.heap.size ≤ (w.heap.size + 1); omega) (.int .i64 (pu : Nat))
      refine hK _ _ hS4 ?_
      clear hK K'
      have v3 := v2.set_ 0 (.int .i64 (pu : Nat))
      have v4 := v1.farN (b := (w.heap.size + 1)) (o := 0) (by omega) (.int .i64 (pu : Nat))
      refine wpAnyG_done (by kernel_rfl) ?_ _
      have HN := Lib.hid (And.intro hS4 (And.intro v4 v3))
      clear hS hS2 hS3 hS4 v1 v2 v3 v4 y1 y2 y3 x1 x2 x3 z1 z2 HCL
      go_simp
      go_wp2_with fail
      go_meet
      exact ⟨_, _, rfl, rfl, HN⟩
    · go_simp
      have hS1 : Below w.heap.size w (w.alloc (.cells #[.int .i64 0] 3)).drew := ((Below.refl _ w).alloc (Nat.le_refl _) _).drew
      refine hK _ _ hS1 ?_
      clear hK K'
      refine g_one (i := 14) rfl rfl (by kernel_rfl) fun K' hK => ?_
      go_simp
      have z1 : Blk (((w.alloc (.cells #[.int .i64 0] 3)).alloc (.cells #[.int .i64 0] 3)).drew) w.heap.size 3 #[.int .i64 0] := ((Blk.new_ w 3 #[.int .i64 0] rfl).alloc _).drew
      have z2 : Blk (((w.alloc (.cells #[.int .i64 0] 3)).alloc (.cells #[.int .i64 0] 3)).drew) (w.heap.size + 1) 3 #[.int .i64 0] := (Blk.new_ _ 3 #[.int .i64 0] (by simp)).drew
      have hS2 : Below w.heap.size w (((w.alloc (.cells #[.int .i64 0] 3)).alloc (.cells #[.int .i64 0] 3)).drew) := (((Below.refl _ w).alloc (Nat.le_refl _) _).alloc (by simp) _).drew
      refine hK _ _ hS2 ?_
      clear hK K' hS1
      generalize ((w.alloc (.cells #[.int .i64 0] 3)).alloc (.cells #[.int .i64 0] 3)).drew = w2 at *
      have y1 := z1.at_ 0 rfl
      have y2 := z2.at_ 0 rfl
      have x1 := z1.frozen 0
      have x2 := z2.frozen 0
      refine g_one (i := 16) rfl rfl (by kernel_rfl) fun K' hK => ?_
      go_simp
      have hS3 := hS2.setCell (p := ⟨(w.heap.size + 1), 0, none⟩) (by show w.heap.size ≤ (w.heap.size + 1); omega) (.int .i64 (pv : Nat))
      refine hK _ _ hS3 ?_
      clear hK K'
      have v1 := z2.set_ 0 (.int .i64 (pv : Nat))
      have v2 := z1.farN (b := (w.heap.size + 1)) (o := 0) (by omega) (.int .i64 (pv : Nat))
      have y3 := v2.at_ 0 rfl
      have x3 := v2.frozen 0
      refine g_one (i := 17) rfl rfl (by kernel_rfl) fun K' hK => ?_
      go_simp
      have hS4 := hS3.setCell (p := ⟨w.heap.size, 0, none⟩) (by show w.heap.size ≤ w.heap.size; omega) (.int .i64 (pu : Nat))
      refine hK _ _ hS4 ?_
      clear hK K'
      have v3 := v2.set_ 0 (.int .i64 (pu : Nat))
      have v4 := v1.farN (b := w.heap.size) (o := 0) (by omega) (.int .i64 (pu : Nat))
      refine wpAnyG_done (by kernel_rfl) ?_ _
      have HN := Lib.hid (And.intro hS4 (And.intro v4 v3))
      clear hS hS2 hS3 hS4 v1 v2 v3 v4 y1 y2 y3 x1 x2 x3 z1 z2 HCL
      go_simp
      go_wp2_with fail
      go_meet
      exact ⟨_, _, rfl, rfl, HN⟩
  case rest =>
  obtain ⟨bl, bh, rfl, rfl, HC⟩ := hcut
  have HO1 := Lib.hid (HO.out.below HC.out.1)
  have HBL := Lib.hid HC.out.2.1
  have HBH := Lib.hid HC.out.2.2
  have HB1 := Lib.hid HC.out.1
  have hc0 := HO1.out.cells.1
  clear HC c0 c1 c2 k1 k2
  generalize hwc : wc = w1 at *
  clear hwc
  go_wp2_with fail
  have hp1 := part_any w1 base o n g bh 56 67 F0 G0 L P A vp va HO1.out HP.out hn (outs L) _ (nm_out HO1.out.gr HOK.out hn HBH.out) v hv
  refine Calls.mono hp1 ?_
  rintro e w2 ⟨fore, hf, vf, rfl, o2, b2⟩
  clear hp1
  rw [← HPU.out] at hf
  have HF := Lib.hid hf
  obtain ⟨Af, cf, rfl⟩ := own_form o2
  have HFO := Lib.hid o2
  have HO2 := Lib.hid (HO1.out.below b2)
  have HBL2 := Lib.hid (HBL.out.below b2 HBL.out.lt)
  have hh2 := (HBH.out.below b2 HBH.out.lt).at_ 0 rfl
  have HB2 := Lib.hid (HB1.out.trans (b2.mono HB1.out.size))
  have HW1 := Lib.hid HB1.out.size
  have hfl : fore.length ≤ n := nodup_le (rise_nodup hf.1) (part_lt HP.out hf fun y hy => (way_path hy).lt HOK.out hv)
  have HSR := Lib.hid (search_any w2 w1.heap.size _ (zs fore) (IRow.of_own o2) (by rw [zs_length]; omega) (by
    unfold zs
    rw [List.pairwise_map]
    exact hf.1.imp fun h => by omega) (pu : Nat))
  clear hf o2 b2 HO1 HBL HBH HB1 hc0
  rw [mem_zs_iff] at HSR
  generalize hfz : (zs fore).length = mf at *
  have HFZ := Lib.hid hfz
  clear hfz
  go_wp2_with fail
  refine Calls.mono HSR.out ?_
  rintro e w3 ⟨rfl, q3, rfl⟩
  have b3 : Below w2.heap.size w2 (w2.drewN q3) := bdrewN (Below.refl _ _) q3
  have HO3 := Lib.hid (HO2.out.below b3)
  have HBL3 := Lib.hid (HBL2.out.below b3 HBL2.out.lt)
  have HB3 := Lib.hid (HB2.out.trans (b3.mono HB2.out.size))
  have HFO3 := Lib.hid (own_belowW HFO.out b3)
  clear HSR b3 HO2 HBL2 HB2 HFO hh2
  generalize w2.drewN q3 = w3 at *
  by_cases hcy : pu ∈ fore
  · rw [decide_eq_true hcy]
    have HFIN : Hid (TurnOut base F o n L P A u v w (.returned (.tuple #[.int .i64 0, .int .i64 25])) w3) := Lib.hid (.inl ⟨(fore_cycle HOK.out HP.out HUP.out hu hv HF.out).1 (by rw [HPU.out]; exact hcy), rfl, HB3.out⟩)
    clear hcy HO3 HBL3 HB3 HFO3
    generalize List.countP _ _ = cc
    go_wp2_with fail
    go_ret2
    exact HFIN.out
  · rw [decide_eq_false hcy]
    have HNC : Hid (¬ Path L v u) := Lib.hid (fun h => hcy (by rw [← HPU.out]; exact (fore_cycle HOK.out HP.out HUP.out hu hv HF.out).2 h))
    have hc0 := HO3.out.cells.1
    clear hcy
    generalize List.countP _ _ = cc
    go_wp2_with fail
    have hp1 := part_any w3 base o n g bl 54 68 F0 G0 L P A vp va HO3.out HP.out hn (intos L) _ (nm_in HO3.out.gr HOK.out hn HBL3.out) u hu
    refine Calls.mono hp1 ?_
    rintro e w4 ⟨back, hb, vb, rfl, o4, b4⟩
    clear hp1
    rw [← HPV.out] at hb
    have HBK := Lib.hid hb
    obtain ⟨Ab, cb, rfl⟩ := own_form o4
    have HO4 := Lib.hid (HO3.out.below b4)
    have HB4 := Lib.hid (HB3.out.trans (b4.mono HB3.out.size))
    have HFO4 := Lib.hid (own_belowW HFO3.out b4)
    have HBO4 := Lib.hid o4
    have HW3 := Lib.hid HB3.out.size
    have hbl : back.length ≤ n := nodup_le (rise_nodup hb.1) (part_lt HP.out hb fun y hy => (wayb_path HOK.out hu hy).2)
    clear hb o4 b4 HO3 HBL3 HB3 HFO3 hc0
    generalize hbz : (zs back).length = mb at *
    have HBZ := Lib.hid hbz
    clear hbz
    obtain ⟨R, hR⟩ : ∃ R, R = [zs back, zs fore] := ⟨_, rfl⟩
    have hRf : R.flatten = zs (back ++ fore) := by rw [hR, zs_append]; simp
    have hRn : 2 = R.length := by rw [hR]; rfl
    have hRm : many R ≤ 1000000 := by
      rw [hR]
      unfold many
      have h1 := HFZ.out
      have h2 := HBZ.out
      rw [zs_length] at h1 h2
      simp [zs_length]; omega
    have HCAT : Hid (∀ W, Below w4.heap.size w4 W → Calls Try.prog 69 #[.slice (some ⟨W.heap.size, 0, none⟩) 2 2] (W.alloc (.cells #[.slice Ab mb cb, .slice Af mf cf] 27)) (NumsOut (W.alloc (.cells #[.slice Ab mb cb, .slice Af mf cf] 27)) (zs (back ++ fore)))) := Lib.hid (fun W hW => by
      rw [← hRf]
      have hz := Blk.new_ W 27 #[.slice Ab mb cb, .slice Af mf cf] rfl
      have hWa : Below w4.heap.size w4 (W.alloc (.cells #[.slice Ab mb cb, .slice Af mf cf] 27)) := hW.alloc hW.size _
      refine concat_any W.heap.size 2 2 R hRn (by omega) hRm _ ⟨hz.lt, fun k hk => ?_⟩
      obtain ⟨n1, -, -, -⟩ := Nums.of_own HBO4.out
      obtain ⟨n2, -, -, -⟩ := Nums.of_own HFO4.out
      have hk2 : k = 0 ∨ k = 1 := by omega
      rcases hk2 with rfl | rfl
      · refine ⟨Ab, cb, ?_, ?_⟩
        · have e : (R[0]'hk).length = mb := by simp only [hR]; exact HBZ.out
          rw [e]; exact hz.at_ 0 rfl
        · have e : R[0]'hk = zs back := by simp only [hR]; rfl
          rw [e]; exact (Nums.below n1 hWa).more hWa.size
      · refine ⟨Af, cf, ?_, ?_⟩
        · have e : (R[1]'hk).length = mf := by simp only [hR]; exact HFZ.out
          rw [e]; exact hz.at_ 1 rfl
        · have e : R[1]'hk = zs fore := by simp only [hR]; rfl
          rw [e]; exact (Nums.below n2 hWa).more hWa.size)
    clear hR hRf hRn hRm HFO4 HBO4 HFZ HBZ
    generalize hbf : back ++ fore = bf at *
    have HBF := Lib.hid hbf
    have hbfl : bf.length ≤ 2 * n := by rw [← hbf, List.length_append]; omega
    have hbfn : ∀ p ∈ bf, p < n := fun p hp => by
      rw [← hbf] at hp
      rcases List.mem_append.1 hp with h | h
      · exact part_lt HP.out HBK.out (fun y hy => (wayb_path HOK.out hu hy).2) p h
      · exact part_lt HP.out HF.out (fun y hy => (way_path hy).lt HOK.out hv) p h
    have hbne : bf ≠ [] := fun e => by
      have h1 : P.getD v 0 ∈ fore := (HF.out.2 _).2 ⟨v, .refl _, rfl⟩
      rw [← hbf] at e
      have h2 := (List.append_eq_nil_iff.1 e).2
      rw [h2] at h1
      simp at h1
    have HBFN := Lib.hid hbfn
    have HBNE := Lib.hid hbne
    have c4 := HO4.out.cells
    obtain ⟨c40, c41, c42⟩ := c4
    clear hbf hbfn hbne hfl hbl
    have hca := HCAT.out w4 (Below.refl _ _)
    go_wp2_with fail
    refine Calls.mono hca ?_
    rintro e w5 ⟨v5, rfl, o5, b5⟩
    obtain ⟨A5, c5, rfl⟩ := own_form o5
    have hb45 : Below w4.heap.size w4 w5 := ((Below.refl _ w4).alloc (Nat.le_refl _) (.cells #[.slice Ab mb cb, .slice Af mf cf] 27)).trans (b5.mono (by simp))
    have HO5 := Lib.hid (HO4.out.below hb45)
    have HB45 := Lib.hid hb45
    have HB45x := Lib.hid hb45.size
    have HR5 := Lib.hid (IRow.of_own o5)
    have HW4 := Lib.hid HB4.out.size
    clear hca o5 b5 hb45 c40 c41 c42
    generalize hbz : (zs bf).length = mz at *
    have hmz : mz = bf.length := by rw [← hbz, zs_length]
    have hmzn : mz ≤ 2 * n := by omega
    have HBZ := Lib.hid hbz
    have HMZ := Lib.hid hmz
    clear hbz hmz hbfl
    go_wp2_with fail
    go_loopw [14, 65] (fun wv i wr => ∃ j : Nat, j ≤ mz ∧ i = .int .i64 j ∧ Hid (wr.ownsRow w5.heap.size 3 1 wv j (iv (zs ((bf.take j).map fun p => A.getD p 0)))) ∧ Hid (Below w5.heap.size w5 wr)) (fun _ i _ => mz - (intOf i).toNat)
    case atStart => exact ⟨0, Nat.zero_le _, rfl, Lib.hid (own_nil _ _ _), Lib.hid (Below.refl _ _)⟩
    case round =>
      obtain ⟨j, hj, rfl, HWO, HWB⟩ := hrel
      by_cases hlt : j < mz
      · have hjl : j < bf.length := by have := HMZ.out; omega
        obtain ⟨br, ofr, rfl, hbr, hcr⟩ := HR5.out.at_ (i := j) (by rw [zs_length]; exact hjl)
        rw [zs_at hjl] at hcr
        have hcell := (HWB.out.cell (p := ⟨br, ofr + j, none⟩) hbr).trans hcr
        have hpn := HBFN.out _ (List.getElem_mem hjl)
        have HTK : Hid ((bf.take (j + 1)).map (fun p => A.getD p 0) = (bf.take j).map (fun p => A.getD p 0) ++ [A.getD bf[j] 0]) := Lib.hid (by rw [List.take_succ_eq_append_getElem hjl, List.map_append]; rfl)
        have HTL : Hid (((bf.take j).map fun p => A.getD p 0).length = j) := Lib.hid (by rw [List.length_map, List.length_take]; omega)
        generalize hp : bf[j] = p at *
        have HOr := Lib.hid (HO5.out.below HWB.out)
        obtain ⟨ba, oa, da, ea, ka, -⟩ := HOr.out.at_ (i := p) (by rw [HP.out.la]; exact hpn) 0
        rw [HP.out.la] at ea
        have cr := HOr.out.cells.2.2
        rw [ea] at cr
        have i3 : (0 : Int) ≤ (j : Int) := by omega
        have i4 : (j : Int) < (mz : Int) := by omega
        have i5 : (0 : Int) ≤ (p : Int) := by omega
        have i6 : (p : Int) < (n : Int) := by omega
        have hb5r := HWB.out.size
        have hBN := Blk.new_ wr 3 #[.int .i64 (A.getD p 0 : Nat)] rfl
        have HBA := Lib.hid ((Below.refl w5.heap.size wr).alloc hb5r (.cells #[.int .i64 (A.getD p 0 : Nat)] 3))
        obtain ⟨Aw, cw, rfl⟩ := own_form HWO.out
        generalize hwl : (bf.take j).map (fun p => A.getD p 0) = wl at *
        generalize A.getD p 0 = ap at *
        clear ea hcr hbr hp hwl
        go_wp2_with (at_builtin; refine wpList_push rfl (.tmp 69) (.tmp 77) rfl w5.heap.size (.slice Aw j cw) j (zs wl) (by rw [zs_length, HTL.out]) rfl (HWO.out.alloc _) wr.heap.size (ap : Nat) rfl hBN (by omega) (by simp; omega) ?_; intro v6 w6 o6 g6 ob6)
        obtain ⟨A6, c6, rfl⟩ := own_form o6
        have HWO6 : Hid (w6.ownsRow w5.heap.size 3 1 (.slice A6 (j + 1) c6) (j + 1) (iv (zs ((bf.take (j + 1)).map fun p => A.getD p 0)))) := Lib.hid (by rw [HTK.out, zs_append]; exact o6)
        have HWB6 := Lib.hid ((HWB.out.trans HBA.out).grown g6 (by have := HBA.out.size; omega) (fun k hk => (own_row (HWO.out.alloc (.cells #[.int .i64 (ap : Nat)] 3)) hk).1))
        clear o6 g6 ob6 HWO HWB HBA hBN hcell ka cr HOr
        go_wp2_with fail
        go_roundw
        case rel => exact ⟨j + 1, by omega, by go_num, HWO6, HWB6⟩
        case measure => simp [intOf]; omega
      · have hje : j = mz := by omega
        have HWL := Lib.hid (List.take_of_length_le (l := bf) (i := j) (by have := HMZ.out; omega))
        rw [HWL.out] at HWO
        clear hj hlt HWL
        subst hje
        have HWH : Hid (j = bf.length) := HMZ
        obtain ⟨Aw, cw, hwv⟩ := own_form HWO.out
        subst hwv
        have HO6 := Lib.hid (HO5.out.below HWB.out)
        have HB46 := Lib.hid (HB45.out.trans (HWB.out.mono HB45.out.size))
        have hca := HCAT.out wr HB46.out
        have HW5 := Lib.hid HWB.out.size
        generalize hwr : wr = w6 at *
        clear hwr HR5 HO5 HB45 HWB
        go_wp2_with fail
        refine Calls.mono hca ?_
        rintro e w7 ⟨v7, rfl, o7, b7⟩
        clear hca
        obtain ⟨A7, c7, rfl⟩ := own_form o7
        have hb67 : Below w6.heap.size w6 w7 := ((Below.refl _ w6).alloc (Nat.le_refl _) (.cells #[.slice Ab mb cb, .slice Af mf cf] 27)).trans (b7.mono (by simp))
        have HO7 := Lib.hid (HO6.out.below hb67)
        have HB47 := Lib.hid (HB46.out.trans (hb67.mono HB46.out.size))
        have HWO7 := Lib.hid (own_belowW HWO.out hb67)
        have HN7 := Lib.hid (Nums.of_own o7).1
        have HS7 := Lib.hid hb67.size
        clear o7 b7 hb67 HO6 HB46 HWO
        rw [HBZ.out]
        go_wp2_with fail
        refine Calls.mono (values_any _ w7 rfl ⟨_, _, _, rfl⟩) ?_
        rintro e w8 ⟨rfl, hw8⟩
        have HBX : Hid (Blk w8 w7.heap.size 27 #[.slice A7 j c7]) := Lib.hid (by rw [← hw8]; exact Blk.new_ w7 _ _ rfl)
        have hb78 : Below w7.heap.size w7 w8 := by rw [← hw8]; exact (Below.refl _ w7).alloc (Nat.le_refl _) _
        have HO8 := Lib.hid (HO7.out.below hb78)
        have HB48 := Lib.hid (HB47.out.trans (hb78.mono HB47.out.size))
        have HWO8 := Lib.hid (own_belowW HWO7.out hb78)
        have HN8 := Lib.hid ((Nums.below HN7.out hb78).more hb78.size)
        have HS8 := Lib.hid hb78.size
        clear hw8 hb78 HO7 HB47 HWO7 HN7
        go_wp2_with fail
        refine Calls.mono (sorted_any w7.heap.size A7 c7 (zs bf) j (by rw [zs_length]; exact HWH.out) (fun e => HBNE.out (by
          have := congrArg List.length e
          rw [zs_length] at this
          exact List.eq_nil_of_length_eq_zero this)) (by have := HWH.out; omega) w8 HBX.out HN8.out) ?_
        rintro e w9 ⟨v9, rfl, o9, b9⟩
        obtain ⟨pl, e1, e2, e3⟩ := zs_sorted bf
        unfold srt at o9
        rw [e1] at o9
        have HPP := Lib.hid e2
        have hplj : (zs pl).length = j := by rw [zs_length, e2.length_eq, HWH.out]
        rw [hplj] at o9
        obtain ⟨A9, c9, rfl⟩ := own_form o9
        have HR9 := Lib.hid (IRow.of_own (l := zs pl) (by rw [hplj]; exact o9))
        have HO9 := Lib.hid (HO8.out.below b9)
        have HB49 := Lib.hid (HB48.out.trans (b9.mono HB48.out.size))
        have HWO9 := Lib.hid (own_belowW HWO8.out b9)
        have HPJ := Lib.hid hplj
        have HPS := Lib.hid e3
        clear o9 b9 HO8 HB48 HWO8 HN8 HBX e1 e2 e3 hplj HCAT
        have HPT : Hid (Parts n back fore pl) := Lib.hid (by
          have hp1 : pl.Perm (back ++ fore) := by rw [HBF.out]; exact HPP.out
          refine parts_of HOK.out HP.out HUP.out hu hv HF.out HBK.out HNC.out (strict_of HPS.out ?_) hp1
          rw [hp1.nodup_iff]
          rw [List.nodup_append]
          refine ⟨rise_nodup HBK.out.1, rise_nodup HF.out.1, fun a ha b hb e => ?_⟩
          subst e
          obtain ⟨y, h1, rfl⟩ := (HBK.out.2 a).1 ha
          obtain ⟨h2, h3⟩ := wayb_path HOK.out hu h1
          exact HNC.out (((fore_mem HOK.out HP.out HUP.out hv HF.out h3).1 hb).1.trans h2))
        have HWN := Lib.hid (who_len (A := A) HPT.out)
        have HWE : Hid ((bf.map fun p => A.getD p 0) = whoL A back fore) := Lib.hid (by unfold whoL; rw [HBF.out])
        rw [HWE.out] at HWO9
        have HWR := Lib.hid (IRow.of_own (l := zs (whoL A back fore)) (by
          have e : j = (zs (whoL A back fore)).length := by rw [zs_length, HWN.out, ← HPJ.out, zs_length]
          rw [← e]; exact HWO9.out))
        have HPL : Hid (j = pl.length) := Lib.hid (by rw [← HPJ.out, zs_length])
        have hs0 : w.heap.size ≤ w5.heap.size := by have := HW4.out; have := HB45x.out; omega
        have HS0 := Lib.hid (show w.heap.size ≤ w5.heap.size ∧ w.heap.size ≤ w8.heap.size from ⟨hs0, by have := HS7.out; have := HS8.out; have := HW5.out; omega⟩)
        have HFL : Hid (∀ k, F0 k → F k ∧ k < w.heap.size) := Lib.hid (fun k hk => by rw [← HF0.out] at hk; exact hk)
        clear HWO9 hs0
        go_wp2_with fail
        go_loopw [17, 87] (fun cv i wr => ∃ t c : Nat, t ≤ j ∧ c ≤ t ∧ i = .int .i64 t ∧ cv = .int .i64 (c : Nat) ∧ Hid (c = partC P A back fore pl t) ∧ Hid (OParts wr base F0 o n L (partP P A back fore pl t) (partA A back fore pl t) g vp va G0) ∧ Hid (Fr F0 w9 wr)) (fun _ i _ => j - (intOf i).toNat)
        case atStart => exact ⟨0, 0, Nat.zero_le _, Nat.le_refl _, rfl, rfl, Lib.hid (by simp [partC]), Lib.hid (by
          have e1 : partP P A back fore pl 0 = P := by simp [partP, setAll]
          have e2 : partA A back fore pl 0 = A := by simp [partA, setAll]
          rw [e1, e2]; exact HO9.out), Lib.hid (Fr.refl _ _)⟩
        case round =>
          obtain ⟨t, c, ht, hct, rfl, rfl, HC, HT, HFR⟩ := hrel
          by_cases hlt2 : t < j
          · have htl : t < pl.length := by have := HPL.out; omega
            have htw : t < (whoL A back fore).length := by have := HWN.out; omega
            have htb : t < (back ++ fore).length := by have h1 := HPT.out.all.length_eq; omega
            obtain ⟨br, ofr, rfl, hbr, hcr⟩ := HR9.out.at_ (i := t) (by rw [zs_length]; exact htl)
            have hbr8 := (HR9.out.blk (g := br) rfl).1
            rw [zs_at htl] at hcr
            have hcell : wr.cell? ⟨br, ofr + t, none⟩ = some (.int .i64 (pl[t] : Nat)) := (World.cell?_of_block (w := w9) (a := ⟨br, ofr + t, none⟩) (HFR.out.block br hbr (fun hf => by have := (HFL.out br hf).2; have := HS0.out.2; omega))).trans hcr
            obtain ⟨bw, ofw, rfl, hbw, hcw⟩ := HWR.out.at_ (i := t) (by rw [zs_length]; exact htw)
            have hbw5 := (HWR.out.blk (g := bw) rfl).1
            rw [zs_at htw] at hcw
            have hcellw : wr.cell? ⟨bw, ofw + t, none⟩ = some (.int .i64 ((whoL A back fore)[t] : Nat)) := (World.cell?_of_block (w := w9) (a := ⟨bw, ofw + t, none⟩) (HFR.out.block bw hbw (fun hf => by have := (HFL.out bw hf).2; have := HS0.out.1; omega))).trans hcw
            have hxn : (whoL A back fore)[t] < n := by
              rw [whoL_at htb]
              exact (HP.out.ap _ (HPT.out.lt (List.getElem_mem htb))).1
            have hqn : pl[t] < n := HPT.out.ltp (List.getElem_mem htl)
            have HAT := Lib.hid (partP_at HP.out HPT.out htl)
            have HP1 := Lib.hid (partP_succ (P := P) HWN.out htl)
            have HA1 := Lib.hid (partA_succ HWN.out htl)
            have HC1 := Lib.hid (partC_succ (P := P) HWN.out htl)
            generalize (whoL A back fore)[t] = x at *
            generalize hq : pl[t] = q at *
            clear hcr hcw hbr hbw hbr8 hbw5 htl htw htb hq
            obtain ⟨bp, op, dp, ep, kp, zp, -, HT1⟩ := HT.out.place (i := x) (by rw [partP_length, HP.out.lp]; exact hxn) q
            rw [partP_length, HP.out.lp] at ep
            rw [HAT.out] at kp
            rw [← HP1.out] at HT1
            obtain ⟨ba, oa, da, ea, ka, za, -, HT2⟩ := HT1.at_ (i := q) (by rw [partA_length, HP.out.la]; exact hqn) x
            rw [partA_length, HP.out.la] at ea
            rw [← HA1.out] at HT2
            have hcs := HT.out.cells
            have hcs1 := HT1.cells
            have hcs2 := HT2.cells
            rw [ep, ea] at hcs hcs1 hcs2
            obtain ⟨g6, g7, g8⟩ := hcs2
            have hbd : Below ((wr.setCell ⟨bp, op + x, none⟩ (.int .i64 (q : Nat))).setCell ⟨ba, oa + q, none⟩ (.int .i64 (x : Nat))).heap.size ((wr.setCell ⟨bp, op + x, none⟩ (.int .i64 (q : Nat))).setCell ⟨ba, oa + q, none⟩ (.int .i64 (x : Nat))) ((wr.drew.setCell ⟨bp, op + x, none⟩ (.int .i64 (q : Nat))).setCell ⟨ba, oa + q, none⟩ (.int .i64 (x : Nat))) := ⟨rfl, rfl, rfl, Nat.le_refl _, fun _ _ => rfl⟩
            obtain ⟨g0, g1, g2⟩ := hcs
            obtain ⟨g3, g4, g5⟩ := hcs1
            have HT2 := Lib.hid (HT2.below hbd)
            have hbpF := (HT.out.fp bp (by rw [ep]; rfl)).1
            have hbaF := (HT.out.fa ba (by rw [ea]; rfl)).1
            have HFR2 := Lib.hid (((HFR.out.set_ hbpF (op + x) (.int .i64 (q : Nat))).set_ hbaF (oa + q) (.int .i64 (x : Nat))).trans (Fr.of_below (F := F0) hbd) (fun _ _ h => h))
            have l1 : (0 : Int) ≤ (t : Int) := by omega
            have l2 : (t : Int) < (j : Int) := by omega
            have l3 : (0 : Int) ≤ (x : Int) := by omega
            have l4 : (x : Int) < (n : Int) := by omega
            have l5 : (0 : Int) ≤ (q : Int) := by omega
            have l6 : (q : Int) < (n : Int) := by omega
            clear HT HT1 hbpF hbaF ep ea HFR HAT HP1 HA1 hbd
            have HCE := Lib.hid (show wr.cell? ⟨o, 1, none⟩ = some (.slice (some ⟨bp, op, none⟩) n dp) ∧ wr.cell? ⟨o, 2, none⟩ = some (.slice (some ⟨ba, oa, none⟩) n da) from ⟨g1, g2⟩)
            generalize P.getD x 0 = px at *
            by_cases hpx : px = q
            · have HCN : Hid (c = partC P A back fore pl (t + 1)) := Lib.hid (by rw [HC1.out, if_neg (by simpa using hpx), HC.out]; rfl)
              have hbq : ((px : Int) == (q : Int)) = true := by rw [beq_iff_eq, hpx]
              clear hpx HC HC1
              go_wp2_with fail
              have hS : wr.drew.cell? ⟨o, 1, none⟩ = some (.slice (some ⟨bp, op, none⟩) n dp) ∧ wr.drew.cell? ⟨o, 2, none⟩ = some (.slice (some ⟨ba, oa, none⟩) n da) := HCE.out
              refine wp_region_heldG [] (fun _ W => W.cell? ⟨o, 1, none⟩ = some (.slice (some ⟨bp, op, none⟩) n dp) ∧ W.cell? ⟨o, 2, none⟩ = some (.slice (some ⟨ba, oa, none⟩) n da)) (by kernel_rfl) ?_
              change wpAnyG _ _ _ _ _ _ 16 _ _ wr.drew
              refine g_take (i := 0) rfl rfl (by kernel_rfl) (by kernel_rfl) (by kernel_rfl) (by kernel_rfl) (by kernel_rfl) (fun _ _ _ h => h) hS (fun L' W' hL hW => by go_simp; rfl) ?_
              refine g_take (i := 1) rfl rfl (by kernel_rfl) (by kernel_rfl) (by kernel_rfl) (by kernel_rfl) (by kernel_rfl) (fun _ _ _ h => h) hS (fun L' W' hL hW => by go_simp; rfl) ?_
              refine g_take (i := 2) rfl rfl (by kernel_rfl) (by kernel_rfl) (by kernel_rfl) (by kernel_rfl) (by kernel_rfl) (fun _ _ _ h => h) hS (fun L' W' hL hW => by go_simp; rfl) ?_
              refine g_take (i := 3) rfl rfl (by kernel_rfl) (by kernel_rfl) (by kernel_rfl) (by kernel_rfl) (by kernel_rfl) (fun _ _ _ h => h) hS (fun L' W' hL hW => by obtain ⟨k0, k1⟩ := hW; go_simp; rfl) ?_
              refine g_take (i := 4) rfl rfl (by kernel_rfl) (by kernel_rfl) (by kernel_rfl) (by kernel_rfl) (by kernel_rfl) (fun _ _ _ h => h) hS (fun L' W' hL hW => by go_simp; rfl) ?_
              refine g_take (i := 5) rfl rfl (by kernel_rfl) (by kernel_rfl) (by kernel_rfl) (by kernel_rfl) (by kernel_rfl) (fun _ _ _ h => h) hS (fun L' W' hL hW => by go_simp; rfl) ?_
              refine g_take (i := 6) rfl rfl (by kernel_rfl) (by kernel_rfl) (by kernel_rfl) (by kernel_rfl) (by kernel_rfl) (fun _ _ _ h => h) hS (fun L' W' hL hW => by go_simp; rfl) ?_
              refine g_take (i := 7) rfl rfl (by kernel_rfl) (by kernel_rfl) (by kernel_rfl) (by kernel_rfl) (by kernel_rfl) (fun _ _ _ h => h) hS (fun L' W' hL hW => by go_simp; rfl) ?_
              refine g_take (i := 8) rfl rfl (by kernel_rfl) (by kernel_rfl) (by kernel_rfl) (by kernel_rfl) (by kernel_rfl) (fun _ _ _ h => h) hS (fun L' W' hL hW => by obtain ⟨k0, k1⟩ := hW; go_simp; rfl) ?_
              refine g_take (i := 9) rfl rfl (by kernel_rfl) (by kernel_rfl) (by kernel_rfl) (by kernel_rfl) (by kernel_rfl) (fun _ _ _ h => h) hS (fun L' W' hL hW => by go_simp; rfl) ?_
              refine g_take (i := 10) rfl rfl (by kernel_rfl) (by kernel_rfl) (by kernel_rfl) (by kernel_rfl) (by kernel_rfl) (fun _ _ _ h => h) hS (fun L' W' hL hW => by go_simp; rfl) ?_
              refine g_take (i := 11) rfl rfl (by kernel_rfl) (by kernel_rfl) (by kernel_rfl) (by kernel_rfl) (by kernel_rfl) (fun _ _ _ h => h) hS (fun L' W' hL hW => by go_simp; rfl) ?_
              refine g_take (i := 12) rfl rfl (by kernel_rfl) (by kernel_rfl) (by kernel_rfl) (by kernel_rfl) (by kernel_rfl) (fun _ _ _ h => h) hS (fun L' W' hL hW => by go_simp; rfl) ?_
              have zp' : wr.drew.frozen? ⟨bp, op + x, none⟩ = false := zp
              have kp' : wr.drew.cell? ⟨bp, op + x, none⟩ = some (.int .i64 (px : Nat)) := kp
              refine g_one (i := 13) rfl rfl (by kernel_rfl) fun K' hK => ?_
              go_simp
              have hS2 : (wr.drew.setCell ⟨bp, op + x, none⟩ (.int .i64 (q : Nat))).cell? ⟨o, 1, none⟩ = some (.slice (some ⟨bp, op, none⟩) n dp) ∧ (wr.drew.setCell ⟨bp, op + x, none⟩ (.int .i64 (q : Nat))).cell? ⟨o, 2, none⟩ = some (.slice (some ⟨ba, oa, none⟩) n da) := ⟨g4, g5⟩
              refine hK _ _ hS2 ?_
              clear hK K'
              refine g_take (i := 14) rfl rfl (by kernel_rfl) (by kernel_rfl) (by kernel_rfl) (by kernel_rfl) (by kernel_rfl) (fun _ _ _ h => h) hS2 (fun L' W' hL hW => by go_simp; rfl) ?_
              have ka' : (wr.drew.setCell ⟨bp, op + x, none⟩ (.int .i64 (q : Nat))).cell? ⟨ba, oa + q, none⟩ = _ := ka
              have za' : (wr.drew.setCell ⟨bp, op + x, none⟩ (.int .i64 (q : Nat))).frozen? ⟨ba, oa + q, none⟩ = false := za
              refine g_one (i := 15) rfl rfl (by kernel_rfl) fun K' hK => ?_
              go_simp
              have hS3 : ((wr.drew.setCell ⟨bp, op + x, none⟩ (.int .i64 (q : Nat))).setCell ⟨ba, oa + q, none⟩ (.int .i64 (x : Nat))).cell? ⟨o, 1, none⟩ = some (.slice (some ⟨bp, op, none⟩) n dp) ∧ ((wr.drew.setCell ⟨bp, op + x, none⟩ (.int .i64 (q : Nat))).setCell ⟨ba, oa + q, none⟩ (.int .i64 (x : Nat))).cell? ⟨o, 2, none⟩ = some (.slice (some ⟨ba, oa, none⟩) n da) := ⟨g7, g8⟩
              refine hK _ _ hS3 ?_
              clear hK K' hS hS2 hS3
              refine wpAnyG_done (by kernel_rfl) ?_ _
              clear kp kp' zp zp' ka ka' za za' g0 g1 g2 g3 g4 g5 g6 g7 g8 hbq hcell hcellw
              go_simp
              go_wp2_with fail
              go_roundw
              case rel => exact ⟨t + 1, c, by omega, by omega, by go_num, by go_num, HCN, HT2, HFR2⟩
              case measure => simp [intOf]; omega
            · have HCN : Hid (c + 1 = partC P A back fore pl (t + 1)) := Lib.hid (by rw [HC1.out, if_pos hpx, HC.out])
              have hbq : ((px : Int) == (q : Int)) = false := by rw [beq_eq_false_iff_ne]; omega
              clear hpx HC HC1
              go_wp2_with fail
              have hS : wr.drew.cell? ⟨o, 1, none⟩ = some (.slice (some ⟨bp, op, none⟩) n dp) ∧ wr.drew.cell? ⟨o, 2, none⟩ = some (.slice (some ⟨ba, oa, none⟩) n da) := HCE.out
              refine wp_region_heldG [] (fun _ W => W.cell? ⟨o, 1, none⟩ = some (.slice (some ⟨bp, op, none⟩) n dp) ∧ W.cell? ⟨o, 2, none⟩ = some (.slice (some ⟨ba, oa, none⟩) n da)) (by kernel_rfl) ?_
              change wpAnyG _ _ _ _ _ _ 16 _ _ wr.drew
              refine g_take (i := 0) rfl rfl (by kernel_rfl) (by kernel_rfl) (by kernel_rfl) (by kernel_rfl) (by kernel_rfl) (fun _ _ _ h => h) hS (fun L' W' hL hW => by go_simp; rfl) ?_
              refine g_take (i := 1) rfl rfl (by kernel_rfl) (by kernel_rfl) (by kernel_rfl) (by kernel_rfl) (by kernel_rfl) (fun _ _ _ h => h) hS (fun L' W' hL hW => by go_simp; rfl) ?_
              refine g_take (i := 2) rfl rfl (by kernel_rfl) (by kernel_rfl) (by kernel_rfl) (by kernel_rfl) (by kernel_rfl) (fun _ _ _ h => h) hS (fun L' W' hL hW => by go_simp; rfl) ?_
              refine g_take (i := 3) rfl rfl (by kernel_rfl) (by kernel_rfl) (by kernel_rfl) (by kernel_rfl) (by kernel_rfl) (fun _ _ _ h => h) hS (fun L' W' hL hW => by obtain ⟨k0, k1⟩ := hW; go_simp; rfl) ?_
              refine g_take (i := 4) rfl rfl (by kernel_rfl) (by kernel_rfl) (by kernel_rfl) (by kernel_rfl) (by kernel_rfl) (fun _ _ _ h => h) hS (fun L' W' hL hW => by go_simp; rfl) ?_
              refine g_take (i := 5) rfl rfl (by kernel_rfl) (by kernel_rfl) (by kernel_rfl) (by kernel_rfl) (by kernel_rfl) (fun _ _ _ h => h) hS (fun L' W' hL hW => by go_simp; rfl) ?_
              refine g_take (i := 6) rfl rfl (by kernel_rfl) (by kernel_rfl) (by kernel_rfl) (by kernel_rfl) (by kernel_rfl) (fun _ _ _ h => h) hS (fun L' W' hL hW => by go_simp; rfl) ?_
              refine g_take (i := 7) rfl rfl (by kernel_rfl) (by kernel_rfl) (by kernel_rfl) (by kernel_rfl) (by kernel_rfl) (fun _ _ _ h => h) hS (fun L' W' hL hW => by go_simp; rfl) ?_
              refine g_take (i := 8) rfl rfl (by kernel_rfl) (by kernel_rfl) (by kernel_rfl) (by kernel_rfl) (by kernel_rfl) (fun _ _ _ h => h) hS (fun L' W' hL hW => by obtain ⟨k0, k1⟩ := hW; go_simp; rfl) ?_
              refine g_take (i := 9) rfl rfl (by kernel_rfl) (by kernel_rfl) (by kernel_rfl) (by kernel_rfl) (by kernel_rfl) (fun _ _ _ h => h) hS (fun L' W' hL hW => by go_simp; rfl) ?_
              refine g_take (i := 10) rfl rfl (by kernel_rfl) (by kernel_rfl) (by kernel_rfl) (by kernel_rfl) (by kernel_rfl) (fun _ _ _ h => h) hS (fun L' W' hL hW => by go_simp; rfl) ?_
              refine g_take (i := 11) rfl rfl (by kernel_rfl) (by kernel_rfl) (by kernel_rfl) (by kernel_rfl) (by kernel_rfl) (fun _ _ _ h => h) hS (fun L' W' hL hW => by go_simp; rfl) ?_
              refine g_take (i := 12) rfl rfl (by kernel_rfl) (by kernel_rfl) (by kernel_rfl) (by kernel_rfl) (by kernel_rfl) (fun _ _ _ h => h) hS (fun L' W' hL hW => by go_simp; rfl) ?_
              have zp' : wr.drew.frozen? ⟨bp, op + x, none⟩ = false := zp
              have kp' : wr.drew.cell? ⟨bp, op + x, none⟩ = some (.int .i64 (px : Nat)) := kp
              refine g_one (i := 13) rfl rfl (by kernel_rfl) fun K' hK => ?_
              go_simp
              have hS2 : (wr.drew.setCell ⟨bp, op + x, none⟩ (.int .i64 (q : Nat))).cell? ⟨o, 1, none⟩ = some (.slice (some ⟨bp, op, none⟩) n dp) ∧ (wr.drew.setCell ⟨bp, op + x, none⟩ (.int .i64 (q : Nat))).cell? ⟨o, 2, none⟩ = some (.slice (some ⟨ba, oa, none⟩) n da) := ⟨g4, g5⟩
              refine hK _ _ hS2 ?_
              clear hK K'
              refine g_take (i := 14) rfl rfl (by kernel_rfl) (by kernel_rfl) (by kernel_rfl) (by kernel_rfl) (by kernel_rfl) (fun _ _ _ h => h) hS2 (fun L' W' hL hW => by go_simp; rfl) ?_
              have ka' : (wr.drew.setCell ⟨bp, op + x, none⟩ (.int .i64 (q : Nat))).cell? ⟨ba, oa + q, none⟩ = _ := ka
              have za' : (wr.drew.setCell ⟨bp, op + x, none⟩ (.int .i64 (q : Nat))).frozen? ⟨ba, oa + q, none⟩ = false := za
              refine g_one (i := 15) rfl rfl (by kernel_rfl) fun K' hK => ?_
              go_simp
              have hS3 : ((wr.drew.setCell ⟨bp, op + x, none⟩ (.int .i64 (q : Nat))).setCell ⟨ba, oa + q, none⟩ (.int .i64 (x : Nat))).cell? ⟨o, 1, none⟩ = some (.slice (some ⟨bp, op, none⟩) n dp) ∧ ((wr.drew.setCell ⟨bp, op + x, none⟩ (.int .i64 (q : Nat))).setCell ⟨ba, oa + q, none⟩ (.int .i64 (x : Nat))).cell? ⟨o, 2, none⟩ = some (.slice (some ⟨ba, oa, none⟩) n da) := ⟨g7, g8⟩
              refine hK _ _ hS3 ?_
              clear hK K' hS hS2 hS3
              refine wpAnyG_done (by kernel_rfl) ?_ _
              clear kp kp' zp zp' ka ka' za za' g0 g1 g2 g3 g4 g5 g6 g7 g8 hbq hcell hcellw
              go_simp
              go_wp2_with fail
              go_roundw
              case rel => exact ⟨t + 1, c + 1, by omega, by omega, by go_num, by go_num, HCN, HT2, HFR2⟩
              case measure => simp [intOf]; omega
          · have hte : t = pl.length := by have := HPL.out; omega
            have HFIN : Hid (TurnOut base F o n L P A u v w (.returned (.tuple #[.int .i64 (c : Nat), .int .i64 0])) wr) := Lib.hid (by
              have hw9 : Below w.heap.size w w9 := HB4.out.trans (HB49.out.mono HB4.out.size)
              have h1 := HT.out
              have h2 := HC.out
              rw [hte] at h1 h2
              rw [partP_end HWN.out, partA_end HWN.out] at h1
              rw [partC_end HP.out HPT.out] at h2
              refine .inr ⟨HNC.out, back, fore, pl, HBK.out, HF.out, HPT.out.rp, HPT.out.all, by rw [← h2], F0, ⟨g, vp, va, G0, h1⟩, ?_, fun k hk => .inl (HFL.out k hk).1⟩
              exact (Fr.of_below (F := F) hw9).trans HFR.out fun k _ hk => (HFL.out k hk).1)
            clear HT HFR HC hte
            go_wp2_with fail
            go_ret2
            exact HFIN.out
end Go.Proofs.Ytelplccbcbegkaa.OrW
