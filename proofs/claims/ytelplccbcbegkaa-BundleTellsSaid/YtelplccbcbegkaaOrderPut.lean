/-
  The walk of Put.
-/
import Derived.Test.YtelplccbcbegkaaOrderTurn
namespace Go.Proofs.Ytelplccbcbegkaa.Ord
set_option linter.unusedVariables false
open Go.Proofs.Ytelplccbcbegkaa.Gr (E Path Inside OK outs intos Cyc putL)

/-- What an edge that is put does to places. -/
def Step (n : Nat) (L : List (List Int)) (P A : List Nat) (u v : Nat) (P' A' : List Nat) : Prop :=
  (P.getD u 0 < P.getD v 0 ∧ P' = P ∧ A' = A) ∨ (P.getD v 0 < P.getD u 0 ∧ ∃ back fore pl, IsPart (intos L) (fun y => decide (P.getD v 0 ≤ P.getD y 0)) P u back ∧ IsPart (outs L) (fun y => decide (P.getD y 0 ≤ P.getD u 0)) P v fore ∧ pl.Pairwise (· < ·) ∧ pl.Perm (back ++ fore) ∧ P' = newP P A back fore pl ∧ A' = newA A back fore pl)
theorem Step.turned {n : Nat} {L : List (List Int)} {P A P' A' : List Nat} {u v : Nat} (h : Step n L P A u v P' A') (ok : OK n L) (hP : Perm n P A) (hup : Up L P) (hu : u < n) (hv : v < n) (hc : ¬ Path L v u) : Turned n L P A u v P' A' := by
  rcases h with ⟨h1, rfl, rfl⟩ | ⟨h1, back, fore, pl, h2, h3, h4, h5, rfl, rfl⟩
  · exact Turned.still ok hP hup hu hv h1
  · exact Turned.turn ok hP hup hu hv h1 h3 h2 hc h4 h5
end Go.Proofs.Ytelplccbcbegkaa.Ord
namespace Go.Proofs.Ytelplccbcbegkaa.OrW
set_option linter.unusedVariables false
open Go Go.RowKit Go.Maps Go.Proofs Go.Proofs.Ytelplccbcbegkaa Go.Proofs.Ytelplccbcbegkaa.Wd Go.Proofs.Ytelplccbcbegkaa.GrW Go.Proofs.Ytelplccbcbegkaa.Ord
open Go.Proofs.Ytelplccbcbegkaa.Gr (OK putL outs intos Path)

theorem putO_refused (w : World) (base o n : Nat) (F : Nat → Prop) (L : List (List Int)) (P A : List Nat) (h : OAt w base F o n L P A) (u v : Int) (hb : ¬ (isV n u = true ∧ isV n v = true)) :
    Calls Try.prog 30 #[.pointer (some ⟨o, 0, none⟩), .int .i64 u, .int .i64 v] w fun e w' => e = .returned (.tuple #[.int .i64 0, .int .i64 2]) ∧ w = w' := by
  have HU := Lib.hid (is_o h u)
  have HV := Lib.hid (is_o h v)
  obtain ⟨g, vp, va, Fg, h⟩ := h
  have HN := Lib.hid (none_o w o g h.cells.1)
  clear h
  by_cases hu : isV n u = true
  · have hv : isV n v = false := by
      rw [← Bool.not_eq_true]
      exact fun e => hb ⟨hu, e⟩
    rw [hu] at HU
    rw [hv] at HV
    clear hb hu hv
    go_enter Try.func30, Try.ntmps30
    go_wp2_with fail
    refine Calls.mono HN.out ?_
    rintro e w' ⟨rfl, rfl⟩
    clear HN
    go_wp2_with fail
    refine Calls.mono HU.out ?_
    rintro e w' ⟨rfl, rfl⟩
    clear HU
    go_wp2_with fail
    refine Calls.mono HV.out ?_
    rintro e w' ⟨rfl, rfl⟩
    clear HV
    go_wp2_with fail
    go_ret2
    exact ⟨rfl, rfl⟩
  · rw [Bool.eq_false_iff.2 hu] at HU
    clear hb hu
    go_enter Try.func30, Try.ntmps30
    go_wp2_with fail
    refine Calls.mono HN.out ?_
    rintro e w' ⟨rfl, rfl⟩
    clear HN
    go_wp2_with fail
    refine Calls.mono HU.out ?_
    rintro e w' ⟨rfl, rfl⟩
    clear HU
    go_wp2_with fail
    go_ret2
    exact ⟨rfl, rfl⟩
theorem putO_self (w : World) (base o n : Nat) (F : Nat → Prop) (L : List (List Int)) (P A : List Nat) (h : OAt w base F o n L P A) (u : Int) (hu : isV n u = true) :
    Calls Try.prog 30 #[.pointer (some ⟨o, 0, none⟩), .int .i64 u, .int .i64 u] w fun e w' => e = .returned (.tuple #[.int .i64 0, .int .i64 25]) ∧ w = w' := by
  have HU := Lib.hid (is_o h u)
  obtain ⟨g, vp, va, Fg, h⟩ := h
  have HN := Lib.hid (none_o w o g h.cells.1)
  rw [hu] at HU
  clear h hu
  go_enter Try.func30, Try.ntmps30
  go_wp2_with fail
  refine Calls.mono HN.out ?_
  rintro e w' ⟨rfl, rfl⟩
  clear HN
  go_wp2_with fail
  refine Calls.mono HU.out ?_
  rintro e w' ⟨rfl, rfl⟩
  go_wp2_with fail
  refine Calls.mono HU.out ?_
  rintro e w' ⟨rfl, rfl⟩
  clear HU
  go_wp2_with fail
  go_ret2
  exact ⟨rfl, rfl⟩
/-- What Put answers of two vertices. -/
def PutV (base : Nat) (F : Nat → Prop) (o n : Nat) (L : List (List Int)) (P A : List Nat) (u v : Nat) (w : World) (e : Ending) (w' : World) : Prop :=
  (Path L v u ∧ e = .returned (.tuple #[.int .i64 0, .int .i64 25]) ∧ Below w.heap.size w w') ∨
  (¬ Path L v u ∧ ∃ P' A', Step n L P A u v P' A' ∧ e = .returned (.tuple #[.int .i64 (moved n P P' : Nat), .int .i64 0]) ∧ OUpd base F o n (putL L u v) P' A' w w')
theorem fr_g {w : World} {base o n g : Nat} {F Fg : Nat → Prop} {L : List (List Int)} {P A : List Nat} {vp va : Value} (h : OParts w base F o n L P A g vp va Fg) : base ≤ w.heap.size := Nat.le_of_lt (Nat.lt_of_le_of_lt h.far h.blk.lt)
set_option maxRecDepth 100000 in
set_option maxHeartbeats 4000000 in
theorem putV_any (w : World) (base o n : Nat) (F : Nat → Prop) (L : List (List Int)) (P A : List Nat) (h : OAt w base F o n L P A) (ok : OK n L) (hP : Perm n P A) (hup : Up L P) (hn : n ≤ 15000) (u v : Nat) (hu : u < n) (hv : v < n) (hne : u ≠ v) :
    Calls Try.prog 30 #[.pointer (some ⟨o, 0, none⟩), .int .i64 (u : Nat), .int .i64 (v : Nat)] w (PutV base F o n L P A u v w) := by
  have iu : isV n (u : Int) = true := by unfold isV; simp; omega
  have iv' : isV n (v : Int) = true := by unfold isV; simp; omega
  have HU := Lib.hid (is_o h u)
  have HV := Lib.hid (is_o h v)
  rw [iu] at HU
  rw [iv'] at HV
  have HTU := Lib.hid (fun (wx : World) (hx : Below w.heap.size w wx) => turn_any wx base o n F L P A (h.below hx) ok hP hup hn u v hu hv)
  have HO := Lib.hid h
  obtain ⟨g, vp, va, Fg, hO⟩ := h
  have HN := Lib.hid (none_o w o g hO.cells.1)
  have HP := Lib.hid hP
  have HUP := Lib.hid hup
  have HOP := Lib.hid hO
  have HOK := Lib.hid ok
  obtain ⟨b1, f1, d1, e1, k1, -⟩ := hO.place (i := u) (by rw [hP.lp]; exact hu) 0
  obtain ⟨b2, f2, d2, e2, k2, -⟩ := hO.place (i := v) (by rw [hP.lp]; exact hv) 0
  rw [hP.lp] at e1 e2
  have e3 := e1.symm.trans e2
  simp only [Value.slice.injEq, Option.some.injEq, Addr.mk.injEq, and_true, true_and] at e3
  obtain ⟨⟨rfl, rfl⟩, rfl⟩ := e3
  obtain ⟨c0, c1, c2⟩ := hO.cells
  rw [e1] at c1
  have i1 : (0 : Int) ≤ (u : Int) := by omega
  have i2 : (u : Int) < (n : Int) := by omega
  have j1 : (0 : Int) ≤ (v : Int) := by omega
  have j2 : (v : Int) < (n : Int) := by omega
  have hplt : P.getD u 0 ≠ P.getD v 0 := fun e => hne (hP.inj hu hv e)
  have huv : ((u : Int) == (v : Int)) = false := by rw [beq_eq_false_iff_ne]; omega
  have HPE : Hid (∀ wx Fx, OAt wx base Fx o n L P A → True) := Lib.hid (fun _ _ _ => trivial)
  have HCP : Hid (canPut n (u : Int) (v : Int) = true) := Lib.hid (by unfold canPut; rw [iu, iv']; simp; omega)
  clear hO ok hP hup e1 e2 iu iv' HPE
  have HCL : Hid (∀ W, Below w.heap.size w W → W.cell? ⟨o, 1, none⟩ = some (.slice (some ⟨b1, f1, none⟩) n d1) ∧ W.cell? ⟨b1, f1 + u, none⟩ = some (.int .i64 (P.getD u 0 : Nat)) ∧ W.cell? ⟨b1, f1 + v, none⟩ = some (.int .i64 (P.getD v 0 : Nat))) := Lib.hid (fun W hW => ⟨(hW.cell (p := ⟨o, 1, none⟩) (GrW.lt_of_cell c1)).trans c1, (hW.cell (p := ⟨b1, f1 + u, none⟩) (GrW.lt_of_cell k1)).trans k1, (hW.cell (p := ⟨b1, f1 + v, none⟩) (GrW.lt_of_cell k2)).trans k2⟩)
  generalize hpu : P.getD u 0 = pu at *
  generalize hpv : P.getD v 0 = pv at *
  have HPU := Lib.hid hpu
  have HPV := Lib.hid hpv
  clear hpu hpv c1 k1 k2 c2 hne
  by_cases hlt : pv < pu
  · have hgt : (pv : Int) < (pu : Int) := by omega
    have HLT := Lib.hid hlt
    clear hplt hlt
    go_enter Try.func30, Try.ntmps30
    go_wp2_with fail
    refine Calls.mono HN.out ?_
    rintro e w' ⟨rfl, rfl⟩
    clear HN
    go_wp2_with fail
    refine Calls.mono HU.out ?_
    rintro e w' ⟨rfl, rfl⟩
    clear HU
    go_wp2_with fail
    refine Calls.mono HV.out ?_
    rintro e w' ⟨rfl, rfl⟩
    clear HV
    go_wp2_with fail
    have hS : Below w.heap.size w w.drew := (Below.refl _ w).drew
    refine wp_region_heldG [] (fun _ W => Below w.heap.size w W) (by kernel_rfl) ?_
    change wpAnyG _ _ _ _ _ _ 15 _ _ w.drew
    refine g_take (i := 0) rfl rfl (by kernel_rfl) (by kernel_rfl) (by kernel_rfl) (by kernel_rfl) (by kernel_rfl) (fun _ _ _ h => h) hS (fun L' W' hL hW => by go_simp; rfl) ?_
    refine g_take (i := 1) rfl rfl (by kernel_rfl) (by kernel_rfl) (by kernel_rfl) (by kernel_rfl) (by kernel_rfl) (fun _ _ _ h => h) hS (fun L' W' hL hW => by go_simp; rfl) ?_
    refine g_take (i := 2) rfl rfl (by kernel_rfl) (by kernel_rfl) (by kernel_rfl) (by kernel_rfl) (by kernel_rfl) (fun _ _ _ h => h) hS (fun L' W' hL hW => by go_simp; rfl) ?_
    refine g_take (i := 3) rfl rfl (by kernel_rfl) (by kernel_rfl) (by kernel_rfl) (by kernel_rfl) (by kernel_rfl) (fun _ _ _ h => h) hS (fun L' W' hL hW => by obtain ⟨k0, k1, k2⟩ := HCL.out _ hW; go_simp; rfl) ?_
    refine g_take (i := 4) rfl rfl (by kernel_rfl) (by kernel_rfl) (by kernel_rfl) (by kernel_rfl) (by kernel_rfl) (fun _ _ _ h => h) hS (fun L' W' hL hW => by go_simp; rfl) ?_
    refine g_take (i := 5) rfl rfl (by kernel_rfl) (by kernel_rfl) (by kernel_rfl) (by kernel_rfl) (by kernel_rfl) (fun _ _ _ h => h) hS (fun L' W' hL hW => by go_simp; rfl) ?_
    refine g_take (i := 6) rfl rfl (by kernel_rfl) (by kernel_rfl) (by kernel_rfl) (by kernel_rfl) (by kernel_rfl) (fun _ _ _ h => h) hS (fun L' W' hL hW => by obtain ⟨k0, k1, k2⟩ := HCL.out _ hW; go_simp; rfl) ?_
    refine g_take (i := 7) rfl rfl (by kernel_rfl) (by kernel_rfl) (by kernel_rfl) (by kernel_rfl) (by kernel_rfl) (fun _ _ _ h => h) hS (fun L' W' hL hW => by go_simp; rfl) ?_
    refine g_take (i := 8) rfl rfl (by kernel_rfl) (by kernel_rfl) (by kernel_rfl) (by kernel_rfl) (by kernel_rfl) (fun _ _ _ h => h) hS (fun L' W' hL hW => by go_simp; rfl) ?_
    refine g_take (i := 9) rfl rfl (by kernel_rfl) (by kernel_rfl) (by kernel_rfl) (by kernel_rfl) (by kernel_rfl) (fun _ _ _ h => h) hS (fun L' W' hL hW => by go_simp; rfl) ?_
    refine g_take (i := 10) rfl rfl (by kernel_rfl) (by kernel_rfl) (by kernel_rfl) (by kernel_rfl) (by kernel_rfl) (fun _ _ _ h => h) hS (fun L' W' hL hW => by obtain ⟨k0, k1, k2⟩ := HCL.out _ hW; go_simp; rfl) ?_
    refine g_take (i := 11) rfl rfl (by kernel_rfl) (by kernel_rfl) (by kernel_rfl) (by kernel_rfl) (by kernel_rfl) (fun _ _ _ h => h) hS (fun L' W' hL hW => by go_simp; rfl) ?_
    refine g_take (i := 12) rfl rfl (by kernel_rfl) (by kernel_rfl) (by kernel_rfl) (by kernel_rfl) (by kernel_rfl) (fun _ _ _ h => h) hS (fun L' W' hL hW => by go_simp; rfl) ?_
    refine g_take (i := 13) rfl rfl (by kernel_rfl) (by kernel_rfl) (by kernel_rfl) (by kernel_rfl) (by kernel_rfl) (fun _ _ _ h => h) hS (fun L' W' hL hW => by obtain ⟨k0, k1, k2⟩ := HCL.out _ hW; go_simp; rfl) ?_
    refine g_take (i := 14) rfl rfl (by kernel_rfl) (by kernel_rfl) (by kernel_rfl) (by kernel_rfl) (by kernel_rfl) (fun _ _ _ h => h) hS (fun L' W' hL hW => by go_simp; rfl) ?_
    refine wpAnyG_done (by kernel_rfl) ?_ _
    go_simp
    go_wp2_with fail
    clear hgt c0
    refine Calls.mono (HTU.out _ hS) ?_
    rintro e w2 (⟨t1, rfl, t3⟩ | ⟨t1, back, fore, pl, t2, t3, t4, t5, rfl, t6⟩)
    · have HFIN : Hid (PutV base F o n L P A u v w (.returned (.tuple #[.int .i64 0, .int .i64 25])) w2) := Lib.hid (.inl ⟨t1, rfl, hS.trans (t3.mono hS.size)⟩)
      clear t1 t3 HCL HTU hS
      go_wp2_with fail
      go_ret2
      exact HFIN.out
    · obtain ⟨P', hP'⟩ : ∃ P', P' = newP P A back fore pl := ⟨_, rfl⟩
      obtain ⟨A', hA'⟩ : ∃ A', A' = newA A back fore pl := ⟨_, rfl⟩
      have HST : Hid (Step n L P A u v P' A') := Lib.hid (.inr ⟨by rw [HPU.out, HPV.out]; exact HLT.out, back, fore, pl, t2, t3, t4, t5, hP', hA'⟩)
      have HNP := Lib.hid t1
      rw [← hP', ← hA'] at t6
      rw [← hP']
      have HT6 := Lib.hid (show OUpd base F o n L P' A' w w2 from by
        obtain ⟨F', q1, q2, q3⟩ := t6
        exact ⟨F', q1, (Fr.of_below hS).trans q2 (fun _ _ h => h), fun j hj => (q3 j hj).imp id (fun h => Nat.le_trans hS.size h)⟩)
      clear t1 t2 t3 t4 t5 t6 hP' hA' HCL HTU hS
      obtain ⟨F', ⟨g', vp', va', Fg', hO'⟩, hF1, hF2⟩ := HT6.out
      have c0' := hO'.cells.1
      have HG := Lib.hid (put_all w2 base g' n Fg' L hO'.gr (HOK.out.rises (by omega)) (fr_g hO') u v)
      have HO' := Lib.hid hO'
      have HF1 := Lib.hid hF1
      have HF2 := Lib.hid hF2
      generalize hmv : moved n P P' = mv at *
      have HMV := Lib.hid hmv
      clear hO' hF1 hF2 HT6 hmv
      go_wp2_with fail
      refine Calls.mono HG.out ?_
      intro e w3 h3
      unfold PutOut at h3
      rw [if_pos HCP.out, Int.toNat_natCast, Int.toNat_natCast] at h3
      obtain ⟨rfl, h3⟩ := h3
      have HFIN : Hid (PutV base F o n L P A u v w (.returned (.tuple #[.int .i64 (mv : Nat), .int .i64 0])) w3) := Lib.hid (.inr ⟨HNP.out, P', A', HST.out, by rw [HMV.out], by
        obtain ⟨F2, q1, q2, q3⟩ := HO'.out.upd h3
        refine ⟨F2, q1, HF1.out.trans q2 (fun j hj e => ?_), fun j hj => ?_⟩
        · rcases HF2.out j e with e | e
          · exact e
          · omega
        · rcases q3 j hj with e | e
          · exact HF2.out j e
          · have := HF1.out.size; exact .inr (by omega)⟩)
      clear h3 HG HO' HF1 HF2 HST HNP c0'
      generalize (!hasE n L (u : Int) (v : Int)) = bb
      go_wp2_with fail
      go_ret2
      exact HFIN.out
  · have hgt : ¬ (pv : Int) < (pu : Int) := by omega
    have HLT := Lib.hid (show pu < pv by omega)
    clear hplt hlt HTU
    go_enter Try.func30, Try.ntmps30
    go_wp2_with fail
    refine Calls.mono HN.out ?_
    rintro e w' ⟨rfl, rfl⟩
    clear HN
    go_wp2_with fail
    refine Calls.mono HU.out ?_
    rintro e w' ⟨rfl, rfl⟩
    clear HU
    go_wp2_with fail
    refine Calls.mono HV.out ?_
    rintro e w' ⟨rfl, rfl⟩
    clear HV
    go_wp2_with fail
    have hS : Below w.heap.size w w.drew := (Below.refl _ w).drew
    refine wp_region_heldG [] (fun _ W => Below w.heap.size w W) (by kernel_rfl) ?_
    change wpAnyG _ _ _ _ _ _ 15 _ _ w.drew
    refine g_take (i := 0) rfl rfl (by kernel_rfl) (by kernel_rfl) (by kernel_rfl) (by kernel_rfl) (by kernel_rfl) (fun _ _ _ h => h) hS (fun L' W' hL hW => by go_simp; rfl) ?_
    refine g_take (i := 1) rfl rfl (by kernel_rfl) (by kernel_rfl) (by kernel_rfl) (by kernel_rfl) (by kernel_rfl) (fun _ _ _ h => h) hS (fun L' W' hL hW => by go_simp; rfl) ?_
    refine g_take (i := 2) rfl rfl (by kernel_rfl) (by kernel_rfl) (by kernel_rfl) (by kernel_rfl) (by kernel_rfl) (fun _ _ _ h => h) hS (fun L' W' hL hW => by go_simp; rfl) ?_
    refine g_take (i := 3) rfl rfl (by kernel_rfl) (by kernel_rfl) (by kernel_rfl) (by kernel_rfl) (by kernel_rfl) (fun _ _ _ h => h) hS (fun L' W' hL hW => by obtain ⟨k0, k1, k2⟩ := HCL.out _ hW; go_simp; rfl) ?_
    refine g_take (i := 4) rfl rfl (by kernel_rfl) (by kernel_rfl) (by kernel_rfl) (by kernel_rfl) (by kernel_rfl) (fun _ _ _ h => h) hS (fun L' W' hL hW => by go_simp; rfl) ?_
    refine g_take (i := 5) rfl rfl (by kernel_rfl) (by kernel_rfl) (by kernel_rfl) (by kernel_rfl) (by kernel_rfl) (fun _ _ _ h => h) hS (fun L' W' hL hW => by go_simp; rfl) ?_
    refine g_take (i := 6) rfl rfl (by kernel_rfl) (by kernel_rfl) (by kernel_rfl) (by kernel_rfl) (by kernel_rfl) (fun _ _ _ h => h) hS (fun L' W' hL hW => by obtain ⟨k0, k1, k2⟩ := HCL.out _ hW; go_simp; rfl) ?_
    refine g_take (i := 7) rfl rfl (by kernel_rfl) (by kernel_rfl) (by kernel_rfl) (by kernel_rfl) (by kernel_rfl) (fun _ _ _ h => h) hS (fun L' W' hL hW => by go_simp; rfl) ?_
    refine g_take (i := 8) rfl rfl (by kernel_rfl) (by kernel_rfl) (by kernel_rfl) (by kernel_rfl) (by kernel_rfl) (fun _ _ _ h => h) hS (fun L' W' hL hW => by go_simp; rfl) ?_
    refine g_take (i := 9) rfl rfl (by kernel_rfl) (by kernel_rfl) (by kernel_rfl) (by kernel_rfl) (by kernel_rfl) (fun _ _ _ h => h) hS (fun L' W' hL hW => by go_simp; rfl) ?_
    refine g_take (i := 10) rfl rfl (by kernel_rfl) (by kernel_rfl) (by kernel_rfl) (by kernel_rfl) (by kernel_rfl) (fun _ _ _ h => h) hS (fun L' W' hL hW => by obtain ⟨k0, k1, k2⟩ := HCL.out _ hW; go_simp; rfl) ?_
    refine g_take (i := 11) rfl rfl (by kernel_rfl) (by kernel_rfl) (by kernel_rfl) (by kernel_rfl) (by kernel_rfl) (fun _ _ _ h => h) hS (fun L' W' hL hW => by go_simp; rfl) ?_
    refine g_take (i := 12) rfl rfl (by kernel_rfl) (by kernel_rfl) (by kernel_rfl) (by kernel_rfl) (by kernel_rfl) (fun _ _ _ h => h) hS (fun L' W' hL hW => by go_simp; rfl) ?_
    refine g_take (i := 13) rfl rfl (by kernel_rfl) (by kernel_rfl) (by kernel_rfl) (by kernel_rfl) (by kernel_rfl) (fun _ _ _ h => h) hS (fun L' W' hL hW => by obtain ⟨k0, k1, k2⟩ := HCL.out _ hW; go_simp; rfl) ?_
    refine g_take (i := 14) rfl rfl (by kernel_rfl) (by kernel_rfl) (by kernel_rfl) (by kernel_rfl) (by kernel_rfl) (fun _ _ _ h => h) hS (fun L' W' hL hW => by go_simp; rfl) ?_
    refine wpAnyG_done (by kernel_rfl) ?_ _
    have c0' : w.drew.cell? ⟨o, 0, none⟩ = some (.pointer (some ⟨g, 0, none⟩)) := c0
    have HG := Lib.hid (put_all w.drew base g n Fg L (HOP.out.gr.below hS) (HOK.out.rises (by omega)) (fr_g (HOP.out.below hS)) u v)
    have HS := Lib.hid hS
    clear c0 hS HCL
    go_simp
    go_wp2_with fail
    clear hgt
    refine Calls.mono HG.out ?_
    intro e w3 h3
    unfold PutOut at h3
    rw [if_pos HCP.out, Int.toNat_natCast, Int.toNat_natCast] at h3
    obtain ⟨rfl, h3⟩ := h3
    have HFIN : Hid (PutV base F o n L P A u v w (.returned (.tuple #[.int .i64 0, .int .i64 0])) w3) := Lib.hid (.inr ⟨fun hp => by
      have := HUP.out.path hp
      rw [HPU.out, HPV.out] at this
      have := HLT.out
      omega, P, A, .inl ⟨by rw [HPU.out, HPV.out]; exact HLT.out, rfl, rfl⟩, by rw [moved_self]; rfl, by
      obtain ⟨F2, q1, q2, q3⟩ := (HOP.out.below HS.out).upd h3
      exact ⟨F2, q1, (Fr.of_below HS.out).trans q2 (fun _ _ h => h), fun j hj => (q3 j hj).imp id (fun h => Nat.le_trans HS.out.size h)⟩⟩)
    clear h3 HG c0' HOP
    generalize (!hasE n L (u : Int) (v : Int)) = bb
    go_wp2_with fail
    go_ret2
    exact HFIN.out
end Go.Proofs.Ytelplccbcbegkaa.OrW
