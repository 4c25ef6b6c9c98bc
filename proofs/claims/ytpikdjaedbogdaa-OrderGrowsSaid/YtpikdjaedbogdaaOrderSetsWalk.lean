/-
  The walk of OrderSets.
-/
import Derived.Test.YtpikdjaedbogdaaOrderRun
namespace Go.Proofs.Ytpikdjaedbogdaa.Ord
set_option linter.unusedVariables false
open Go.Proofs.Ytpikdjaedbogdaa.Gr (E Path Inside OK outs intos Cyc putL)

theorem path_put {n : Nat} {L : List (List Int)} (ok : OK n L) {u v : Nat} (hu : u < n) (hv : v < n) {x y : Nat} (h : Path L x y) : Path (putL L u v) x y := by
  induction h with
  | refl => exact .refl _
  | step h1 _ ih => exact .step ((put_edge ok hu hv).2 (.inl h1)) ih
theorem cyc_put {n : Nat} {L : List (List Int)} (ok : OK n L) {u v : Nat} (hu : u < n) (hv : v < n) (h : Cyc n L) : Cyc n (putL L u v) := by
  obtain ⟨a, b, ha, hb, h1, h2⟩ := h
  exact ⟨a, b, ha, hb, (put_edge ok hu hv).2 (.inl h1), path_put ok hu hv h2⟩
/-- What there is while edges come: how many were refused, was there a loop, the order's edges, all edges. -/
structure Sets (n : Nat) (rf : Nat) (lp : Bool) (L : List (List Int)) (P A : List Nat) (G : List (List Int)) : Prop where
  st : OSt n L P A
  ok : OK n G
  iff : rf = 0 ↔ (lp = false ∧ ¬ Cyc n G)
  same : rf = 0 → L = G
theorem Sets.start (n : Nat) : Sets n 0 false (List.replicate (2 * n) []) (List.range n) (List.range n) (List.replicate (2 * n) []) := ⟨OSt.start n, OK.empty n, ⟨fun _ => ⟨rfl, (OSt.start n).acyc⟩, fun _ => rfl⟩, fun _ => rfl⟩
theorem Sets.loop {n rf u c k : Nat} {lp : Bool} {L L' G : List (List Int)} {P A P' A' : List Nat} (h : Sets n rf lp L P A G) (hu : u < n) (hp : Put1 n L P A u u c k L' P' A') : k = 25 ∧ Sets n (rf + 1) true L' P' A' G := by
  rcases hp with ⟨rfl, rfl, -, rfl, rfl, rfl⟩ | ⟨-, -, h1, -⟩
  · exact ⟨rfl, h.st, h.ok, ⟨fun e => by omega, fun e => by simp at e⟩, fun e => by omega⟩
  · exact absurd (.refl _) h1
theorem Sets.next {n rf u v c k : Nat} {lp : Bool} {L L' G : List (List Int)} {P A P' A' : List Nat} (h : Sets n rf lp L P A G) (hu : u < n) (hv : v < n) (hne : u ≠ v) (hp : Put1 n L P A u v c k L' P' A') : Sets n (if k = 0 then rf else rf + 1) lp L' P' A' (putL G u v) := by
  have hst := hp.st h.st hu hv
  refine ⟨hst, h.ok.put hu hv hne, ?_, ?_⟩
  · rcases hp with ⟨rfl, rfl, h1, rfl, rfl, rfl⟩ | ⟨rfl, rfl, h1, -, rfl, h3⟩
    · rw [if_neg (by decide)]
      refine ⟨fun e => by omega, fun ⟨e1, e2⟩ => ?_⟩
      exfalso
      by_cases hr : rf = 0
      · have := h.same hr
        subst this
        exact e2 ⟨u, v, hu, hv, (put_edge h.ok hu hv).2 (.inr ⟨rfl, rfl⟩), path_put h.ok hu hv h1⟩
      · exact hr (h.iff.2 ⟨e1, fun hc => e2 (cyc_put h.ok hu hv hc)⟩)
    · rw [if_pos rfl]
      constructor
      · intro hr
        have e := h.same hr
        subst e
        exact ⟨(h.iff.1 hr).1, hst.acyc⟩
      · intro ⟨e1, e2⟩
        exact h.iff.2 ⟨e1, fun hc => e2 (cyc_put h.ok hu hv hc)⟩
  · intro hr
    rcases hp with ⟨rfl, rfl, h1, rfl, rfl, rfl⟩ | ⟨rfl, rfl, h1, -, rfl, h3⟩
    · rw [if_neg (by decide)] at hr; omega
    · rw [if_pos rfl] at hr
      rw [h.same hr]
end Go.Proofs.Ytpikdjaedbogdaa.Ord
namespace Go.Proofs.Ytpikdjaedbogdaa.OrW
set_option linter.unusedVariables false
open Go Go.RowKit Go.Proofs Go.Proofs.Ytpikdjaedbogdaa Go.Proofs.Ytpikdjaedbogdaa.Wd Go.Proofs.Ytpikdjaedbogdaa.GrW Go.Proofs.Ytpikdjaedbogdaa.Ord
open Go.Proofs.Ytpikdjaedbogdaa.Gr (OK putL outs intos Path edgesTo ev)

theorem wrap_u8 {x : Nat} (h : x < 256) : wrap64 (x : Int) = (x : Int) := IntWalk.wrap64_in _ (by omega)
theorem wrap_sum {i x : Nat} (hi : i < 1000) (h : x < 256) : wrap64 ((i : Int) + (x : Int)) = (i : Int) + (x : Int) := IntWalk.wrap64_in _ (by omega)
theorem tmod_sum (i x m : Nat) : ((i : Int) + (x : Int)).tmod (m : Int) = (((i + x) % m : Nat) : Int) := by
  rw [Int.tmod_eq_emod_of_nonneg (Int.add_nonneg (Int.natCast_nonneg _) (Int.natCast_nonneg _)), Int.natCast_emod, Int.natCast_add]
theorem OAt.more {w : World} {base base' o n : Nat} {F : Nat → Prop} {L : List (List Int)} {P A : List Nat} (h : OAt w base F o n L P A) (hb : base' ≤ base) : OAt w base' F o n L P A := by
  obtain ⟨g, vp, va, Fg, h⟩ := h
  exact ⟨g, vp, va, Fg, { h with far := Nat.le_trans hb h.far, gr := GAt.more h.gr hb, rp := own_base h.rp hb, ra := own_base h.ra hb }⟩
theorem BothF.start2 {w w1 w2 : World} {o g M : Nat} {L G : List (List Int)} {P A : List Nat} (hG : GAt w1 w.heap.size (fun k => w.heap.size ≤ k ∧ k < w1.heap.size) g M G) (hB : Below w.heap.size w w1) (hO : OAt w2 w1.heap.size (fun k => w1.heap.size ≤ k) o M L P A) (hB2 : Below w1.heap.size w1 w2) :
    BothF w w2 (fun k => w1.heap.size ≤ k ∧ k < w2.heap.size) (fun k => w.heap.size ≤ k ∧ k < w1.heap.size) o g M L P A G where
  ord := OAt.more hO.exist hB.size
  gr := hG.below hB2
  f1 := fun k e => ⟨Nat.le_trans hB.size e.1, e.2⟩
  f2 := fun k e => ⟨e.1, Nat.lt_of_lt_of_le e.2 hB2.size⟩
  apart := fun k e1 e2 => by have := e1.1; have := e2.2; omega
  low := hB.trans (hB2.mono hB.size)
theorem sort_b {w : World} {base g n : Nat} {F : Nat → Prop} {L : List (List Int)} (h : GAt w base F g n L) (ok : OK n L) (hn : n ≤ 30000) (b : Bool) (hb : b = true ↔ ¬ Gr.Cyc n L) : Calls Try.prog 17 #[.pointer (some ⟨g, 0, none⟩)] w fun e w' => ∃ A n' c, e = .returned (.tuple #[.slice A n' c, .bool b]) ∧ Below w.heap.size w w' := by
  refine (GrW.sort_any w base g n F L h (ok.rises hn) ok.inside ok.cons hn).mono ?_
  rintro e w' ⟨out, h1, h2, h3, h4⟩
  have hl := Gr.sorted_iff ok h1 h2
  rcases h4 with ⟨h4, v', rfl, h5⟩ | ⟨h4, rfl⟩
  · obtain ⟨A, c, rfl⟩ := own_form h5
    have : b = true := hb.2 (hl.1 h4)
    rw [this]
    exact ⟨A, _, c, rfl, h3⟩
  · have : b = false := by
      rw [← Bool.not_eq_true]
      intro e
      have := hl.2 (hb.1 e)
      omega
    rw [this]
    exact ⟨none, 0, 0, rfl, h3⟩
set_option maxRecDepth 100000 in
set_option maxHeartbeats 16000000 in
theorem sets_walk (nb : Nat) (hnb : nb < 256) (A : Option Addr) (c : Nat) (l : List (Int × Int)) (n : Nat) (hn : n = l.length) (hnc : n ≤ c) (hcm : c ≤ maxLen) (tn : Nat) (htn : tn < 256) (w : World) (hI : EdgesAt w w.heap.size A l) :
    Calls Try.prog 4 #[.int .u8 nb, .slice A n c, .int .u8 tn] w fun e w' => e = .returned (.bool true) ∧ Below w.heap.size w w' := by
  unfold maxLen at hcm
  obtain ⟨c0, hc0⟩ : ∃ c0, c0 = nb % 30 := ⟨_, rfl⟩
  obtain ⟨M, hM⟩ : ∃ M, M = 2 + nb % 30 := ⟨_, rfl⟩
  have hM2 : M = 2 + c0 := by omega
  have t0 : (nb : Int).tmod 30 = (c0 : Int) := by rw [Int.tmod_eq_emod_of_nonneg (Int.natCast_nonneg _)]; omega
  have wa : wrap64 (c0 : Int) = c0 := IntWalk.wrap64_in _ (by omega)
  have ha : 2 + (c0 : Int) = (M : Int) := by omega
  have hM31 : M ≤ 31 := by rw [hM]; exact Nat.add_le_add_left (Nat.le_of_lt_succ (Nat.mod_lt nb (by decide))) 2
  have hM1 : 2 ≤ M := by rw [hM]; exact Nat.le_add_right 2 _
  obtain ⟨m, hm⟩ : ∃ m, m = min n 60 := ⟨_, rfl⟩
  have HMM := Lib.hid hm
  have hmc : (m : Int) ≤ (c : Int) := by omega
  have hm80 : m ≤ 60 := by omega
  have hmn : m ≤ n := by omega
  have HNL := Lib.hid hn
  have HI := Lib.hid hI
  clear hm hc0 hM hM2 hn hI
  have HTN := Lib.hid htn
  clear htn
  have HNW := Lib.hid (GrW.new_any (M : Int) w)
  go_enter Try.func4, Try.ntmps4
  go_upto_region 2 with fail
  go_cut [1] (fun v29 wx => v29 = .slice A m c ∧ wx = w)
  case first =>
    have hm := HMM.out
    go_wp2_with fail
    go_meet
    have e1 : (min (n : Int) 60).toNat = m := by omega
    exact ⟨by rw [e1], rfl⟩
  case rest =>
  obtain ⟨rfl, hwc⟩ := hcut
  have hwc := hwc.symm
  subst hwc
  go_wp2_with fail
  refine Calls.mono HNW.out ?_
  intro e w1 h1
  unfold NewOut at h1
  rw [if_pos (by omega), Int.toNat_natCast] at h1
  obtain ⟨g, rfl, G1, B1⟩ := h1
  have HG1 := Lib.hid G1.exist
  have HB1 := Lib.hid B1
  clear HNW G1 B1 t0 wa ha
  go_wp2_with fail
  refine Calls.mono (newO_any (M : Int) w1) ?_
  intro e w2 h1
  unfold ONewOut at h1
  rw [if_pos (by omega), Int.toNat_natCast] at h1
  obtain ⟨o, rfl, O2, B2⟩ := h1
  have HA0 : Hid (∃ F1 F2 L P A G, BothF w w2 F1 F2 o g M L P A G ∧ Sets M 0 false L P A G) := Lib.hid ⟨_, _, _, _, _, _, BothF.start2 HG1.out HB1.out O2 B2, Sets.start M⟩
  have HLW := Lib.hid (HB1.out.trans (B2.mono HB1.out.size))
  clear HG1 HB1 O2 B2
  by_cases hm0 : m = 0
  · have e0 : ((m : Int) == 0) = true := by rw [beq_iff_eq]; omega
    clear hm0
    go_wp2_with fail
    refine Calls.mono (awakeO_any w2) ?_
    rintro e w9 ⟨rfl, b9⟩
    have HB9 := Lib.hid (HLW.out.trans (b9.mono HLW.out.size))
    clear HLW b9 HA0
    go_wp2_with fail
    go_ret
    exact ⟨rfl, HB9.out⟩
  · have e0 : ((m : Int) == 0) = false := by rw [beq_eq_false_iff_ne]; omega
    have hmp : 0 < m := by omega
    clear HLW
    go_wp2_with fail
    go_loopw [12, 13, 53] (fun rv lv ix wr => ∃ (i rf : Nat) (lp : Bool), i ≤ m ∧ rf ≤ i ∧ rv = .int .i64 (rf : Nat) ∧ lv = .bool lp ∧ ix = .int .i64 i ∧ Hid (∃ F1 F2 L P A G, BothF w wr F1 F2 o g M L P A G ∧ Sets M rf lp L P A G)) (fun _ _ ix _ => m - (intOf ix).toNat)
    case atStart => exact ⟨0, 0, false, Nat.zero_le _, Nat.le_refl _, rfl, rfl, rfl, HA0⟩
    case round =>
      obtain ⟨i, rf, lp, hi, hrf, rfl, rfl, rfl, HS⟩ := hrel
      clear HA0
      by_cases hlt : i < m
      · obtain ⟨j, hj, hjm⟩ : ∃ j, j = (i + tn) % m ∧ j < m := ⟨_, rfl, Nat.mod_lt _ hmp⟩
        have TJ : Hid (((i : Int) + (tn : Int)).tmod (m : Int) = (j : Int)) := Lib.hid (by rw [hj]; exact tmod_sum i tn m)
        have WT := Lib.hid (wrap_u8 HTN.out)
        have WS := Lib.hid (wrap_sum (Nat.lt_of_le_of_lt hi (Nat.lt_of_le_of_lt hm80 (by decide)) : i < 1000) HTN.out)
        clear hj
        have hjl : j < l.length := by have := HNL.out; omega
        obtain ⟨b, off, rfl, hb, p1, p2⟩ := HI.out j hjl
        obtain ⟨F1, F2, L, P, A, G, hBo, hSt⟩ := HS.out
        have q1 := (hBo.low.cell (p := ⟨b, _, none⟩) hb).trans p1
        have q2 := (hBo.low.cell (p := ⟨b, _, none⟩) hb).trans p2
        have HBo := Lib.hid hBo
        have HSt := Lib.hid hSt
        generalize l[j] = x at *
        obtain ⟨xf, xt⟩ := x
        have i1 : (0 : Int) ≤ (j : Int) := by omega
        have i2 : (j : Int) < (m : Int) := by omega
        have i3 : (i : Int) < (m : Int) := by omega
        have HLT := Lib.hid hlt
        obtain ⟨u, hu1, hu⟩ := mod_nat xf M (by omega)
        obtain ⟨v, hv1, hv⟩ := mod_nat xt M (by omega)
        have HU := Lib.hid hu1
        have HV := Lib.hid hv1
        have HA : Hid (Below wr.heap.size wr (wr.alloc (.cells #[.int .i64 xf, .int .i64 xt] 28))) := Lib.hid ((Below.refl _ wr).alloc (Nat.le_refl _) _)
        have HBX := Lib.hid (Blk.new_ wr 28 #[.int .i64 xf, .int .i64 xt] rfl)
        have HBo2 := Lib.hid (HBo.out.below (HA.out.drew))
        clear p1 p2 hb hBo hSt HBo HS hu1 hv1 hjl
        have tj := TJ.out
        have wt := WT.out
        have ws := WS.out
        go_wp2_with fail
        clear q1 q2 tj wt ws
        have hS : (wr.alloc (.cells #[.int .i64 xf, .int .i64 xt] 28)).drew.cell? ⟨wr.heap.size, 0, none⟩ = some (.int .i64 xf) ∧ (wr.alloc (.cells #[.int .i64 xf, .int .i64 xt] 28)).drew.cell? ⟨wr.heap.size, 1, none⟩ = some (.int .i64 xt) := ⟨HBX.out.at_ 0 rfl, HBX.out.at_ 1 rfl⟩
        refine wp_region_heldG [] (fun _ W => W.cell? ⟨wr.heap.size, 0, none⟩ = some (.int .i64 xf) ∧ W.cell? ⟨wr.heap.size, 1, none⟩ = some (.int .i64 xt)) (by kernel_rfl) ?_
        change wpAnyG _ _ _ _ _ _ 10 _ _ (wr.alloc (.cells #[.int .i64 xf, .int .i64 xt] 28)).drew
        generalize (wr.alloc (.cells #[.int .i64 xf, .int .i64 xt] 28)).drew = wa at *
        refine g_take (i := 0) rfl rfl (by kernel_rfl) (by kernel_rfl) (by kernel_rfl) (by kernel_rfl) (by kernel_rfl) (fun _ _ _ h => h) hS (fun L' W' hL hW => by go_simp; rfl) ?_
        refine g_take (i := 1) rfl rfl (by kernel_rfl) (by kernel_rfl) (by kernel_rfl) (by kernel_rfl) (by kernel_rfl) (fun _ _ _ h => h) hS (fun L' W' hL hW => by obtain ⟨k0, k1⟩ := hW; go_simp; rfl) ?_
        refine g_take (i := 2) rfl rfl (by kernel_rfl) (by kernel_rfl) (by kernel_rfl) (by kernel_rfl) (by kernel_rfl) (fun _ _ _ h => h) hS (fun L' W' hL hW => by go_simp; rfl) ?_
        refine g_take (i := 4) rfl rfl (by kernel_rfl) (by kernel_rfl) (by kernel_rfl) (by kernel_rfl) (by kernel_rfl) (fun _ _ _ h => h) hS (fun L' W' hL hW => by go_simp; rfl) ?_
        refine g_take (i := 5) rfl rfl (by kernel_rfl) (by kernel_rfl) (by kernel_rfl) (by kernel_rfl) (by kernel_rfl) (fun _ _ _ h => h) hS (fun L' W' hL hW => by obtain ⟨k0, k1⟩ := hW; go_simp; rfl) ?_
        refine g_take (i := 6) rfl rfl (by kernel_rfl) (by kernel_rfl) (by kernel_rfl) (by kernel_rfl) (by kernel_rfl) (fun _ _ _ h => h) hS (fun L' W' hL hW => by go_simp; rfl) ?_
        refine g_one (i := 3) rfl rfl (by kernel_rfl) fun K' hK => ?_
        go_simp
        refine Calls.mono (among_any xf M (by omega) (by omega) wa) ?_
        rintro e w' ⟨rfl, rfl⟩
        rw [HU.out]
        refine hK _ _ hS ?_
        clear hK K'
        refine g_one (i := 7) rfl rfl (by kernel_rfl) fun K' hK => ?_
        go_simp
        refine Calls.mono (among_any xt M (by omega) (by omega) wa) ?_
        rintro e w' ⟨rfl, rfl⟩
        rw [HV.out]
        refine hK _ _ hS ?_
        clear hK K'
        refine g_take (i := 8) rfl rfl (by kernel_rfl) (by kernel_rfl) (by kernel_rfl) (by kernel_rfl) (by kernel_rfl) (fun _ _ _ h => h) hS (fun L' W' hL hW => by go_simp; rfl) ?_
        refine g_take (i := 9) rfl rfl (by kernel_rfl) (by kernel_rfl) (by kernel_rfl) (by kernel_rfl) (by kernel_rfl) (fun _ _ _ h => h) hS (fun L' W' hL hW => by go_simp; rfl) ?_
        refine wpAnyG_done (by kernel_rfl) ?_ _
        clear hS HBX HA
        by_cases huv : u = v
        · subst huv
          have he : ((u : Int) == (u : Int)) = true := by simp
          go_simp
          cases lp
          · go_wp2_with fail
            refine Calls.mono (putOS_any HBo2.out.ord HSt.out.st (by omega) u u hu hu) ?_
            rintro e w4 ⟨ch, kc, L', P', A', rfl, hP1, hU4⟩
            obtain ⟨hk25, hst2⟩ := HSt.out.loop hu hP1
            obtain ⟨F1', hB4, -⟩ := HBo2.out.updO hU4
            subst hk25
            have HN : Hid (∃ F1 F2 L P A G, BothF w w4 F1 F2 o g M L P A G ∧ Sets M (rf + 1) true L P A G) := Lib.hid ⟨_, _, _, _, _, _, hB4, hst2⟩
            clear hP1 hU4 hst2 hB4 HBo2
            go_wp2_with fail
            go_roundw
            case rel => exact ⟨i + 1, rf + 1, true, by have := HLT.out; omega, by omega, by go_num, rfl, by go_num, HN⟩
            case measure => simp [intOf]; have := HLT.out; omega
          · go_wp2_with fail
            refine Calls.mono (putOS_any HBo2.out.ord HSt.out.st (by omega) u u hu hu) ?_
            rintro e w4 ⟨ch, kc, L', P', A', rfl, hP1, hU4⟩
            obtain ⟨hk25, hst2⟩ := HSt.out.loop hu hP1
            obtain ⟨F1', hB4, -⟩ := HBo2.out.updO hU4
            subst hk25
            have HN : Hid (∃ F1 F2 L P A G, BothF w w4 F1 F2 o g M L P A G ∧ Sets M (rf + 1) true L P A G) := Lib.hid ⟨_, _, _, _, _, _, hB4, hst2⟩
            clear hP1 hU4 hst2 hB4 HBo2
            go_wp2_with fail
            go_roundw
            case rel => exact ⟨i + 1, rf + 1, true, by have := HLT.out; omega, by omega, by go_num, rfl, by go_num, HN⟩
            case measure => simp [intOf]; have := HLT.out; omega
        · have he : ((u : Int) == (v : Int)) = false := by rw [beq_eq_false_iff_ne]; omega
          have HNE := Lib.hid huv
          clear huv
          go_simp
          cases lp
          · go_wp2_with fail
            refine Calls.mono (putG_any HBo2.out.gr HSt.out.ok (by omega) HBo2.out.low.size u v hu hv HNE.out) ?_
            rintro e w3 ⟨bp, rfl, hU3⟩
            obtain ⟨F2', hB3, -⟩ := HBo2.out.updG hU3
            have HB3 := Lib.hid hB3
            clear hU3 hB3 HBo2
            go_wp2_with fail
            refine Calls.mono (putOS_any HB3.out.ord HSt.out.st (by omega) u v hu hv) ?_
            rintro e w4 ⟨ch, kc, L', P', A', rfl, hP1, hU4⟩
            have hst2 := HSt.out.next hu hv HNE.out hP1
            obtain ⟨F1', hB4, -⟩ := HB3.out.updO hU4
            have hcode := hP1.code.2
            rcases hcode with rfl | rfl
            · rw [if_pos rfl] at hst2
              have HN : Hid (∃ F1 F2 L P A G, BothF w w4 F1 F2 o g M L P A G ∧ Sets M rf false L P A G) := Lib.hid ⟨_, _, _, _, _, _, hB4, hst2⟩
              clear hP1 hU4 hst2 hB4 HB3
              go_wp2_with fail
              go_roundw
              case rel => exact ⟨i + 1, rf, false, by have := HLT.out; omega, by omega, rfl, rfl, by go_num, HN⟩
              case measure => simp [intOf]; have := HLT.out; omega
            · rw [if_neg (by decide)] at hst2
              have HN : Hid (∃ F1 F2 L P A G, BothF w w4 F1 F2 o g M L P A G ∧ Sets M (rf + 1) false L P A G) := Lib.hid ⟨_, _, _, _, _, _, hB4, hst2⟩
              clear hP1 hU4 hst2 hB4 HB3
              go_wp2_with fail
              go_roundw
              case rel => exact ⟨i + 1, rf + 1, false, by have := HLT.out; omega, by omega, by go_num, rfl, by go_num, HN⟩
              case measure => simp [intOf]; have := HLT.out; omega
          · go_wp2_with fail
            refine Calls.mono (putG_any HBo2.out.gr HSt.out.ok (by omega) HBo2.out.low.size u v hu hv HNE.out) ?_
            rintro e w3 ⟨bp, rfl, hU3⟩
            obtain ⟨F2', hB3, -⟩ := HBo2.out.updG hU3
            have HB3 := Lib.hid hB3
            clear hU3 hB3 HBo2
            go_wp2_with fail
            refine Calls.mono (putOS_any HB3.out.ord HSt.out.st (by omega) u v hu hv) ?_
            rintro e w4 ⟨ch, kc, L', P', A', rfl, hP1, hU4⟩
            have hst2 := HSt.out.next hu hv HNE.out hP1
            obtain ⟨F1', hB4, -⟩ := HB3.out.updO hU4
            have hcode := hP1.code.2
            rcases hcode with rfl | rfl
            · rw [if_pos rfl] at hst2
              have HN : Hid (∃ F1 F2 L P A G, BothF w w4 F1 F2 o g M L P A G ∧ Sets M rf true L P A G) := Lib.hid ⟨_, _, _, _, _, _, hB4, hst2⟩
              clear hP1 hU4 hst2 hB4 HB3
              go_wp2_with fail
              go_roundw
              case rel => exact ⟨i + 1, rf, true, by have := HLT.out; omega, by omega, rfl, rfl, by go_num, HN⟩
              case measure => simp [intOf]; have := HLT.out; omega
            · rw [if_neg (by decide)] at hst2
              have HN : Hid (∃ F1 F2 L P A G, BothF w w4 F1 F2 o g M L P A G ∧ Sets M (rf + 1) true L P A G) := Lib.hid ⟨_, _, _, _, _, _, hB4, hst2⟩
              clear hP1 hU4 hst2 hB4 HB3
              go_wp2_with fail
              go_roundw
              case rel => exact ⟨i + 1, rf + 1, true, by have := HLT.out; omega, by omega, by go_num, rfl, by go_num, HN⟩
              case measure => simp [intOf]; have := HLT.out; omega
      · obtain rfl : i = m := by omega
        obtain ⟨F1, F2, L, P, A, G, hBo, hSt⟩ := HS.out
        have HLW := Lib.hid hBo.low
        obtain ⟨bs, hbs⟩ : ∃ bs : Bool, bs = true ↔ ¬ Gr.Cyc M G := by
          by_cases hc : Gr.Cyc M G
          · exact ⟨false, ⟨fun e => Bool.noConfusion e, fun e => absurd hc e⟩⟩
          · exact ⟨true, ⟨fun _ => hc, fun _ => rfl⟩⟩
        have HSO := Lib.hid (sort_b hBo.gr hSt.ok (by omega) bs hbs)
        have hend : decide (rf = 0) = (bs && !lp) := by
          rw [Bool.eq_iff_iff, decide_eq_true_eq, hSt.iff, Bool.and_eq_true, hbs]
          cases lp <;> simp
        have HE := Lib.hid hend
        clear HS hBo hSt hbs hend
        go_wp2_with fail
        refine Calls.mono HSO.out ?_
        rintro e w3 ⟨A3, n3, c3, rfl, b3⟩
        have HB3 := Lib.hid (HLW.out.trans (b3.mono HLW.out.size))
        clear HSO HLW b3
        by_cases hr0 : rf = 0
        · have hE := HE.out
          rw [decide_eq_true hr0] at hE
          have e1 : ((rf : Int) == 0) = true := by rw [beq_iff_eq]; omega
          cases bs
          · simp at hE
          · cases lp
            · clear hE HE hr0
              go_wp2_with fail
              refine Calls.mono (awakeO_any w3) ?_
              rintro e w9 ⟨rfl, b9⟩
              have HB9 := Lib.hid (HB3.out.trans (b9.mono HB3.out.size))
              clear HB3 b9
              go_wp2_with fail
              go_ret
              exact ⟨rfl, HB9.out⟩
            · simp at hE
        · have hE := HE.out
          rw [decide_eq_false hr0] at hE
          have e1 : ((rf : Int) == 0) = false := by rw [beq_eq_false_iff_ne]; omega
          cases bs
          · clear hE HE hr0
            go_wp2_with fail
            refine Calls.mono (awakeO_any w3) ?_
            rintro e w9 ⟨rfl, b9⟩
            have HB9 := Lib.hid (HB3.out.trans (b9.mono HB3.out.size))
            clear HB3 b9
            go_wp2_with fail
            go_ret
            exact ⟨rfl, HB9.out⟩
          · cases lp
            · simp at hE
            · clear hE HE hr0
              go_wp2_with fail
              refine Calls.mono (awakeO_any w3) ?_
              rintro e w9 ⟨rfl, b9⟩
              have HB9 := Lib.hid (HB3.out.trans (b9.mono HB3.out.size))
              clear HB3 b9
              go_wp2_with fail
              go_ret
              exact ⟨rfl, HB9.out⟩
end Go.Proofs.Ytpikdjaedbogdaa.OrW
