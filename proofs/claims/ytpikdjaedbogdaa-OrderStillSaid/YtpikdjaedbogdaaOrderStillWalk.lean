/-
  The walk of OrderStill.
-/
import Derived.Test.YtpikdjaedbogdaaOrderRun
namespace Go.Proofs.Ytpikdjaedbogdaa.Ord
set_option linter.unusedVariables false
open Go.Proofs.Ytpikdjaedbogdaa.Gr (E Path Inside OK outs intos Cyc putL)

/-- Who moved: from where, to where. -/
def mvs (P Q : List Nat) (i : Nat) : List (Int × Int) := ((List.range i).filter fun w => decide (P.getD w 0 ≠ Q.getD w 0)).map fun w => (((P.getD w 0 : Nat) : Int), ((Q.getD w 0 : Nat) : Int))
theorem mvs_succ (P Q : List Nat) (i : Nat) : mvs P Q (i + 1) = if P.getD i 0 ≠ Q.getD i 0 then mvs P Q i ++ [(((P.getD i 0 : Nat) : Int), ((Q.getD i 0 : Nat) : Int))] else mvs P Q i := by
  unfold mvs
  rw [List.range_succ, List.filter_append]
  generalize hd : (fun w => decide (P.getD w 0 ≠ Q.getD w 0)) = d
  by_cases h : P.getD i 0 ≠ Q.getD i 0
  · have e : d i = true := by rw [← hd]; exact decide_eq_true h
    rw [if_pos h]; simp [e]
  · have e : d i = false := by rw [← hd]; exact decide_eq_false h
    rw [if_neg h]; simp [e]
theorem mvs_len (P Q : List Nat) (n : Nat) : (mvs P Q n).length = moved n P Q := by
  unfold mvs moved
  rw [List.length_map, List.countP_eq_length_filter]
theorem mvs_le (P Q : List Nat) (i : Nat) : (mvs P Q i).length ≤ i := by
  unfold mvs
  rw [List.length_map]
  exact Nat.le_trans (List.length_filter_le _ _) (by simp)
theorem mvs_at {P Q : List Nat} {i j : Nat} (h : j < (mvs P Q i).length) : ∃ w, w < i ∧ (mvs P Q i)[j] = (((P.getD w 0 : Nat) : Int), ((Q.getD w 0 : Nat) : Int)) ∧ P.getD w 0 ≠ Q.getD w 0 := by
  have := List.getElem_mem h
  unfold mvs at this
  obtain ⟨w, h1, h2⟩ := List.mem_map.1 this
  rw [List.mem_filter, List.mem_range, decide_eq_true_eq] at h1
  exact ⟨w, h1.1, h2.symm, h1.2⟩
/-- What the statement asks of a put edge. -/
structure StillOf (n : Nat) (P Q : List Nat) (u v c k : Nat) : Prop where
  cnt : c = moved n P Q
  code : k = 0 ∨ k = 25
  zero : k = 0 → ¬ P.getD v 0 ≤ P.getD u 0 → c = 0
  each : ∀ w, w < n → P.getD w 0 ≠ Q.getD w 0 → k = 0 ∧ P.getD v 0 ≤ P.getD u 0 ∧ P.getD v 0 ≤ P.getD w 0 ∧ P.getD w 0 ≤ P.getD u 0 ∧ P.getD v 0 ≤ Q.getD w 0 ∧ Q.getD w 0 ≤ P.getD u 0
  ups : ∀ x y, x < n → y < n → P.getD x 0 < Q.getD x 0 → P.getD y 0 < Q.getD y 0 → (Q.getD x 0 < Q.getD y 0 ↔ P.getD x 0 < P.getD y 0)
  downs : ∀ x y, x < n → y < n → Q.getD x 0 < P.getD x 0 → Q.getD y 0 < P.getD y 0 → (Q.getD x 0 < Q.getD y 0 ↔ P.getD x 0 < P.getD y 0)
theorem Put1.still {n : Nat} {L L' : List (List Int)} {P A P' A' : List Nat} {u v c k : Nat} (h : Put1 n L P A u v c k L' P' A') (hs : OSt n L P A) (hu : u < n) (hv : v < n) : StillOf n P P' u v c k := by
  rcases h with ⟨rfl, rfl, -, rfl, rfl, rfl⟩ | ⟨rfl, rfl, h1, h2, rfl, h3⟩
  · exact ⟨(moved_self _ _).symm, .inr rfl, fun _ _ => rfl, fun w _ e => absurd rfl e, fun x y _ _ e => by omega, fun x y _ _ e => by omega⟩
  · have ht := h3.turned hs.ok hs.perm hs.up hu hv h1
    refine ⟨rfl, .inl rfl, fun _ e => ?_, fun w hw hne => ?_, ht.ups, ht.downs⟩
    · rcases h3 with ⟨-, rfl, rfl⟩ | ⟨h4, -⟩
      · exact moved_self _ _
      · omega
    · have h4 := ht.span w hw (fun e => hne e.symm)
      exact ⟨rfl, by omega, h4⟩
/-- Two that moved. -/
theorem StillOf.two {n : Nat} {P Q : List Nat} {u v c k : Nat} (h : StillOf n P Q u v c k) {x y : Nat} (hx : x < n) (hy : y < n) (ex : P.getD x 0 ≠ Q.getD x 0) (ey : P.getD y 0 ≠ Q.getD y 0) (he : P.getD x 0 < Q.getD x 0 ↔ P.getD y 0 < Q.getD y 0) : P.getD x 0 < P.getD y 0 ↔ Q.getD x 0 < Q.getD y 0 := by
  by_cases h1 : P.getD x 0 < Q.getD x 0
  · exact (h.ups x y hx hy h1 (he.1 h1)).symm
  · have h2 : ¬ P.getD y 0 < Q.getD y 0 := fun e => h1 (he.2 e)
    exact (h.downs x y hx hy (by omega) (by omega)).symm
end Go.Proofs.Ytpikdjaedbogdaa.Ord
namespace Go.Proofs.Ytpikdjaedbogdaa.OrW
set_option linter.unusedVariables false
open Go Go.RowKit Go.Proofs Go.Proofs.Ytpikdjaedbogdaa Go.Proofs.Ytpikdjaedbogdaa.Wd Go.Proofs.Ytpikdjaedbogdaa.GrW Go.Proofs.Ytpikdjaedbogdaa.Ord
open Go.Proofs.Ytpikdjaedbogdaa.Gr (OK putL outs intos Path edgesTo ev)

theorem pairs_at {w : World} {base n c : Nat} {e : TypeId} {A : Option Addr} {l : List (Int × Int)} (h : w.ownsRow base e 2 (.slice A n c) n (ev l)) : EdgesAt w w.heap.size A l := by
  have hl := h.1
  rw [Gr.ev_length] at hl
  have hn : n = l.length := by omega
  rcases h.2 with ⟨hv, h0⟩ | ⟨g, cap, cur, hv, _, hh, hmc, hcm, hcs, htk⟩
  · cases hv
    exact fun j hj => by omega
  · cases hv
    have hblk : Blk w g e cur := hh
    refine fun j hj => ⟨g, 0, rfl, hblk.lt, ?_, ?_⟩
    · obtain ⟨e1, -⟩ := ev_at l j hj
      rw [← htk, List.getElem?_take_of_lt (by omega)] at e1
      rw [hblk.cell, Nat.zero_add]; simpa using e1
    · obtain ⟨-, e1⟩ := ev_at l j hj
      rw [← htk, List.getElem?_take_of_lt (by omega)] at e1
      rw [hblk.cell, Nat.zero_add]; simpa using e1
theorem infoPair : (Try.prog.info? 36).map (fun i => (i.zero, i.size, i.bytes)) = some (some (.agg #[.int .i64 0, .int .i64 0]), 2, 16) := by kernel_rfl
set_option maxRecDepth 100000 in
set_option maxHeartbeats 16000000 in
theorem still_walk (nb : Nat) (hnb : nb < 256) (A : Option Addr) (c : Nat) (l : List (Int × Int)) (n : Nat) (hn : n = l.length) (hnc : n ≤ c) (hcm : c ≤ maxLen) (xa xb : Nat) (hxa : xa < 256) (hxb : xb < 256) (w : World) (hI : EdgesAt w w.heap.size A l) :
    Calls Try.prog 3 #[.int .u8 nb, .slice A n c, .int .u8 xa, .int .u8 xb] w fun e w' => e = .returned (.bool true) ∧ Below w.heap.size w w' := by
  unfold maxLen at hcm
  obtain ⟨c0, hc0⟩ : ∃ c0, c0 = nb % 30 := ⟨_, rfl⟩
  obtain ⟨M, hM⟩ : ∃ M, M = 2 + nb % 30 := ⟨_, rfl⟩
  have hM2 : M = 2 + c0 := by omega
  have t0 : (nb : Int).tmod 30 = (c0 : Int) := by rw [Int.tmod_eq_emod_of_nonneg (Int.natCast_nonneg _)]; omega
  have wa : wrap64 (c0 : Int) = c0 := IntWalk.wrap64_in _ (by omega)
  have ha : 2 + (c0 : Int) = (M : Int) := by omega
  have hM31 : M ≤ 31 := by rw [hM]; exact Nat.add_le_add_left (Nat.le_of_lt_succ (Nat.mod_lt nb (by decide))) 2
  have hM1 : 2 ≤ M := by rw [hM]; exact Nat.le_add_right 2 _
  obtain ⟨m, hm⟩ : ∃ m, m = min n 80 := ⟨_, rfl⟩
  have HMM := Lib.hid hm
  have hmc : (m : Int) ≤ (c : Int) := by omega
  have hm80 : m ≤ 80 := by omega
  have hmn : m ≤ n := by omega
  have HNL := Lib.hid hn
  have HI := Lib.hid hI
  clear hm hc0 hM hM2 hn hI
  obtain ⟨u0, hu0, hu0M⟩ : ∃ u0, u0 = xa % M ∧ u0 < M := ⟨_, rfl, Nat.mod_lt _ (by omega)⟩
  obtain ⟨v0, hv0, hv0M⟩ : ∃ v0, v0 = xb % M ∧ v0 < M := ⟨_, rfl, Nat.mod_lt _ (by omega)⟩
  have HU0 : Hid ((xa : Int).tmod (M : Int) = (u0 : Int)) := Lib.hid (by rw [Int.tmod_eq_emod_of_nonneg (Int.natCast_nonneg _), hu0, Int.natCast_emod])
  have HV0 : Hid ((xb : Int).tmod (M : Int) = (v0 : Int)) := Lib.hid (by rw [Int.tmod_eq_emod_of_nonneg (Int.natCast_nonneg _), hv0, Int.natCast_emod])
  clear hu0 hv0
  have HNW := Lib.hid (newO_any (M : Int) w)
  go_enter Try.func3, Try.ntmps3
  go_wp2_with fail
  refine Calls.mono HNW.out ?_
  intro e w1 h1
  obtain ⟨o, rfl, h2⟩ := On.new_ (by omega) h1
  have HO1 := Lib.hid h2
  clear HNW h1 h2 t0 wa ha
  go_upto_region 5 with fail
  go_cut [46, 47, 48] (fun v29 v30 v31 wx => v29 = .slice A m c ∧ v30 = .int .i64 (m : Int) ∧ v31 = .int .i64 0 ∧ wx = w1)
  case first =>
    have hm := HMM.out
    go_wp2_with fail
    go_meet
    have e1 : (min (n : Int) 80).toNat = m := by omega
    have e2 : max (min (n : Int) 80) 0 = (m : Int) := by omega
    exact ⟨by rw [e1], by rw [e2], rfl, rfl⟩
  case rest =>
  obtain ⟨rfl, rfl, rfl, hwc⟩ := hcut
  have hwc := hwc.symm
  subst hwc
  go_wp2_with fail
  go_loopw [48] (fun ix wr => ∃ i : Nat, i ≤ m ∧ ix = .int .i64 i ∧ Hid (On w wr o M)) (fun ix _ => m - (intOf ix).toNat)
  case atStart => exact ⟨0, Nat.zero_le _, rfl, HO1⟩
  case round =>
    obtain ⟨i, hi, rfl, HS⟩ := hrel
    clear HO1
    by_cases hlt : i < m
    · have hil : i < l.length := by have := HNL.out; omega
      obtain ⟨b, off, rfl, hb, p1, p2⟩ := HI.out i hil
      obtain ⟨F1, L, P, A, hBo, hSt⟩ := HS.out
      have q1 := (hBo.low.cell (p := ⟨b, _, none⟩) hb).trans p1
      have q2 := (hBo.low.cell (p := ⟨b, _, none⟩) hb).trans p2
      have HBo := Lib.hid hBo
      have HSt := Lib.hid hSt
      generalize l[i] = x at *
      obtain ⟨xf, xt⟩ := x
      have i1 : (0 : Int) ≤ (i : Int) := by omega
      have i2 : (i : Int) < (m : Int) := by omega
      have HLT := Lib.hid hlt
      obtain ⟨u, hu1, hu⟩ := mod_nat xf M (by omega)
      obtain ⟨v, hv1, hv⟩ := mod_nat xt M (by omega)
      have HU := Lib.hid hu1
      have HV := Lib.hid hv1
      clear p1 p2 hb hBo hSt HS hu1 hv1
      have HA : Hid (Below wr.heap.size wr (wr.alloc (.cells #[.int .i64 xf, .int .i64 xt] 28))) := Lib.hid ((Below.refl _ wr).alloc (Nat.le_refl _) _)
      have HBX := Lib.hid (Blk.new_ wr 28 #[.int .i64 xf, .int .i64 xt] rfl)
      have HBo2 := Lib.hid (HBo.out.below (HA.out.drew))
      go_wp2_with fail
      clear q1 q2
      have hS : (wr.alloc (.cells #[.int .i64 xf, .int .i64 xt] 28)).drew.cell? ⟨wr.heap.size, 0, none⟩ = some (.int .i64 xf) ∧ (wr.alloc (.cells #[.int .i64 xf, .int .i64 xt] 28)).drew.cell? ⟨wr.heap.size, 1, none⟩ = some (.int .i64 xt) := ⟨HBX.out.at_ 0 rfl, HBX.out.at_ 1 rfl⟩
      refine wp_region_heldG [4, 8] (fun cc W => (cc 4 = true ∧ cc 8 = true) ∨ (W.cell? ⟨wr.heap.size, 0, none⟩ = some (.int .i64 xf) ∧ W.cell? ⟨wr.heap.size, 1, none⟩ = some (.int .i64 xt))) (by kernel_rfl) ?_
      change wpAnyG _ _ _ _ _ _ 10 _ _ (wr.alloc (.cells #[.int .i64 xf, .int .i64 xt] 28)).drew
      generalize (wr.alloc (.cells #[.int .i64 xf, .int .i64 xt] 28)).drew = wa at *
      refine g_take (i := 0) rfl rfl (by kernel_rfl) (by kernel_rfl) (by kernel_rfl) (by kernel_rfl) (by kernel_rfl) (fun _ _ _ h => h) (.inr hS) (fun L' W' hL hW => by go_simp; rfl) ?_
      refine g_take (i := 1) rfl rfl (by kernel_rfl) (by kernel_rfl) (by kernel_rfl) (by kernel_rfl) (by kernel_rfl) (fun _ _ _ h => h) (.inr hS) (fun L' W' hL hW => by go_simp; rfl) ?_
      refine g_take (i := 2) rfl rfl (by kernel_rfl) (by kernel_rfl) (by kernel_rfl) (by kernel_rfl) (by kernel_rfl) (fun _ _ _ h => h) (.inr hS) (fun L' W' hL hW => by obtain ⟨k0, k1⟩ := hW.resolve_left (by simp [came, hL 4 (by kernel_rfl)]); go_simp; rfl) ?_
      refine g_take (i := 3) rfl rfl (by kernel_rfl) (by kernel_rfl) (by kernel_rfl) (by kernel_rfl) (by kernel_rfl) (fun _ _ _ h => h) (.inr hS) (fun L' W' hL hW => by go_simp; rfl) ?_
      refine g_take (i := 5) rfl rfl (by kernel_rfl) (by kernel_rfl) (by kernel_rfl) (by kernel_rfl) (by kernel_rfl) (fun _ _ _ h => h) (.inr hS) (fun L' W' hL hW => by go_simp; rfl) ?_
      refine g_take (i := 6) rfl rfl (by kernel_rfl) (by kernel_rfl) (by kernel_rfl) (by kernel_rfl) (by kernel_rfl) (fun _ _ _ h => h) (.inr hS) (fun L' W' hL hW => by obtain ⟨k0, k1⟩ := hW.resolve_left (by simp [came, hL 8 (by kernel_rfl)]); go_simp; rfl) ?_
      refine g_take (i := 7) rfl rfl (by kernel_rfl) (by kernel_rfl) (by kernel_rfl) (by kernel_rfl) (by kernel_rfl) (fun _ _ _ h => h) (.inr hS) (fun L' W' hL hW => by go_simp; rfl) ?_
      refine g_one (i := 4) rfl rfl (by kernel_rfl) fun K' hK => ?_
      go_simp
      refine Calls.mono (among_any xf M (by omega) (by omega) wa) ?_
      rintro e w' ⟨rfl, rfl⟩
      rw [HU.out]
      refine hK _ _ (.inr hS) ?_
      clear hK K'
      refine g_one (i := 8) rfl rfl (by kernel_rfl) fun K' hK => ?_
      go_simp
      refine Calls.mono (among_any xt M (by omega) (by omega) wa) ?_
      rintro e w' ⟨rfl, rfl⟩
      rw [HV.out]
      refine hK _ _ (.inr hS) ?_
      clear hK K'
      refine g_one (i := 9) rfl rfl (by kernel_rfl) fun K' hK => ?_
      go_simp
      refine Calls.mono (putOS_any HBo2.out.ord HSt.out (by omega) u v hu hv) ?_
      rintro e w4 ⟨ch, kc, L', P', A', rfl, hP1, hU4⟩
      obtain ⟨F1', hB4, -, -⟩ := HBo2.out.upd hU4
      have HN : Hid (On w w4 o M) := Lib.hid ⟨_, _, _, _, hB4, hP1.st HSt.out hu hv⟩
      refine hK _ _ (.inl (by simp [came])) ?_
      clear hK K' hP1 hU4 hB4
      refine wpAnyG_done (by kernel_rfl) ?_ _
      clear hS HBX HA HBo HBo2
      go_simp
      go_wp2_with fail
      go_roundw
      case rel => exact ⟨i + 1, by have := HLT.out; omega, by go_num, HN⟩
      case measure => simp [intOf]; have := HLT.out; omega
    · obtain rfl : i = m := by omega
      obtain ⟨F1, L, P, A, hBo, hSt⟩ := HS.out
      have HBo := Lib.hid hBo
      have HSt := Lib.hid hSt
      have hm0 : ¬ M = 0 := by omega
      have w1a : IntKind.i64.wrap (xa : Int) = (xa : Int) := by rw [IntKind.wrap_i64]; omega
      have w1b : IntKind.i64.wrap (xb : Int) = (xb : Int) := by rw [IntKind.wrap_i64]; omega
      have w2a : IntKind.i64.wrap (u0 : Int) = (u0 : Int) := by rw [IntKind.wrap_i64]; omega
      have w2b : IntKind.i64.wrap (v0 : Int) = (v0 : Int) := by rw [IntKind.wrap_i64]; omega
      clear HS hBo hSt
      generalize hwr : wr = w2 at *
      clear hwr
      go_wp2_with fail
      refine wp_region_heldG [] (fun _ _ => True) (by kernel_rfl) ?_
      change wpAnyG _ _ _ _ _ _ 10 _ _ w2.drew
      have hu0' := HU0.out
      have hv0' := HV0.out
      refine g_take (i := 0) rfl rfl (by kernel_rfl) (by kernel_rfl) (by kernel_rfl) (by kernel_rfl) (by kernel_rfl) (fun _ _ _ h => h) trivial (fun L' W' hL hW => by go_simp; rfl) ?_
      refine g_take (i := 1) rfl rfl (by kernel_rfl) (by kernel_rfl) (by kernel_rfl) (by kernel_rfl) (by kernel_rfl) (fun _ _ _ h => h) trivial (fun L' W' hL hW => by go_simp; rfl) ?_
      refine g_take (i := 2) rfl rfl (by kernel_rfl) (by kernel_rfl) (by kernel_rfl) (by kernel_rfl) (by kernel_rfl) (fun _ _ _ h => h) trivial (fun L' W' hL hW => by go_simp; rfl) ?_
      refine g_take (i := 3) rfl rfl (by kernel_rfl) (by kernel_rfl) (by kernel_rfl) (by kernel_rfl) (by kernel_rfl) (fun _ _ _ h => h) trivial (fun L' W' hL hW => by go_simp; rfl) ?_
      refine g_take (i := 4) rfl rfl (by kernel_rfl) (by kernel_rfl) (by kernel_rfl) (by kernel_rfl) (by kernel_rfl) (fun _ _ _ h => h) trivial (fun L' W' hL hW => by go_simp; rfl) ?_
      refine g_take (i := 5) rfl rfl (by kernel_rfl) (by kernel_rfl) (by kernel_rfl) (by kernel_rfl) (by kernel_rfl) (fun _ _ _ h => h) trivial (fun L' W' hL hW => by go_simp; rfl) ?_
      refine g_take (i := 6) rfl rfl (by kernel_rfl) (by kernel_rfl) (by kernel_rfl) (by kernel_rfl) (by kernel_rfl) (fun _ _ _ h => h) trivial (fun L' W' hL hW => by go_simp; rfl) ?_
      refine g_take (i := 7) rfl rfl (by kernel_rfl) (by kernel_rfl) (by kernel_rfl) (by kernel_rfl) (by kernel_rfl) (fun _ _ _ h => h) trivial (fun L' W' hL hW => by go_simp; rfl) ?_
      refine g_take (i := 8) rfl rfl (by kernel_rfl) (by kernel_rfl) (by kernel_rfl) (by kernel_rfl) (by kernel_rfl) (fun _ _ _ h => h) trivial (fun L' W' hL hW => by go_simp; rfl) ?_
      refine g_take (i := 9) rfl rfl (by kernel_rfl) (by kernel_rfl) (by kernel_rfl) (by kernel_rfl) (by kernel_rfl) (fun _ _ _ h => h) trivial (fun L' W' hL hW => by go_simp; rfl) ?_
      refine wpAnyG_done (by kernel_rfl) ?_ _
      have HBo2 := Lib.hid (HBo.out.below ((Below.refl w2.heap.size w2).drew))
      have hd2 : w2.heap.size = w2.drew.heap.size := rfl
      clear w1a w1b w2a w2b hm0 HBo hu0' hv0'
      go_simp
      generalize w2.drew = w3 at *
      clear hd2
      go_wp2_with fail
      refine Calls.mono (copyO_any w3 w.heap.size o M F1 L P A HBo2.out.ord HSt.out.ok HSt.out.perm (by omega)) ?_
      rintro e w4 ⟨o2, rfl, hc1, hc2⟩
      have HW4 := Lib.hid hc1
      have HBo4 := Lib.hid (HBo2.out.below hc2)
      have HF1 : Hid (∀ k, F1 k → k < w3.heap.size) := Lib.hid (fun k e => (HBo2.out.f1 k e).2)
      have HS3 := Lib.hid HBo2.out.low.size
      clear hc1 hc2 HBo2
      have hpu := place_v HW4.out HSt.out.perm u0 hu0M
      have hpv := place_v HW4.out HSt.out.perm v0 hv0M
      generalize hpu0 : P.getD u0 0 = p at hpu
      generalize hpv0 : P.getD v0 0 = q at hpv
      have HPU := Lib.hid hpu0
      have HPV := Lib.hid hpv0
      clear hpu0 hpv0
      go_wp2_with fail
      refine Calls.mono hpu ?_
      rintro e w' ⟨rfl, rfl⟩
      clear hpu
      go_wp2_with fail
      refine Calls.mono hpv ?_
      rintro e w' ⟨rfl, rfl⟩
      clear hpv
      go_wp2_with fail
      refine Calls.mono (putOS_any HBo4.out.ord HSt.out (by omega) u0 v0 hu0M hv0M) ?_
      rintro e w5 ⟨ch, k, L', P', A', rfl, hP1, hU5⟩
      obtain ⟨F1', hB5, hFr5, -⟩ := HBo4.out.upd hU5
      have HB5 := Lib.hid hB5
      have HW5 := Lib.hid (HW4.out.fr hFr5 (fun j e e2 => by have := HF1.out j e2; omega))
      have HST := Lib.hid (hP1.still HSt.out hu0M hv0M)
      have HS5 := Lib.hid (hP1.st HSt.out hu0M hv0M)
      have hch := hP1.few
      clear hP1 hU5 hB5 hFr5 HW4 HBo4 HF1
      have HPP := Lib.hid HSt.out.perm
      clear HSt HS3
      go_wp2_with fail
      obtain ⟨i0, hi0, hz0, hz1, hz2⟩ := info_parts infoPair
      go_loopw [23, 93] (fun mv ix wr => ∃ i km : Nat, i ≤ M ∧ km ≤ i ∧ ix = .int .i64 i ∧ Hid (km = (mvs P P' i).length ∧ wr.ownsRow w5.heap.size 36 2 mv km (ev (mvs P P' i)) ∧ Below w5.heap.size w5 wr)) (fun _ ix _ => M - (intOf ix).toNat)
      case atStart => exact ⟨0, 0, Nat.zero_le _, Nat.le_refl _, rfl, Lib.hid ⟨rfl, World.ownsRow_nil _ _ _ _, Below.refl _ _⟩⟩
      case round =>
        obtain ⟨j, km, hj, hkm, rfl, HT⟩ := hrel
        by_cases hlt : j < M
        · have HPX := Lib.hid (place_v (HW5.out.below HT.out.2.2) HPP.out j hlt)
          have HPY := Lib.hid (place_v (HB5.out.ord.below HT.out.2.2) HS5.out.perm j hlt)
          have HMS := Lib.hid (mvs_succ P P' j)
          have HEA := Lib.hid (HST.out.each j hlt)
          have HTW := Lib.hid (fun x hx ex => HST.out.two (x := x) (y := j) hx hlt ex)
          have j2 : (j : Int) < (M : Int) := by omega
          rw [HPU.out, HPV.out] at HEA
          by_cases hxy : P.getD j 0 = P'.getD j 0
          · rw [if_neg (by simpa using hxy)] at HMS
            have hxy2 : ((P.getD j 0 : Nat) : Int) = ((P'.getD j 0 : Nat) : Int) := by rw [hxy]
            have hbe : (((P.getD j 0 : Nat) : Int) == ((P'.getD j 0 : Nat) : Int)) = true := by rw [beq_iff_eq, hxy2]
            have HN : Hid (km = (mvs P P' (j + 1)).length ∧ wr.ownsRow w5.heap.size 36 2 u23 km (ev (mvs P P' (j + 1))) ∧ Below w5.heap.size w5 wr) := Lib.hid (by rw [HMS.out]; exact HT.out)
            clear HT HMS HEA HTW hxy hxy2
            generalize P.getD j 0 = x at *
            generalize P'.getD j 0 = y at *
            go_wp2_with fail
            refine Calls.mono HPX.out ?_
            rintro e w' ⟨rfl, rfl⟩
            clear HPX
            go_wp2_with fail
            refine Calls.mono HPY.out ?_
            rintro e w' ⟨rfl, rfl⟩
            clear HPY
            go_wp2_with fail
            go_roundw
            case rel => exact ⟨j + 1, km, by omega, by omega, by go_num, HN⟩
            case measure => simp [intOf]; omega
          · have hea := HEA.out hxy
            obtain ⟨rfl, h1, h2, h3, h4, h5⟩ := hea
            rw [if_pos hxy] at HMS
            have hbe : (((P.getD j 0 : Nat) : Int) == ((P'.getD j 0 : Nat) : Int)) = false := by rw [beq_eq_false_iff_ne]; omega
            have g1 : ¬ (p : Int) < (q : Int) := by omega
            have g2 : ¬ ((P.getD j 0 : Nat) : Int) < (q : Int) := by omega
            have g3 : ¬ (p : Int) < ((P.getD j 0 : Nat) : Int) := by omega
            have g4 : ¬ ((P'.getD j 0 : Nat) : Int) < (q : Int) := by omega
            have g5 : ¬ (p : Int) < ((P'.getD j 0 : Nat) : Int) := by omega
            have HTT := Lib.hid HT.out
            obtain ⟨Am, cm, hvm⟩ := own_form HTT.out.2.1
            subst hvm
            have HPA := Lib.hid (pairs_at HTT.out.2.1)
            have HKM := Lib.hid HTT.out.1
            have HNE := Lib.hid hxy
            clear HT HEA hxy h1 h2 h3 h4 h5
            generalize hx0 : P.getD j 0 = x at *
            generalize hy0 : P'.getD j 0 = y at *
            go_wp2_with fail
            refine Calls.mono HPX.out ?_
            rintro e w' ⟨rfl, rfl⟩
            clear HPX
            go_wp2_with fail
            refine Calls.mono HPY.out ?_
            rintro e w' ⟨rfl, rfl⟩
            clear HPY
            go_wp2_with fail
            clear g1 g2 g3 g4 g5 hbe
            generalize hwx : wr = wx at *
            clear hwx
            go_loopw [140] (fun ix wr => ∃ t : Nat, t ≤ km ∧ ix = .int .i64 t ∧ Hid (t ≤ km ∧ Below wx.heap.size wx wr)) (fun ix _ => km - (intOf ix).toNat)
            case atStart => exact ⟨0, Nat.zero_le _, rfl, Lib.hid ⟨Nat.zero_le _, Below.refl _ _⟩⟩
            case round =>
              obtain ⟨t, ht, rfl, HB0⟩ := hrel
              have HB := Lib.hid HB0.out.2
              clear HB0
              by_cases hlt2 : t < km
              · have htl : t < (mvs P P' j).length := by have := HKM.out; omega
                obtain ⟨bm, om, rfl, hbm, m1, m2⟩ := HPA.out t htl
                obtain ⟨a, ha, hae, hane⟩ := mvs_at htl
                have n1 := (HB.out.cell (p := ⟨bm, _, none⟩) hbm).trans m1
                have n2 := (HB.out.cell (p := ⟨bm, _, none⟩) hbm).trans m2
                rw [hae] at n1 n2
                have htwo := HTW.out a (by omega) hane HNE.out
                generalize P.getD a 0 = ka at *
                generalize P'.getD a 0 = kb at *
                have HBA := Lib.hid ((Below.refl wr.heap.size wr).alloc (Nat.le_refl _) (.cells #[.int .i64 (ka : Nat), .int .i64 (kb : Nat)] 36))
                have HBX := Lib.hid (Blk.new_ wr 36 #[.int .i64 (ka : Nat), .int .i64 (kb : Nat)] rfl)
                have b0 := HBX.out.at_ 0 rfl
                have b1 := HBX.out.at_ 1 rfl
                have HN : Hid (t + 1 ≤ km ∧ Below wx.heap.size wx (wr.alloc (.cells #[.int .i64 (ka : Nat), .int .i64 (kb : Nat)] 36))) := Lib.hid ⟨hlt2, HB.out.trans (HBA.out.mono HB.out.size)⟩
                have j3 : (0 : Int) ≤ (t : Int) := by omega
                have j4 : (t : Int) < (km : Int) := by omega
                have HLT2 := Lib.hid hlt2
                clear hae m1 m2 hbm htl HB hane
                have HTWO := Lib.hid htwo
                clear htwo
                by_cases e1 : (ka : Int) < (kb : Int)
                · by_cases e2 : (x : Int) < (y : Int)
                  · by_cases e3 : (ka : Int) < (x : Int)
                    · have e4 : (kb : Int) < (y : Int) := by have := HTWO.out; omega
                      go_wp2_with fail
                      go_roundw
                      case rel => exact ⟨t + 1, by have := HLT2.out; omega, by go_num, HN⟩
                      case measure => simp [intOf]; have := HLT2.out; omega
                    · have e4 : ¬ (kb : Int) < (y : Int) := by have := HTWO.out; omega
                      go_wp2_with fail
                      go_roundw
                      case rel => exact ⟨t + 1, by have := HLT2.out; omega, by go_num, HN⟩
                      case measure => simp [intOf]; have := HLT2.out; omega
                  · go_wp2_with fail
                    go_roundw
                    case rel => exact ⟨t + 1, by have := HLT2.out; omega, by go_num, HN⟩
                    case measure => simp [intOf]; have := HLT2.out; omega
                · by_cases e2 : (x : Int) < (y : Int)
                  · go_wp2_with fail
                    go_roundw
                    case rel => exact ⟨t + 1, by have := HLT2.out; omega, by go_num, HN⟩
                    case measure => simp [intOf]; have := HLT2.out; omega
                  · by_cases e3 : (ka : Int) < (x : Int)
                    · have e4 : (kb : Int) < (y : Int) := by have := HTWO.out; omega
                      go_wp2_with fail
                      go_roundw
                      case rel => exact ⟨t + 1, by have := HLT2.out; omega, by go_num, HN⟩
                      case measure => simp [intOf]; have := HLT2.out; omega
                    · have e4 : ¬ (kb : Int) < (y : Int) := by have := HTWO.out; omega
                      go_wp2_with fail
                      go_roundw
                      case rel => exact ⟨t + 1, by have := HLT2.out; omega, by go_num, HN⟩
                      case measure => simp [intOf]; have := HLT2.out; omega
              · have j4 : ¬ (t : Int) < (km : Int) := by omega
                have hkM : km ≤ 40 := by omega
                have hnew := heap_alloc_new wr (.cells #[.int .i64 (x : Nat), .int .i64 (y : Nat)] 36)
                have HOR := Lib.hid (own_belowW HTT.out.2.1 HB.out)
                have HLW := Lib.hid (HTT.out.2.2.trans (HB.out.mono HTT.out.2.2.size))
                have hsz : w5.heap.size ≤ wr.heap.size := HLW.out.size
                clear HB
                go_wp2_with (at_builtin; refine wpList_append_lies _ rfl (.tmp 165) (.tmp 169) _ rfl w5.heap.size 36 i0 _ 2 16 Try.underlying35 hi0 hz0 hz1 hz2 rfl (by omega) _ km _ rfl (HOR.out.alloc _) ⟨wr.heap.size, 0, none⟩ 1 1 [.int .i64 (x : Nat), .int .i64 (y : Nat)] rfl rfl (World.news_of_block hnew) (by intro u hu; simp at hu; rcases hu with rfl | rfl <;> rfl) (by omega) (by unfold maxLen; omega) (by omega) (by simp; omega) (wr.heap.size + 1) (by simp) ?_)
                intro g2 cap w7 hown2 hgrow _ _
                have HN : Hid (km + 1 = (mvs P P' (j + 1)).length ∧ w7.ownsRow w5.heap.size 36 2 (.slice (some ⟨g2, 0, none⟩) (km + 1) cap) (km + 1) (ev (mvs P P' (j + 1))) ∧ Below w5.heap.size w5 w7) := Lib.hid (by
                  rw [HMS.out, List.length_append, ← HKM.out, Gr.ev_append]
                  exact ⟨rfl, hown2, (HLW.out.alloc hsz (.cells #[.int .i64 (x : Nat), .int .i64 (y : Nat)] 36)).grown hgrow (by simp; omega) (fun q hq => (own_row HOR.out hq).1)⟩)
                clear hown2 hgrow hnew HOR HLW HMS
                go_wp2_with fail
                refine ⟨?_, by simp [intOf]; omega⟩
                (repeat apply Exists.intro)
                refine ⟨?rel, ?eqs⟩
                case eqs => (repeat' apply And.intro) <;> rfl
                case rel => exact ⟨j + 1, km + 1, by omega, by omega, by go_num, HN⟩
        · have hje : j = M := by omega
          have HCE : Hid (km = ch) := Lib.hid (by
            have h1 := HT.out.1
            rw [hje, mvs_len] at h1
            rw [h1]; exact HST.out.cnt.symm)
          have HLW := Lib.hid ((HB5.out.low).trans (HT.out.2.2.mono HB5.out.low.size))
          have j2 : ¬ (j : Int) < (M : Int) := by omega
          have hcc : ((km : Int) == (ch : Int)) = true := by rw [beq_iff_eq, HCE.out]
          obtain ⟨Am, cm, hvm⟩ := own_form HT.out.2.1
          subst hvm
          have HZ := Lib.hid HST.out.zero
          rw [HPU.out, HPV.out] at HZ
          have hcode := HST.out.code
          clear HT HST hje HCE
          rcases hcode with rfl | rfl
          · by_cases hqp : q ≤ p
            · have g1 : (q : Int) ≤ (p : Int) := by omega
              clear hqp
              go_wp2_with fail
              refine Calls.mono (awakeO_any wr) ?_
              rintro e w9 ⟨rfl, b9⟩
              have HB9 := Lib.hid (HLW.out.trans (b9.mono HLW.out.size))
              clear HLW b9
              go_wp2_with fail
              go_ret
              exact ⟨rfl, HB9.out⟩
            · have g1 : ¬ (q : Int) ≤ (p : Int) := by omega
              have hz := HZ.out rfl hqp
              subst hz
              have hcc0 : ((km : Int) == 0) = true := by simpa using hcc
              clear hqp hcc
              go_wp2_with fail
              refine Calls.mono (awakeO_any wr) ?_
              rintro e w9 ⟨rfl, b9⟩
              have HB9 := Lib.hid (HLW.out.trans (b9.mono HLW.out.size))
              clear HLW b9
              go_wp2_with fail
              go_ret
              exact ⟨rfl, HB9.out⟩
          · clear HZ
            go_wp2_with fail
            refine Calls.mono (awakeO_any wr) ?_
            rintro e w9 ⟨rfl, b9⟩
            have HB9 := Lib.hid (HLW.out.trans (b9.mono HLW.out.size))
            clear HLW b9
            go_wp2_with fail
            go_ret
            exact ⟨rfl, HB9.out⟩
end Go.Proofs.Ytpikdjaedbogdaa.OrW
