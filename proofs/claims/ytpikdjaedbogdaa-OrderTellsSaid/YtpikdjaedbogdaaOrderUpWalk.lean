/-
  The walk of OrderUp.
-/
import Derived.Test.YtpikdjaedbogdaaOrderUp0
namespace Go.Proofs.Ytpikdjaedbogdaa.Ord
set_option linter.unusedVariables false
open Go.Proofs.Ytpikdjaedbogdaa.Gr (E Path Inside OK outs intos Cyc putL)
theorem OSt.acyc {n : Nat} {L : List (List Int)} {P A : List Nat} (h : OSt n L P A) : ¬ Cyc n L := fun ⟨u, v, hu, hv, he, hp⟩ => by
  have h1 := h.up u v he
  have h2 := h.up.path hp
  omega
end Go.Proofs.Ytpikdjaedbogdaa.Ord
namespace Go.Proofs.Ytpikdjaedbogdaa.OrW
set_option linter.unusedVariables false
open Go Go.RowKit Go.Proofs Go.Proofs.Ytpikdjaedbogdaa Go.Proofs.Ytpikdjaedbogdaa.Wd Go.Proofs.Ytpikdjaedbogdaa.GrW Go.Proofs.Ytpikdjaedbogdaa.Ord
open Go.Proofs.Ytpikdjaedbogdaa.Gr (OK putL outs intos Path edgesTo)

theorem ints_two {w : World} {base base' : Nat} {A A' : Option Addr} {n c n' c' : Nat} {l m : List Int} (h : w.ownsRow base 3 1 (.slice A n c) n (iv l)) (h' : w.ownsRow base' 3 1 (.slice A' n' c') n' (iv m)) :
    Calls Try.prog 25 #[.slice A n c, .slice A' n' c'] w fun e w' => e = .returned (.bool (decide (l = m))) ∧ Below w.heap.size w w' := by
  obtain ⟨h1, h2, h3, h4⟩ := Nums.of_own h
  obtain ⟨k1, k2, k3, k4⟩ := Nums.of_own h'
  exact ints_any A A' c c' l m n n' h2 k2 h3 h4 w h1 k1
theorem mod_nat (x : Int) (M : Nat) (hM : 0 < M) : ∃ u : Nat, x % (M : Int) = (u : Int) ∧ u < M := by
  have h1 := Int.emod_nonneg x (b := (M : Int)) (by omega)
  have h2 := Int.emod_lt_of_pos x (b := (M : Int)) (by omega)
  exact ⟨(x % (M : Int)).toNat, by omega, by omega⟩
theorem reach_v {w : World} {base g n : Nat} {F : Nat → Prop} {L : List (List Int)} (h : GAt w base F g n L) (ok : OK n L) (hn : n ≤ 30000) (u v : Nat) (hu : u < n) (hv : v < n) (b : Bool) (hb : b = true ↔ Path L u v) : Calls Try.prog 32 #[.pointer (some ⟨g, 0, none⟩), .int .i64 (u : Nat), .int .i64 (v : Nat)] w fun e w' => e = .returned (.bool b) ∧ Below w.heap.size w w' :=
  reach_c h ok hn u v b (by
    rw [hb]
    unfold reached
    rw [Int.toNat_natCast, Int.toNat_natCast]
    have e1 : isV n (u : Int) = true := by unfold isV; simp; omega
    have e2 : isV n (v : Int) = true := by unfold isV; simp; omega
    exact ⟨fun h => ⟨e1, e2, h⟩, fun h => h.2.2⟩)
theorem sort_ok {w : World} {base g n : Nat} {F : Nat → Prop} {L : List (List Int)} (h : GAt w base F g n L) (ok : OK n L) (hn : n ≤ 30000) (hc : ¬ Gr.Cyc n L) : Calls Try.prog 17 #[.pointer (some ⟨g, 0, none⟩)] w fun e w' => ∃ A c, e = .returned (.tuple #[.slice A n c, .bool true]) ∧ Below w.heap.size w w' := by
  refine (GrW.sort_any w base g n F L h (ok.rises hn) ok.inside ok.cons hn).mono ?_
  rintro e w' ⟨out, h1, h2, h3, h4⟩
  have hl := (Gr.sorted_iff ok h1 h2).2 hc
  rcases h4 with ⟨-, v', rfl, h5⟩ | ⟨h4, -⟩
  · obtain ⟨A, c, rfl⟩ := own_form h5
    rw [hl]
    exact ⟨A, c, rfl, h3⟩
  · omega
theorem own_fr {w w' : World} {F : Nat → Prop} {base B n : Nat} {v : Value} {e : TypeId} {sz : Nat} {l : List Value} (h : w.ownsRow base e sz v n l) (hf : Fr F w w') (hF : ∀ k, F k → k < B) (hb : B ≤ base) : w'.ownsRow base e sz v n l :=
  own_keep h fun g hg => by
    obtain ⟨h1, cs, hc⟩ := own_row h hg
    exact hf.block g hc.lt fun e => by have := hF g e; omega
theorem GAt.more {w : World} {base base' g n : Nat} {F : Nat → Prop} {L : List (List Int)} (h : GAt w base F g n L) (hb : base' ≤ base) : GAt w base' F g n L := by
  obtain ⟨r, c, cur, q1, q2, q3, q4⟩ := h
  refine ⟨r, c, cur, q1, Nat.le_trans hb q2, ⟨q3.blk, Nat.le_trans hb q3.far, q3.fits, fun i hi => ?_, q3.apart⟩, q4⟩
  obtain ⟨v, e1, e2⟩ := q3.row i hi
  exact ⟨v, e1, e2.more hb⟩
theorem BothF.start {w w1 w2 : World} {o g M : Nat} {L G : List (List Int)} {P A : List Nat} (hO : OAt w1 w.heap.size (fun k => w.heap.size ≤ k ∧ k < w1.heap.size) o M L P A) (hB : Below w.heap.size w w1) (hG : GAt w2 w1.heap.size (fun k => w1.heap.size ≤ k) g M G) (hB2 : Below w1.heap.size w1 w2) :
    BothF w w2 (fun k => w.heap.size ≤ k ∧ k < w1.heap.size) (fun k => w1.heap.size ≤ k ∧ k < w2.heap.size) o g M L P A G where
  ord := hO.below hB2
  gr := GAt.more hG.exist hB.size
  f1 := fun k e => ⟨e.1, Nat.lt_of_lt_of_le e.2 hB2.size⟩
  f2 := fun k e => ⟨Nat.le_trans hB.size e.1, e.2⟩
  apart := fun k e1 e2 => by have := e1.2; have := e2.1; omega
  low := hB.trans (hB2.mono hB.size)
set_option maxRecDepth 100000 in
set_option maxHeartbeats 16000000 in
theorem up_walk (nb : Nat) (hnb : nb < 256) (A : Option Addr) (c : Nat) (l : List (Int × Int)) (n : Nat) (hn : n = l.length) (hnc : n ≤ c) (hcm : c ≤ maxLen) (w : World) (hI : EdgesAt w w.heap.size A l) :
    Calls Try.prog 8 #[.int .u8 nb, .slice A n c] w fun e w' => e = .returned (.bool true) ∧ Below w.heap.size w w' := by
  unfold maxLen at hcm
  obtain ⟨c0, hc0⟩ : ∃ c0, c0 = nb % 30 := ⟨_, rfl⟩
  obtain ⟨M, hM⟩ : ∃ M, M = 2 + nb % 30 := ⟨_, rfl⟩
  have hM2 : M = 2 + c0 := by omega
  have t0 : (nb : Int).tmod 30 = (c0 : Int) := by rw [Int.tmod_eq_emod_of_nonneg (Int.natCast_nonneg _)]; omega
  have wa : wrap64 (c0 : Int) = c0 := IntWalk.wrap64_in _ (by omega)
  have ha : 2 + (c0 : Int) = (M : Int) := by omega
  have hM31 : M ≤ 31 := by omega
  have hM1 : 2 ≤ M := by omega
  obtain ⟨m, hm⟩ : ∃ m, m = min n 80 := ⟨_, rfl⟩
  have HMM := Lib.hid hm
  have hmc : (m : Int) ≤ (c : Int) := by omega
  have hm80 : m ≤ 80 := by omega
  have hmn : m ≤ n := by omega
  have HNL := Lib.hid hn
  have HNW := Lib.hid (newO_any (M : Int) w)
  have HI := Lib.hid hI
  clear hm hc0 hM hM2 hn hI
  go_enter Try.func8, Try.ntmps8
  go_wp2_with fail
  refine Calls.mono HNW.out ?_
  intro e w1 h1
  unfold ONewOut at h1
  rw [if_pos (by omega), Int.toNat_natCast] at h1
  obtain ⟨o, rfl, O1, B1⟩ := h1
  have HO1 := Lib.hid O1.exist
  have HB1 := Lib.hid B1
  clear HNW O1 B1
  go_wp2_with fail
  refine Calls.mono (GrW.new_any (M : Int) w1) ?_
  intro e w2 h1
  unfold NewOut at h1
  rw [if_pos (by omega), Int.toNat_natCast] at h1
  obtain ⟨g, rfl, G2, B2⟩ := h1
  have HA0 : Hid (∃ F1 F2 L P A, BothF w w2 F1 F2 o g M L P A L ∧ OSt M L P A) := Lib.hid ⟨_, _, _, _, _, BothF.start HO1.out HB1.out G2 B2, OSt.start M⟩
  clear HO1 HB1 G2 B2 t0 wa ha
  go_upto_region 6 with fail
  go_cut [43, 44, 45] (fun v29 v30 v31 wx => v29 = .slice A m c ∧ v30 = .int .i64 (m : Int) ∧ v31 = .int .i64 0 ∧ wx = w2)
  case first =>
    have hm := HMM.out
    go_wp2_with fail
    go_meet
    have e1 : (min (n : Int) 80).toNat = m := by omega
    have e2 : max (min (n : Int) 80) 0 = (m : Int) := by omega
    exact ⟨by rw [e1], by rw [e2], rfl, rfl⟩
  case rest =>
  obtain ⟨rfl, rfl, rfl, hwc⟩ := hcut
  have hwc := hwc.symm
  subst hwc
  go_wp2_with fail
  go_loopw [45] (fun ix wr => ∃ i : Nat, i ≤ m ∧ ix = .int .i64 i ∧ Hid (∃ F1 F2 L P A, BothF w wr F1 F2 o g M L P A L ∧ OSt M L P A)) (fun ix _ => m - (intOf ix).toNat)
  case atStart => exact ⟨0, Nat.zero_le _, rfl, HA0⟩
  case round =>
    obtain ⟨i, hi, rfl, HS⟩ := hrel
    clear HA0
    by_cases hlt : i < m
    · have hil : i < l.length := by have := HNL.out; omega
      obtain ⟨b, off, rfl, hb, p1, p2⟩ := HI.out i hil
      obtain ⟨F1, F2, L, P, A, hBo, hSt⟩ := HS.out
      have q1 := (hBo.low.cell (p := ⟨b, _, none⟩) hb).trans p1
      have q2 := (hBo.low.cell (p := ⟨b, _, none⟩) hb).trans p2
      have HBo := Lib.hid hBo
      have HSt := Lib.hid hSt
      generalize l[i] = x at *
      obtain ⟨xf, xt⟩ := x
      have i1 : (0 : Int) ≤ (i : Int) := by omega
      have i2 : (i : Int) < (m : Int) := by omega
      have HLT := Lib.hid hlt
      obtain ⟨u, hu1, hu⟩ := mod_nat xf M (by omega)
      obtain ⟨v, hv1, hv⟩ := mod_nat xt M (by omega)
      have HU := Lib.hid hu1
      have HV := Lib.hid hv1
      have HA : Hid (Below wr.heap.size wr (wr.alloc (.cells #[.int .i64 xf, .int .i64 xt] 28))) := Lib.hid ((Below.refl _ wr).alloc (Nat.le_refl _) _)
      have HBX := Lib.hid (Blk.new_ wr 28 #[.int .i64 xf, .int .i64 xt] rfl)
      have HBo2 := Lib.hid (HBo.out.below (HA.out.drew))
      clear p1 p2 hb hBo hSt HBo HS hu1 hv1
      go_wp2_with fail
      clear q1 q2
      have hS : (wr.alloc (.cells #[.int .i64 xf, .int .i64 xt] 28)).drew.cell? ⟨wr.heap.size, 0, none⟩ = some (.int .i64 xf) ∧ (wr.alloc (.cells #[.int .i64 xf, .int .i64 xt] 28)).drew.cell? ⟨wr.heap.size, 1, none⟩ = some (.int .i64 xt) := ⟨HBX.out.at_ 0 rfl, HBX.out.at_ 1 rfl⟩
      refine wp_region_heldG [] (fun _ W => W.cell? ⟨wr.heap.size, 0, none⟩ = some (.int .i64 xf) ∧ W.cell? ⟨wr.heap.size, 1, none⟩ = some (.int .i64 xt)) (by kernel_rfl) ?_
      change wpAnyG _ _ _ _ _ _ 10 _ _ (wr.alloc (.cells #[.int .i64 xf, .int .i64 xt] 28)).drew
      generalize (wr.alloc (.cells #[.int .i64 xf, .int .i64 xt] 28)).drew = wa at *
      refine g_take (i := 0) rfl rfl (by kernel_rfl) (by kernel_rfl) (by kernel_rfl) (by kernel_rfl) (by kernel_rfl) (fun _ _ _ h => h) hS (fun L' W' hL hW => by go_simp; rfl) ?_
      refine g_take (i := 1) rfl rfl (by kernel_rfl) (by kernel_rfl) (by kernel_rfl) (by kernel_rfl) (by kernel_rfl) (fun _ _ _ h => h) hS (fun L' W' hL hW => by obtain ⟨k0, k1⟩ := hW; go_simp; rfl) ?_
      refine g_take (i := 2) rfl rfl (by kernel_rfl) (by kernel_rfl) (by kernel_rfl) (by kernel_rfl) (by kernel_rfl) (fun _ _ _ h => h) hS (fun L' W' hL hW => by go_simp; rfl) ?_
      refine g_take (i := 4) rfl rfl (by kernel_rfl) (by kernel_rfl) (by kernel_rfl) (by kernel_rfl) (by kernel_rfl) (fun _ _ _ h => h) hS (fun L' W' hL hW => by go_simp; rfl) ?_
      refine g_take (i := 5) rfl rfl (by kernel_rfl) (by kernel_rfl) (by kernel_rfl) (by kernel_rfl) (by kernel_rfl) (fun _ _ _ h => h) hS (fun L' W' hL hW => by obtain ⟨k0, k1⟩ := hW; go_simp; rfl) ?_
      refine g_take (i := 6) rfl rfl (by kernel_rfl) (by kernel_rfl) (by kernel_rfl) (by kernel_rfl) (by kernel_rfl) (fun _ _ _ h => h) hS (fun L' W' hL hW => by go_simp; rfl) ?_
      refine g_one (i := 3) rfl rfl (by kernel_rfl) fun K' hK => ?_
      go_simp
      refine Calls.mono (among_any xf M (by omega) (by omega) wa) ?_
      rintro e w' ⟨rfl, rfl⟩
      rw [HU.out]
      refine hK _ _ hS ?_
      clear hK K'
      refine g_one (i := 7) rfl rfl (by kernel_rfl) fun K' hK => ?_
      go_simp
      refine Calls.mono (among_any xt M (by omega) (by omega) wa) ?_
      rintro e w' ⟨rfl, rfl⟩
      rw [HV.out]
      refine hK _ _ hS ?_
      clear hK K'
      refine g_take (i := 8) rfl rfl (by kernel_rfl) (by kernel_rfl) (by kernel_rfl) (by kernel_rfl) (by kernel_rfl) (fun _ _ _ h => h) hS (fun L' W' hL hW => by go_simp; rfl) ?_
      refine g_take (i := 9) rfl rfl (by kernel_rfl) (by kernel_rfl) (by kernel_rfl) (by kernel_rfl) (by kernel_rfl) (fun _ _ _ h => h) hS (fun L' W' hL hW => by go_simp; rfl) ?_
      refine wpAnyG_done (by kernel_rfl) ?_ _
      clear hS HBX HA
      go_simp
      go_wp2_with fail
      have hlen := (HSt.out.perm.la)
      refine Calls.mono (list_o HBo2.out.ord HSt.out.perm (by omega)) ?_
      rintro e w3 ⟨v3, rfl, o3, b3⟩
      rw [zs_length, hlen] at o3
      obtain ⟨A3, c3, rfl⟩ := own_form o3
      have HO3 := Lib.hid o3
      have HBo3 := Lib.hid (HBo2.out.below b3)
      have HF3 : Hid (∀ k, F1 k → k < wa.heap.size) := Lib.hid (fun k e => (HBo2.out.f1 k e).2)
      have HG3 : Hid (∀ k, F2 k → k < wa.heap.size) := Lib.hid (fun k e => (HBo2.out.f2 k e).2)
      clear o3 b3 HBo2 hlen
      go_wp2_with fail
      refine Calls.mono (putOS_any HBo3.out.ord HSt.out (by omega) u v hu hv) ?_
      rintro e w4 ⟨ch, k, L', P', A', rfl, hP1, hU4⟩
      obtain ⟨F1', hB4, hFr4⟩ := HBo3.out.updO hU4
      have HB4 := Lib.hid hB4
      have HO4 := Lib.hid (own_fr HO3.out hFr4 HF3.out (Nat.le_refl _))
      have HS4 := Lib.hid (hP1.st HSt.out hu hv)
      have HP1 := Lib.hid hP1
      have hch := hP1.few
      clear hU4 hFr4 hB4 HBo3 HO3 hP1
      rcases HP1.out with ⟨rfl, rfl, hpath, rfl, rfl, rfl⟩ | ⟨rfl, hmv, hnp, hne, hL', hst⟩
      · have HPA := Lib.hid hpath
        clear hpath HP1 HSt hch
        go_wp2_with fail
        refine Calls.mono (reach_v HB4.out.gr HS4.out.ok (by omega) v u hv hu true ⟨fun _ => HPA.out, fun _ => rfl⟩) ?_
        rintro e w5 ⟨rfl, b5⟩
        have HB5 := Lib.hid (HB4.out.below b5)
        have HO5 := Lib.hid (own_belowW HO4.out b5)
        clear HB4 HO4 b5
        go_wp2_with fail
        refine Calls.mono (list_o HB5.out.ord HS4.out.perm (by omega)) ?_
        rintro e w6 ⟨v6, rfl, o6, b6⟩
        rw [zs_length, HS4.out.perm.la] at o6
        obtain ⟨A6, c6, rfl⟩ := own_form o6
        have HB6 := Lib.hid (HB5.out.below b6)
        have HO6 := Lib.hid (own_belowW HO5.out b6)
        have HO6' := Lib.hid o6
        clear HB5 HO5 o6 b6
        go_wp2_with fail
        refine Calls.mono (ints_two HO6'.out HO6.out) ?_
        rintro e w7 ⟨rfl, b7⟩
        rw [decide_eq_true rfl]
        have HB7 := Lib.hid (HB6.out.below b7)
        clear HB6 HO6 HO6' b7
        go_wp2_with fail
        refine Calls.mono (up_any HB7.out.ord HS4.out (by omega)) ?_
        rintro e w8 ⟨rfl, b8⟩
        have HB8 := Lib.hid (HB7.out.below b8)
        clear HB7 b8
        go_wp2_with fail
        refine Calls.mono (edges_o HB8.out.ord HS4.out.ok (by omega)) ?_
        rintro e w9 ⟨A9, c9, rfl, b9, o9⟩
        have HB9 := Lib.hid (HB8.out.below b9)
        have HO9 := Lib.hid o9
        clear HB8 b9 o9
        generalize hme : (edgesTo _ M).length = me at *
        have HME := Lib.hid hme
        clear hme
        go_wp2_with fail
        refine Calls.mono (edges_any w9 _ g M _ _ HB9.out.gr (HS4.out.ok.rises (by omega)) (by omega)) ?_
        rintro e w10 ⟨A10, c10, rfl, b10, o10⟩
        have HB10 := Lib.hid (HB9.out.below b10)
        have HO10 := Lib.hid o10
        have HO9' := Lib.hid (own_belowW HO9.out b10)
        clear HB9 HO9 b10 o10
        rw [HME.out] at HO10 ⊢
        go_wp2_with fail
        refine Calls.mono (same_own HO9'.out HO10.out) ?_
        rintro e w11 ⟨rfl, b11⟩
        rw [decide_eq_true rfl]
        have HN : Hid (∃ F1 F2 L P A, BothF w w11 F1 F2 o g M L P A L ∧ OSt M L P A) := Lib.hid ⟨_, _, _, _, _, HB10.out.below b11, HS4.out⟩
        clear HB10 HO9' HO10 b11 HS4
        go_wp2_with fail
        go_roundw
        case rel => exact ⟨i + 1, by have := HLT.out; omega, by go_num, HN⟩
        case measure => simp [intOf]; have := HLT.out; omega
      · have HPA := Lib.hid hnp
        have HNE := Lib.hid hne
        clear hmv hnp hst HP1
        subst hL'
        go_wp2_with fail
        refine Calls.mono (reach_v HB4.out.gr HSt.out.ok (by omega) v u hv hu false ⟨fun e => (Bool.noConfusion e), fun e => absurd e HPA.out⟩) ?_
        rintro e w5 ⟨rfl, b5⟩
        have HB5 := Lib.hid (HB4.out.below b5)
        clear HB4 HO4 b5
        go_wp2_with fail
        refine Calls.mono (putG_any HB5.out.gr HSt.out.ok (by omega) HB5.out.low.size u v hu hv HNE.out) ?_
        rintro e w7 ⟨bp, rfl, hU7⟩
        obtain ⟨F2', hB7, -⟩ := HB5.out.updG hU7
        have HB7 := Lib.hid hB7
        clear HB5 hU7 hB7
        go_wp2_with fail
        refine Calls.mono (up_any HB7.out.ord HS4.out (by omega)) ?_
        rintro e w8 ⟨rfl, b8⟩
        have HB8 := Lib.hid (HB7.out.below b8)
        clear HB7 b8
        go_wp2_with fail
        refine Calls.mono (edges_o HB8.out.ord HS4.out.ok (by omega)) ?_
        rintro e w9 ⟨A9, c9, rfl, b9, o9⟩
        have HB9 := Lib.hid (HB8.out.below b9)
        have HO9 := Lib.hid o9
        clear HB8 b9 o9
        generalize hme : (edgesTo _ M).length = me at *
        have HME := Lib.hid hme
        clear hme
        go_wp2_with fail
        refine Calls.mono (edges_any w9 _ g M _ _ HB9.out.gr (HS4.out.ok.rises (by omega)) (by omega)) ?_
        rintro e w10 ⟨A10, c10, rfl, b10, o10⟩
        have HB10 := Lib.hid (HB9.out.below b10)
        have HO10 := Lib.hid o10
        have HO9' := Lib.hid (own_belowW HO9.out b10)
        clear HB9 HO9 b10 o10
        rw [HME.out] at HO10 ⊢
        go_wp2_with fail
        refine Calls.mono (same_own HO9'.out HO10.out) ?_
        rintro e w11 ⟨rfl, b11⟩
        rw [decide_eq_true rfl]
        have HN : Hid (∃ F1 F2 L P A, BothF w w11 F1 F2 o g M L P A L ∧ OSt M L P A) := Lib.hid ⟨_, _, _, _, _, HB10.out.below b11, HS4.out⟩
        clear HB10 HO9' HO10 b11 HS4
        go_wp2_with fail
        go_roundw
        case rel => exact ⟨i + 1, by have := HLT.out; omega, by go_num, HN⟩
        case measure => simp [intOf]; have := HLT.out; omega
    · obtain rfl : i = m := by omega
      obtain ⟨F1, F2, L, P, A, hBo, hSt⟩ := HS.out
      have HLW := Lib.hid hBo.low
      have HSO := Lib.hid (sort_ok hBo.gr hSt.ok (by omega) hSt.acyc)
      clear HS hBo hSt
      go_wp2_with fail
      refine Calls.mono HSO.out ?_
      rintro e w3 ⟨A3, c3, rfl, b3⟩
      have HB3 := Lib.hid (HLW.out.trans (b3.mono HLW.out.size))
      clear HSO HLW b3
      go_wp2_with fail
      refine Calls.mono (awakeO_any w3) ?_
      rintro e w4 ⟨rfl, b4⟩
      have HB4 := Lib.hid (HB3.out.trans (b4.mono HB3.out.size))
      clear HB3 b4
      go_wp2_with fail
      go_ret
      exact ⟨rfl, HB4.out⟩
end Go.Proofs.Ytpikdjaedbogdaa.OrW
