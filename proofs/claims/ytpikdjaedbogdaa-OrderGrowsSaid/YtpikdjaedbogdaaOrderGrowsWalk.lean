/-
  The walk of OrderGrows.
-/
import Derived.Test.YtpikdjaedbogdaaOrderSetsWalk
import Derived.Test.YtpikdjaedbogdaaOrdG3
namespace Go.Proofs.Ytpikdjaedbogdaa.OrW
set_option linter.unusedVariables false
open Go Go.RowKit Go.Proofs Go.Proofs.Ytpikdjaedbogdaa Go.Proofs.Ytpikdjaedbogdaa.Wd Go.Proofs.Ytpikdjaedbogdaa.GrW Go.Proofs.Ytpikdjaedbogdaa.Ord
open Go.Proofs.Ytpikdjaedbogdaa.Gr (OK putL outs intos Path edgesTo ev)

end Go.Proofs.Ytpikdjaedbogdaa.OrW
namespace Go.Proofs.Ytpikdjaedbogdaa.Ord
open Go.Proofs.Ytpikdjaedbogdaa.Gr (OK)
open Go.Proofs.Ytpikdjaedbogdaa.GrW (growL)
theorem OSt.gro {n : Nat} {L : List (List Int)} {P A : List Nat} (h : OSt n L P A) (m : Nat) : OSt (n + m) (growL L m) (gro P n m) (gro A n m) := ⟨h.ok.grow m, h.perm.gro m, h.up.gro h.ok h.perm m⟩
end Go.Proofs.Ytpikdjaedbogdaa.Ord
namespace Go.Proofs.Ytpikdjaedbogdaa.OrW
set_option linter.unusedVariables false
open Go Go.RowKit Go.Proofs Go.Proofs.Ytpikdjaedbogdaa Go.Proofs.Ytpikdjaedbogdaa.Wd Go.Proofs.Ytpikdjaedbogdaa.GrW Go.Proofs.Ytpikdjaedbogdaa.Ord
open Go.Proofs.Ytpikdjaedbogdaa.Gr (OK putL outs intos Path edgesTo ev)
theorem take_sub {l : List (Int × Int)} {n m : Nat} (hn : n = l.length) (hm : m ≤ n) {i : Nat} (hi : i < m) : i < l.length := by omega
theorem mod21 (x : Nat) : (x : Int).tmod 21 = ((x % 21 : Nat) : Int) := by rw [Int.tmod_eq_emod_of_nonneg (Int.natCast_nonneg _)]; omega
set_option maxRecDepth 100000 in
set_option maxHeartbeats 16000000 in
theorem grows_walk (nb : Nat) (hnb : nb < 256) (A : Option Addr) (c : Nat) (l : List (Int × Int)) (n : Nat) (hn : n = l.length) (hnc : n ≤ c) (hcm : c ≤ maxLen) (mb : Nat) (hmb : mb < 256) (B : Option Addr) (d : Nat) (l2 : List (Int × Int)) (n2 : Nat) (hn2 : n2 = l2.length) (hnd : n2 ≤ d) (hdm : d ≤ maxLen) (w : World) (hI : EdgesAt w w.heap.size A l) (hJ : EdgesAt w w.heap.size B l2) :
    Calls Try.prog 6 #[.int .u8 nb, .slice A n c, .int .u8 mb, .slice B n2 d] w fun e w' => e = .returned (.bool true) ∧ Below w.heap.size w w' := by
  unfold maxLen at hdm
  unfold maxLen at hcm
  obtain ⟨c0, hc0⟩ : ∃ c0, c0 = nb % 30 := ⟨_, rfl⟩
  obtain ⟨M, hM⟩ : ∃ M, M = 2 + nb % 30 := ⟨_, rfl⟩
  have hM2 : M = 2 + c0 := by omega
  have t0 : (nb : Int).tmod 30 = (c0 : Int) := by rw [Int.tmod_eq_emod_of_nonneg (Int.natCast_nonneg _)]; omega
  have wa : wrap64 (c0 : Int) = c0 := IntWalk.wrap64_in _ (by omega)
  have ha : 2 + (c0 : Int) = (M : Int) := by omega
  have hM31 : M ≤ 31 := by rw [hM]; exact Nat.add_le_add_left (Nat.le_of_lt_succ (Nat.mod_lt nb (by decide))) 2
  have hM1 : 2 ≤ M := by rw [hM]; exact Nat.le_add_right 2 _
  obtain ⟨m, hm⟩ : ∃ m, m = min n 60 := ⟨_, rfl⟩
  have HMM := Lib.hid hm
  have hmc : (m : Int) ≤ (c : Int) := by omega
  have hm80 : m ≤ 60 := by omega
  have hmn : m ≤ n := by omega
  have HNL := Lib.hid hn
  have HI := Lib.hid hI
  clear hm hc0 hM hM2 hn hI
  obtain ⟨m2, hm2⟩ : ∃ m2, m2 = min n2 60 := ⟨_, rfl⟩
  have HMM2 := Lib.hid hm2
  have hmc2 : (m2 : Int) ≤ (d : Int) := by omega
  have hm280 : m2 ≤ 60 := by omega
  have hmn2 : m2 ≤ n2 := by omega
  have HNL2 := Lib.hid hn2
  have HJ := Lib.hid hJ
  clear hm2 hn2 hJ
  obtain ⟨k, hk⟩ : ∃ k, k = mb % 21 := ⟨_, rfl⟩
  have HK0 : Hid ((mb : Int).tmod 21 = (k : Int)) := Lib.hid (by rw [hk]; exact mod21 mb)
  have hk20 : k ≤ 20 := by rw [hk]; exact Nat.le_of_lt_succ (Nat.mod_lt mb (by decide))
  have HKW : Hid (wrap64 (k : Int) = (k : Int)) := Lib.hid (wrap_u8 (by omega))
  obtain ⟨Mk, hMk⟩ : ∃ Mk, Mk = M + k := ⟨_, rfl⟩
  have HMK := Lib.hid hMk
  have HAK : Hid ((M : Int) + (k : Int) = (Mk : Int)) := Lib.hid (by omega)
  have hMk60 : Mk ≤ 60 := by omega
  have hMk1 : 2 ≤ Mk := by omega
  clear hk hMk hmb
  have HNW := Lib.hid (newO_any (M : Int) w)
  go_enter Try.func6, Try.ntmps6
  go_wp2_with fail
  refine Calls.mono HNW.out ?_
  intro e w1 h1
  obtain ⟨o, rfl, h2⟩ := On.new_ (by omega) h1
  have HO1 := Lib.hid h2
  clear HNW h1 h2 t0 wa ha
  go_upto_region 5 with fail
  go_cut [37, 38, 39] (fun v29 v30 v31 wx => v29 = .slice A m c ∧ v30 = .int .i64 (m : Int) ∧ v31 = .int .i64 0 ∧ wx = w1)
  case first =>
    have hm := HMM.out
    go_wp2_with fail
    go_meet
    have e1 : (min (n : Int) 60).toNat = m := by omega
    have e2 : max (min (n : Int) 60) 0 = (m : Int) := by omega
    exact ⟨by rw [e1], by rw [e2], rfl, rfl⟩
  case rest =>
  obtain ⟨rfl, rfl, rfl, hwc⟩ := hcut
  have hwc := hwc.symm
  subst hwc
  go_wp2_with fail
  go_loopw [39] (fun ix wr => ∃ i : Nat, i ≤ m ∧ ix = .int .i64 i ∧ Hid (On w wr o M)) (fun ix _ => m - (intOf ix).toNat)
  case atStart => exact ⟨0, Nat.zero_le _, rfl, HO1⟩
  case round =>
    obtain ⟨i, hi, rfl, HS⟩ := hrel
    clear HO1
    by_cases hlt : i < m
    · have hil : i < l.length := by have := HNL.out; omega
      obtain ⟨b, off, rfl, hb, p1, p2⟩ := HI.out i hil
      obtain ⟨F1, L, P, A, hBo, hSt⟩ := HS.out
      have q1 := (hBo.low.cell (p := ⟨b, _, none⟩) hb).trans p1
      have q2 := (hBo.low.cell (p := ⟨b, _, none⟩) hb).trans p2
      have HBo := Lib.hid hBo
      have HSt := Lib.hid hSt
      generalize l[i] = x at *
      obtain ⟨xf, xt⟩ := x
      have i1 : (0 : Int) ≤ (i : Int) := by omega
      have i2 : (i : Int) < (m : Int) := by omega
      have HLT := Lib.hid hlt
      obtain ⟨u, hu1, hu⟩ := mod_nat xf M (by omega)
      obtain ⟨v, hv1, hv⟩ := mod_nat xt M (by omega)
      have HU := Lib.hid hu1
      have HV := Lib.hid hv1
      clear p1 p2 hb hBo hSt HS hu1 hv1
      have HA : Hid (Below wr.heap.size wr (wr.alloc (.cells #[.int .i64 xf, .int .i64 xt] 28))) := Lib.hid ((Below.refl _ wr).alloc (Nat.le_refl _) _)
      have HBX := Lib.hid (Blk.new_ wr 28 #[.int .i64 xf, .int .i64 xt] rfl)
      have HBo2 := Lib.hid (HBo.out.below (HA.out.drew))
      go_wp2_with fail
      clear q1 q2
      have hS : (wr.alloc (.cells #[.int .i64 xf, .int .i64 xt] 28)).drew.cell? ⟨wr.heap.size, 0, none⟩ = some (.int .i64 xf) ∧ (wr.alloc (.cells #[.int .i64 xf, .int .i64 xt] 28)).drew.cell? ⟨wr.heap.size, 1, none⟩ = some (.int .i64 xt) := ⟨HBX.out.at_ 0 rfl, HBX.out.at_ 1 rfl⟩
      refine wp_region_heldG [4, 8] (fun cc W => (cc 4 = true ∧ cc 8 = true) ∨ (W.cell? ⟨wr.heap.size, 0, none⟩ = some (.int .i64 xf) ∧ W.cell? ⟨wr.heap.size, 1, none⟩ = some (.int .i64 xt))) (by kernel_rfl) ?_
      change wpAnyG _ _ _ _ _ _ 10 _ _ (wr.alloc (.cells #[.int .i64 xf, .int .i64 xt] 28)).drew
      generalize (wr.alloc (.cells #[.int .i64 xf, .int .i64 xt] 28)).drew = wa at *
      refine g_take (i := 0) rfl rfl (by kernel_rfl) (by kernel_rfl) (by kernel_rfl) (by kernel_rfl) (by kernel_rfl) (fun _ _ _ h => h) (.inr hS) (fun L' W' hL hW => by go_simp; rfl) ?_
      refine g_take (i := 1) rfl rfl (by kernel_rfl) (by kernel_rfl) (by kernel_rfl) (by kernel_rfl) (by kernel_rfl) (fun _ _ _ h => h) (.inr hS) (fun L' W' hL hW => by go_simp; rfl) ?_
      refine g_take (i := 2) rfl rfl (by kernel_rfl) (by kernel_rfl) (by kernel_rfl) (by kernel_rfl) (by kernel_rfl) (fun _ _ _ h => h) (.inr hS) (fun L' W' hL hW => by obtain ⟨k0, k1⟩ := hW.resolve_left (by simp [came, hL 4 (by kernel_rfl)]); go_simp; rfl) ?_
      refine g_take (i := 3) rfl rfl (by kernel_rfl) (by kernel_rfl) (by kernel_rfl) (by kernel_rfl) (by kernel_rfl) (fun _ _ _ h => h) (.inr hS) (fun L' W' hL hW => by go_simp; rfl) ?_
      refine g_take (i := 5) rfl rfl (by kernel_rfl) (by kernel_rfl) (by kernel_rfl) (by kernel_rfl) (by kernel_rfl) (fun _ _ _ h => h) (.inr hS) (fun L' W' hL hW => by go_simp; rfl) ?_
      refine g_take (i := 6) rfl rfl (by kernel_rfl) (by kernel_rfl) (by kernel_rfl) (by kernel_rfl) (by kernel_rfl) (fun _ _ _ h => h) (.inr hS) (fun L' W' hL hW => by obtain ⟨k0, k1⟩ := hW.resolve_left (by simp [came, hL 8 (by kernel_rfl)]); go_simp; rfl) ?_
      refine g_take (i := 7) rfl rfl (by kernel_rfl) (by kernel_rfl) (by kernel_rfl) (by kernel_rfl) (by kernel_rfl) (fun _ _ _ h => h) (.inr hS) (fun L' W' hL hW => by go_simp; rfl) ?_
      refine g_one (i := 4) rfl rfl (by kernel_rfl) fun K' hK => ?_
      go_simp
      refine Calls.mono (among_any xf M (by omega) (by omega) wa) ?_
      rintro e w' ⟨rfl, rfl⟩
      rw [HU.out]
      refine hK _ _ (.inr hS) ?_
      clear hK K'
      refine g_one (i := 8) rfl rfl (by kernel_rfl) fun K' hK => ?_
      go_simp
      refine Calls.mono (among_any xt M (by omega) (by omega) wa) ?_
      rintro e w' ⟨rfl, rfl⟩
      rw [HV.out]
      refine hK _ _ (.inr hS) ?_
      clear hK K'
      refine g_one (i := 9) rfl rfl (by kernel_rfl) fun K' hK => ?_
      go_simp
      refine Calls.mono (putOS_any HBo2.out.ord HSt.out (by omega) u v hu hv) ?_
      rintro e w4 ⟨ch, kc, L', P', A', rfl, hP1, hU4⟩
      obtain ⟨F1', hB4, -, -⟩ := HBo2.out.upd hU4
      have HN : Hid (On w w4 o M) := Lib.hid ⟨_, _, _, _, hB4, hP1.st HSt.out hu hv⟩
      refine hK _ _ (.inl (by simp [came])) ?_
      clear hK K' hP1 hU4 hB4
      refine wpAnyG_done (by kernel_rfl) ?_ _
      clear hS HBX HA HBo HBo2
      go_simp
      go_wp2_with fail
      go_roundw
      case rel => exact ⟨i + 1, by have := HLT.out; omega, by go_num, HN⟩
      case measure => simp [intOf]; have := HLT.out; omega
    · have i2 : ¬ (i : Int) < (m : Int) := by omega
      obtain ⟨F1, L, P, A, hBo, hSt⟩ := HS.out
      have HBo := Lib.hid hBo
      have HSt := Lib.hid hSt
      have hla : (zs A).length = M := by rw [zs_length, hSt.perm.la]
      clear HS hBo hSt
      generalize hwr : wr = w3 at *
      clear hwr
      go_wp2_with fail
      refine Calls.mono (list_o HBo.out.ord HSt.out.perm (by omega)) ?_
      rintro e w3a ⟨v3, rfl, o3, b3⟩
      rw [hla] at o3
      obtain ⟨A3, c3, rfl⟩ := own_form o3
      have HO3 := Lib.hid o3
      have HWB : Hid (∀ b, (Value.slice A3 M c3).ownBlock = some b → w3.heap.size ≤ b ∧ b < w3a.heap.size) := Lib.hid (fun b e => ⟨(own_row o3 e).1, by obtain ⟨_, cs, hc⟩ := own_row o3 e; exact hc.lt⟩)
      have HS3 := Lib.hid b3.size
      have HBo3 := Lib.hid (HBo.out.below b3)
      have HF3 : Hid (∀ j, F1 j → j < w3.heap.size) := Lib.hid (fun j e => (HBo.out.f1 j e).2)
      have HL3 := Lib.hid HBo.out.low.size
      clear o3 b3 HBo hla
      go_wp2_with fail
      refine Calls.mono (edges_o HBo3.out.ord HSt.out.ok (by omega)) ?_
      rintro e w4 ⟨A4, c4, rfl, b4, o4⟩
      have HO34 := Lib.hid (own_belowW HO3.out b4)
      have HE4 := Lib.hid o4
      have HS4 := Lib.hid b4.size
      have HBo4 := Lib.hid (HBo3.out.below b4)
      clear o4 b4 HBo3 HO3
      generalize hme : (edgesTo L M).length = me at *
      have HME := Lib.hid hme
      have hk0 := HK0.out
      have hak := HAK.out
      clear hme i2
      go_wp2_with fail
      clear hk0
      refine Calls.mono (growO_any w4 w.heap.size o M F1 L P A HBo4.out.ord HSt.out.perm (by omega) (k : Int)) ?_
      intro e w5 h5
      unfold OGrowOut at h5
      rw [if_pos (by unfold canGrow; simp; omega), Int.toNat_natCast, ← HMK.out] at h5
      obtain ⟨rfl, hU5⟩ := h5
      obtain ⟨F5, hB5, hFr5, hN5⟩ := HBo4.out.upd hU5
      have HB5 := Lib.hid hB5
      have HN5 := Lib.hid hN5
      have HS5 := Lib.hid hFr5.size
      have HO5 := Lib.hid (own_fr HO34.out hFr5 HF3.out (Nat.le_refl _))
      have HE5 := Lib.hid (own_fr HE4.out hFr5 HF3.out HS3.out)
      have HG5 : Hid (OSt Mk (growL L k) (gro P M k) (gro A M k)) := Lib.hid (by rw [HMK.out]; exact HSt.out.gro k)
      clear hU5 hB5 hFr5 hN5 HBo4 HO34 HE4
      have hl5 := len_o HB5.out.ord
      go_wp2_with fail
      refine Calls.mono hl5 ?_
      rintro e w' ⟨rfl, rfl⟩
      clear hl5
      have hmkk : ((Mk : Int) == (Mk : Int)) = true := by simp
      go_wp2_with fail
      go_loopw [14, 74] (fun wv ix wr => ∃ t q : Nat, t ≤ k ∧ ix = .int .i64 t ∧ q ≤ 60 ∧ Hid (q = M + t ∧ wr.ownsRow w3.heap.size 3 1 wv q (iv (zs (gro A M t))) ∧ (∀ b, wv.ownBlock = some b → b < w3a.heap.size ∨ w5.heap.size ≤ b) ∧ Fr (fun b => w3.heap.size ≤ b ∧ b < w3a.heap.size) w5 wr)) (fun _ ix _ => k - (intOf ix).toNat)
      case atStart => exact ⟨0, M, Nat.zero_le _, rfl, by omega, Lib.hid ⟨by omega, by rw [gro_zero]; exact HO5.out, fun b e => .inl (HWB.out b e).2, Fr.refl _ _⟩⟩
      case round =>
        obtain ⟨t, q, ht, rfl, hq, HT⟩ := hrel
        by_cases hlt2 : t < k
        · have HOW := Lib.hid HT.out.2.1
          have HQB := Lib.hid HT.out.2.2.1
          have HFR := Lib.hid HT.out.2.2.2
          have HQ := Lib.hid HT.out.1
          have hmt : (M : Int) + (t : Int) = (q : Int) := by have := HQ.out; omega
          have hls : (zs (gro A M t)).length = q := by rw [zs_length, gro_length, HSt.out.perm.la]; exact HQ.out.symm
          have HGS : Hid (zs (gro A M (t + 1)) = zs (gro A M t) ++ [(q : Int)]) := Lib.hid (by rw [gro_succ, zs_append, HQ.out]; rfl)
          have HHL := Lib.hid hls
          obtain ⟨Aw, cw, hvw⟩ := own_form HT.out.2.1
          subst hvw
          have hBN := Blk.new_ wr 3 #[.int .i64 (q : Nat)] rfl
          have h35 : w3.heap.size ≤ w5.heap.size := by have := HS3.out; have := HS4.out; have := HS5.out; omega
          have h5r := HFR.out.size
          have i4 : (t : Int) < (k : Int) := by omega
          have hq59 : q ≤ 59 := by have := HQ.out; omega
          have HLT2 := Lib.hid hlt2
          generalize hzl : zs (gro A M t) = zl at *
          clear HT hls hzl
          go_wp2_with (at_builtin; refine wpList_push rfl (.tmp 77) (.tmp 81) rfl w3.heap.size (.slice Aw q cw) q zl HHL.out.symm rfl (HOW.out.alloc _) wr.heap.size (q : Nat) rfl hBN (by omega) (by simp; omega) ?_; intro v6 w6 o6 g6 ob6)
          have HN : Hid (q + 1 = M + (t + 1) ∧ w6.ownsRow w3.heap.size 3 1 v6 (q + 1) (iv (zs (gro A M (t + 1)))) ∧ (∀ b, v6.ownBlock = some b → b < w3a.heap.size ∨ w5.heap.size ≤ b) ∧ Fr (fun b => w3.heap.size ≤ b ∧ b < w3a.heap.size) w5 w6) := Lib.hid (by
            refine ⟨by have := HQ.out; omega, by rw [HGS.out]; exact o6, fun b e => ?_, ?_⟩
            · rcases ob6 with e2 | e2
              · exact HQB.out b (by rw [← e2]; exact e)
              · rw [e2] at e
                cases e
                right; simp; omega
            · refine (HFR.out.trans (Fr.of_below (F := fun b => w3.heap.size ≤ b ∧ b < w3a.heap.size) ((Below.refl wr.heap.size wr).alloc (Nat.le_refl _) (.cells #[.int .i64 (q : Nat)] 3))) (fun _ _ e => e)).trans (Fr.of_grown (F := fun b => (w3.heap.size ≤ b ∧ b < w3a.heap.size) ∨ w5.heap.size ≤ b) g6 (fun b e => ?_)) (fun j hj e => ?_)
              · rcases HQB.out b e with e3 | e3
                · exact .inl ⟨(own_row HOW.out e).1, e3⟩
                · exact .inr e3
              · rcases e with e | e
                · exact e
                · omega)
          obtain ⟨A6, c6, hv6⟩ := own_form o6
          subst hv6
          clear o6 g6 ob6 HOW HQB HFR hBN HGS HHL
          go_wp2_with fail
          go_roundw
          case rel => exact ⟨t + 1, q + 1, by have := HLT2.out; omega, by go_num, by omega, HN⟩
          case measure => simp [intOf]; have := HLT2.out; omega
        · have i4 : ¬ (t : Int) < (k : Int) := by omega
          have htk : t = k := by omega
          have hFr := HT.out.2.2.2
          have hown := HT.out.2.1
          have hqM : q = Mk := by have := HT.out.1; have := HMK.out; omega
          rw [htk] at hown
          have HW6 := Lib.hid hown
          have HB6 : Hid (OAt wr w.heap.size F5 o Mk (growL L k) (gro P M k) (gro A M k)) := Lib.hid (HB5.out.ord.fr hFr (fun j e e2 => by
            rcases HN5.out j e with e3 | e3
            · have := HF3.out j e3; omega
            · have := HS4.out; omega))
          have HE6 := Lib.hid (own_keep HE5.out fun g hg => hFr.block g (by obtain ⟨_, cs, hc⟩ := own_row HE5.out hg; exact hc.lt) (fun e => by have := (own_row HE5.out hg).1; omega))
          have HL6 : Hid (Below w.heap.size w wr) := Lib.hid (HB5.out.low.trans (hFr.low (fun b e => Nat.le_trans HL3.out e.1) HB5.out.low.size))
          obtain ⟨Aw, cw, hvw⟩ := own_form hown
          subst hvw
          clear hown hFr HT HB5 HE5 HO5 HN5 htk
          subst hqM
          generalize hwr : wr = w6 at *
          clear hwr
          go_wp2_with fail
          refine Calls.mono (copyO_any w6 w.heap.size o q F5 _ _ _ HB6.out HG5.out.ok HG5.out.perm (by omega)) ?_
          rintro e w7 ⟨o2, rfl, hc1, hc2⟩
          have HC7 : Hid (On w6 w7 o2 q) := Lib.hid ⟨_, _, _, _, ⟨hc1.exist, fun j e => e, hc2⟩, HG5.out⟩
          clear hc1 hc2
          go_upto_region 20 with fail
          go_cut [90, 91, 92] (fun v29 v30 v31 wx => v29 = .slice B m2 d ∧ v30 = .int .i64 (m2 : Int) ∧ v31 = .int .i64 0 ∧ wx = w7)
          case first =>
            have hm := HMM2.out
            go_wp2_with fail
            go_meet
            have e1 : (min (n2 : Int) 60).toNat = m2 := by omega
            have e2 : max (min (n2 : Int) 60) 0 = (m2 : Int) := by omega
            exact ⟨by rw [e1], by rw [e2], rfl, rfl⟩
          case rest =>
          obtain ⟨rfl, rfl, rfl, hwc⟩ := hcut
          have hwc := hwc.symm
          subst hwc
          go_wp2_with fail
          go_loopw [92] (fun ix wr => ∃ i : Nat, i ≤ m2 ∧ ix = .int .i64 i ∧ Hid (On w6 wr o2 q)) (fun ix _ => m2 - (intOf ix).toNat)
          case atStart => exact ⟨0, Nat.zero_le _, rfl, HC7⟩
          case round =>
            obtain ⟨i, hi, rfl, HS⟩ := hrel
            clear HC7
            by_cases hlt : i < m2
            · have hil : i < l2.length := by have := HNL2.out; omega
              obtain ⟨b, off, rfl, hb, p1, p2⟩ := HJ.out i hil
              obtain ⟨F1, L2, P2, A2, hBo, hSt⟩ := HS.out
              have hlow := HL6.out.trans (hBo.low.mono HL6.out.size)
              have q1 := (hlow.cell (p := ⟨b, _, none⟩) hb).trans p1
              have q2 := (hlow.cell (p := ⟨b, _, none⟩) hb).trans p2
              have HBo := Lib.hid hBo
              have HSt2 := Lib.hid hSt
              generalize l2[i] = x at *
              obtain ⟨xf, xt⟩ := x
              have i1 : (0 : Int) ≤ (i : Int) := by omega
              have i2 : (i : Int) < (m2 : Int) := by omega
              have HLT := Lib.hid hlt
              obtain ⟨u, hu1, hu⟩ := mod_nat xf q (by omega)
              obtain ⟨v, hv1, hv⟩ := mod_nat xt q (by omega)
              have HU := Lib.hid hu1
              have HV := Lib.hid hv1
              clear p1 p2 hb hBo hSt HS hu1 hv1 hlow
              have HA : Hid (Below wr.heap.size wr (wr.alloc (.cells #[.int .i64 xf, .int .i64 xt] 28))) := Lib.hid ((Below.refl _ wr).alloc (Nat.le_refl _) _)
              have HBX := Lib.hid (Blk.new_ wr 28 #[.int .i64 xf, .int .i64 xt] rfl)
              have HBo2 := Lib.hid (HBo.out.below (HA.out.drew))
              go_wp2_with fail
              clear q1 q2
              have hS : (wr.alloc (.cells #[.int .i64 xf, .int .i64 xt] 28)).drew.cell? ⟨wr.heap.size, 0, none⟩ = some (.int .i64 xf) ∧ (wr.alloc (.cells #[.int .i64 xf, .int .i64 xt] 28)).drew.cell? ⟨wr.heap.size, 1, none⟩ = some (.int .i64 xt) := ⟨HBX.out.at_ 0 rfl, HBX.out.at_ 1 rfl⟩
              have hwq : IntKind.i64.wrap (q : Int) = (q : Int) := by rw [IntKind.wrap_i64]; omega
              have hwk : IntKind.i64.wrap ((M : Int) + (k : Int)) = (q : Int) := by rw [hak, hwq]
              refine wp_region_heldG [6, 12] (fun cc W => (cc 6 = true ∧ cc 12 = true) ∨ (W.cell? ⟨wr.heap.size, 0, none⟩ = some (.int .i64 xf) ∧ W.cell? ⟨wr.heap.size, 1, none⟩ = some (.int .i64 xt))) (by kernel_rfl) ?_
              change wpAnyG _ _ _ _ _ _ 14 _ _ (wr.alloc (.cells #[.int .i64 xf, .int .i64 xt] 28)).drew
              generalize (wr.alloc (.cells #[.int .i64 xf, .int .i64 xt] 28)).drew = wa at *
              refine g_take (i := 0) rfl rfl (by kernel_rfl) (by kernel_rfl) (by kernel_rfl) (by kernel_rfl) (by kernel_rfl) (fun _ _ _ h => h) (.inr hS) (fun L' W' hL hW => by go_simp; rfl) ?_
              refine g_take (i := 1) rfl rfl (by kernel_rfl) (by kernel_rfl) (by kernel_rfl) (by kernel_rfl) (by kernel_rfl) (fun _ _ _ h => h) (.inr hS) (fun L' W' hL hW => by go_simp; rfl) ?_
              refine g_take (i := 2) rfl rfl (by kernel_rfl) (by kernel_rfl) (by kernel_rfl) (by kernel_rfl) (by kernel_rfl) (fun _ _ _ h => h) (.inr hS) (fun L' W' hL hW => by obtain ⟨k0, k1⟩ := hW.resolve_left (by simp [came, hL 6 (by kernel_rfl)]); go_simp; rfl) ?_
              refine g_take (i := 3) rfl rfl (by kernel_rfl) (by kernel_rfl) (by kernel_rfl) (by kernel_rfl) (by kernel_rfl) (fun _ _ _ h => h) (.inr hS) (fun L' W' hL hW => by go_simp; rfl) ?_
              refine g_take (i := 4) rfl rfl (by kernel_rfl) (by kernel_rfl) (by kernel_rfl) (by kernel_rfl) (by kernel_rfl) (fun _ _ _ h => h) (.inr hS) (fun L' W' hL hW => by go_simp; rfl) ?_
              refine g_take (i := 5) rfl rfl (by kernel_rfl) (by kernel_rfl) (by kernel_rfl) (by kernel_rfl) (by kernel_rfl) (fun _ _ _ h => h) (.inr hS) (fun L' W' hL hW => by go_simp; rfl) ?_
              refine g_take (i := 7) rfl rfl (by kernel_rfl) (by kernel_rfl) (by kernel_rfl) (by kernel_rfl) (by kernel_rfl) (fun _ _ _ h => h) (.inr hS) (fun L' W' hL hW => by go_simp; rfl) ?_
              refine g_take (i := 8) rfl rfl (by kernel_rfl) (by kernel_rfl) (by kernel_rfl) (by kernel_rfl) (by kernel_rfl) (fun _ _ _ h => h) (.inr hS) (fun L' W' hL hW => by obtain ⟨k0, k1⟩ := hW.resolve_left (by simp [came, hL 12 (by kernel_rfl)]); go_simp; rfl) ?_
              refine g_take (i := 9) rfl rfl (by kernel_rfl) (by kernel_rfl) (by kernel_rfl) (by kernel_rfl) (by kernel_rfl) (fun _ _ _ h => h) (.inr hS) (fun L' W' hL hW => by go_simp; rfl) ?_
              refine g_take (i := 10) rfl rfl (by kernel_rfl) (by kernel_rfl) (by kernel_rfl) (by kernel_rfl) (by kernel_rfl) (fun _ _ _ h => h) (.inr hS) (fun L' W' hL hW => by go_simp; rfl) ?_
              refine g_take (i := 11) rfl rfl (by kernel_rfl) (by kernel_rfl) (by kernel_rfl) (by kernel_rfl) (by kernel_rfl) (fun _ _ _ h => h) (.inr hS) (fun L' W' hL hW => by go_simp; rfl) ?_
              refine g_one (i := 6) rfl rfl (by kernel_rfl) fun K' hK => ?_
              go_simp
              refine Calls.mono (among_any xf q (by omega) (by omega) wa) ?_
              rintro e w' ⟨rfl, rfl⟩
              rw [HU.out]
              refine hK _ _ (.inr hS) ?_
              clear hK K'
              refine g_one (i := 12) rfl rfl (by kernel_rfl) fun K' hK => ?_
              go_simp
              refine Calls.mono (among_any xt q (by omega) (by omega) wa) ?_
              rintro e w' ⟨rfl, rfl⟩
              rw [HV.out]
              refine hK _ _ (.inr hS) ?_
              clear hK K'
              refine g_one (i := 13) rfl rfl (by kernel_rfl) fun K' hK => ?_
              go_simp
              refine Calls.mono (putOS_any HBo2.out.ord HSt2.out (by omega) u v hu hv) ?_
              rintro e w4 ⟨ch, kc, L', P', A', rfl, hP1, hU4⟩
              obtain ⟨F1', hB4, -, -⟩ := HBo2.out.upd hU4
              have HN : Hid (On w6 w4 o2 q) := Lib.hid ⟨_, _, _, _, hB4, hP1.st HSt2.out hu hv⟩
              refine hK _ _ (.inl (by simp [came])) ?_
              clear hK K' hP1 hU4 hB4
              refine wpAnyG_done (by kernel_rfl) ?_ _
              clear hS HBX HA HBo HBo2
              go_simp
              go_wp2_with fail
              go_roundw
              case rel => exact ⟨i + 1, by have := HLT.out; omega, by go_num, HN⟩
              case measure => simp [intOf]; have := HLT.out; omega
            · have i2 : ¬ (i : Int) < (m2 : Int) := by omega
              obtain ⟨F8, L8, P8, A8, hBo, hSt⟩ := HS.out
              have HBo := Lib.hid hBo
              have HSt8 := Lib.hid hSt
              have hla : (zs A8).length = q := by rw [zs_length, hSt.perm.la]
              have HLA := Lib.hid hla
              clear HS hBo hSt
              generalize hwr : wr = w8 at *
              clear hwr
              go_wp2_with fail
              refine Calls.mono (list_o HBo.out.ord HSt8.out.perm (by omega)) ?_
              rintro e w9 ⟨v9, rfl, o9, b9⟩
              rw [hla] at o9
              obtain ⟨A9, c9, rfl⟩ := own_form o9
              have HB9 := Lib.hid b9
              clear o9 b9 hla i2
              go_wp2_with fail
              go_loopw [114] (fun ix wr => ∃ i : Nat, i ≤ q ∧ ix = .int .i64 i ∧ Hid (i ≤ q ∧ Below w8.heap.size w8 wr)) (fun ix _ => q - (intOf ix).toNat)
              case atStart => exact ⟨0, Nat.zero_le _, rfl, Lib.hid ⟨Nat.zero_le _, HB9.out⟩⟩
              case round =>
                obtain ⟨i, hi, rfl, HT⟩ := hrel
                by_cases hlt3 : i < q
                · have HBW := Lib.hid HT.out.2
                  have HLI := Lib.hid (list_o (HBo.out.ord.below HBW.out) HSt8.out.perm (by omega))
                  have i3 : (i : Int) < (q : Int) := by omega
                  have i4 : (0 : Int) ≤ (i : Int) := by omega
                  have HLT3 := Lib.hid hlt3
                  clear HT
                  go_wp2_with fail
                  refine Calls.mono HLI.out ?_
                  rintro e w10 ⟨v10, rfl, o10, b10⟩
                  obtain ⟨b, off, cc, hv, hcl, hfz, hbl, -⟩ := ORow.set_ (l := zs A8) o10 (i := i) (by rw [HLA.out]; exact HLT3.out) 7
                  rw [HLA.out] at hv
                  subst hv
                  have hb1 := (own_row o10 (g := b) rfl).1
                  have HN : Hid (i + 1 ≤ q ∧ Below w8.heap.size w8 (w10.setCell ⟨b, off + i, none⟩ (.int .i64 7))) := Lib.hid ⟨HLT3.out, (HBW.out.trans (b10.mono HBW.out.size)).setCell (p := ⟨b, off + i, none⟩) (Nat.le_trans HBW.out.size hb1) _⟩
                  clear HLI o10 b10 hbl hb1 HBW
                  obtain ⟨zz, hzz⟩ : ∃ zz, w10.cell? ⟨b, off + i, none⟩ = some (.int .i64 zz) := ⟨_, hcl⟩
                  clear hcl
                  go_wp2_with fail
                  go_roundw
                  case rel => exact ⟨i + 1, by have := HLT3.out; omega, by go_num, HN⟩
                  case measure => simp [intOf]; have := HLT3.out; omega
                · have i3 : ¬ (i : Int) < (q : Int) := by omega
                  have HBW := Lib.hid HT.out.2
                  have HB8r := Lib.hid (HBo.out.low.trans (HBW.out.mono HBo.out.low.size))
                  have HO11 := Lib.hid (HB6.out.below HB8r.out)
                  have HC11 := Lib.hid (HBo.out.ord.below HBW.out)
                  have HW11 := Lib.hid (own_belowW HW6.out HB8r.out)
                  have HE11 := Lib.hid (own_belowW HE6.out HB8r.out)
                  have HL11 := Lib.hid (HL6.out.trans (HB8r.out.mono HL6.out.size))
                  clear HT HBW HB8r HB9 HBo HB6 HW6 HE6 HL6
                  generalize hwr : wr = w11 at *
                  clear hwr
                  go_wp2_with fail
                  refine Calls.mono (list_o HO11.out HG5.out.perm (by omega)) ?_
                  rintro e w12 ⟨v12, rfl, o12, b12⟩
                  have hl12 : (zs (gro A M k)).length = q := by rw [zs_length, HG5.out.perm.la]
                  rw [hl12] at o12
                  obtain ⟨A12, c12, rfl⟩ := own_form o12
                  have HO12 := Lib.hid (HO11.out.below b12)
                  have HC12 := Lib.hid (HC11.out.below b12)
                  have HW12 := Lib.hid (own_belowW HW11.out b12)
                  have HE12 := Lib.hid (own_belowW HE11.out b12)
                  have HL12 := Lib.hid (HL11.out.trans (b12.mono HL11.out.size))
                  have HI12 := Lib.hid o12
                  clear o12 b12 HO11 HC11 HW11 HE11 HL11 hl12
                  go_wp2_with fail
                  refine Calls.mono (ints_two HI12.out HW12.out) ?_
                  rintro e w13 ⟨rfl, b13⟩
                  rw [decide_eq_true rfl]
                  have HO13 := Lib.hid (HO12.out.below b13)
                  have HC13 := Lib.hid (HC12.out.below b13)
                  have HE13 := Lib.hid (own_belowW HE12.out b13)
                  have HL13 := Lib.hid (HL12.out.trans (b13.mono HL12.out.size))
                  clear b13 HO12 HC12 HW12 HE12 HL12 HI12
                  go_wp2_with fail
                  refine Calls.mono (edges_o HO13.out HG5.out.ok (by omega)) ?_
                  rintro e w14 ⟨A14, c14, rfl, b14, o14⟩
                  have hte : edgesTo (growL L k) q = edgesTo L M := by rw [HMK.out]; exact Gr.tells_grow HSt.out.ok k
                  rw [hte] at o14 ⊢
                  rw [HME.out] at o14 ⊢
                  have HO14 := Lib.hid (HO13.out.below b14)
                  have HC14 := Lib.hid (HC13.out.below b14)
                  have HE14 := Lib.hid (own_belowW HE13.out b14)
                  have HL14 := Lib.hid (HL13.out.trans (b14.mono HL13.out.size))
                  have HI14 := Lib.hid o14
                  clear o14 b14 HO13 HC13 HE13 HL13 hte
                  go_wp2_with fail
                  refine Calls.mono (same_own HI14.out HE14.out) ?_
                  rintro e w15 ⟨rfl, b15⟩
                  rw [decide_eq_true rfl]
                  have HO15 := Lib.hid (HO14.out.below b15)
                  have HC15 := Lib.hid (HC14.out.below b15)
                  have HL15 := Lib.hid (HL14.out.trans (b15.mono HL14.out.size))
                  clear b15 HO14 HC14 HE14 HL14 HI14
                  go_wp2_with fail
                  refine Calls.mono (up_any HC15.out HSt8.out (by omega)) ?_
                  rintro e w16 ⟨rfl, b16⟩
                  have HO16 := Lib.hid (HO15.out.below b16)
                  have HL16 := Lib.hid (HL15.out.trans (b16.mono HL15.out.size))
                  clear b16 HO15 HC15 HL15
                  go_wp2_with fail
                  refine Calls.mono (up_any HO16.out HG5.out (by omega)) ?_
                  rintro e w17 ⟨rfl, b17⟩
                  have HL17 := Lib.hid (HL16.out.trans (b17.mono HL16.out.size))
                  clear b17 HO16 HL16
                  go_wp2_with fail
                  refine Calls.mono (awakeO_any w17) ?_
                  rintro e w18 ⟨rfl, b18⟩
                  have HL18 := Lib.hid (HL17.out.trans (b18.mono HL17.out.size))
                  clear b18 HL17
                  go_wp2_with fail
                  go_ret
                  exact ⟨rfl, HL18.out⟩
end Go.Proofs.Ytpikdjaedbogdaa.OrW
