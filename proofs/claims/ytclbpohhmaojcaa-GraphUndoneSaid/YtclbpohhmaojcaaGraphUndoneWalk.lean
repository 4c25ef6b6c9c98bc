/-
  The walk of GraphUndone.
-/
import Derived.Test.YtclbpohhmaojcaaGraphUnd
namespace Go.Proofs.Ytclbpohhmaojcaa.GrW
set_option linter.unusedVariables false
open Go Go.RowKit Go.Proofs Go.Proofs.Ytclbpohhmaojcaa Go.Proofs.Ytclbpohhmaojcaa.Wd
open Go.Proofs.Ytclbpohhmaojcaa.Gr (OK ofL IsR outs intos ev edgesTo putL cutL Und)

/-- A row of numbers whose cells may be written. -/
def RowW (B : Nat) (w : World) (v : Value) (m : Nat) : Prop := ∃ A c, v = .slice A m c ∧ (m = 0 ∨ ∃ b cur, A = some ⟨b, 0, none⟩ ∧ B ≤ b ∧ Blk w b 3 cur ∧ m ≤ cur.size)
theorem RowW.of_own {B : Nat} {w : World} {v : Value} {m : Nat} {xs : List Value} (h : w.ownsRow B 3 1 v m xs) : RowW B w v m := by
  rcases h.2 with ⟨rfl, h0⟩ | ⟨g, cap, cur, hv, hg, hh, h1, h2, h3, h4⟩
  · have hm : m = 0 := h0
    subst hm
    exact ⟨_, _, rfl, .inl rfl⟩
  · exact ⟨_, _, hv, .inr ⟨g, cur, rfl, hg, hh, by omega⟩⟩
theorem RowW.set_ {B : Nat} {w : World} {v : Value} {m : Nat} (h : RowW B w v m) (b i : Nat) (u : Value) : RowW B (w.setCell ⟨b, i, none⟩ u) v m := by
  obtain ⟨A, c, rfl, h | ⟨b2, cur, rfl, hB, hb, hm⟩⟩ := h
  · exact ⟨_, _, rfl, .inl h⟩
  · refine ⟨_, _, rfl, .inr ?_⟩
    by_cases e : b2 = b
    · subst e
      exact ⟨b2, _, rfl, hB, hb.set_ i u, by simpa using hm⟩
    · exact ⟨b2, cur, rfl, hB, hb.farN e u, hm⟩
theorem RowW.below {B : Nat} {w w' : World} {v : Value} {m : Nat} (h : RowW B w v m) (hb : Below w.heap.size w w') : RowW B w' v m := by
  obtain ⟨A, c, rfl, h | ⟨b2, cur, rfl, hB, hb2, hm⟩⟩ := h
  · exact ⟨_, _, rfl, .inl h⟩
  · exact ⟨_, _, rfl, .inr ⟨b2, cur, rfl, hB, hb2.below hb hb2.lt, hm⟩⟩
theorem RowW.more {B B' : Nat} {w : World} {v : Value} {m : Nat} (h : RowW B w v m) (hB : B' ≤ B) : RowW B' w v m := by
  obtain ⟨A, c, rfl, h | ⟨b2, cur, rfl, hB2, hb2, hm⟩⟩ := h
  · exact ⟨_, _, rfl, .inl h⟩
  · exact ⟨_, _, rfl, .inr ⟨b2, cur, rfl, by omega, hb2, hm⟩⟩
set_option maxRecDepth 100000 in
set_option maxHeartbeats 8000000 in
theorem undone_walk (nb : Nat) (hnb : nb < 256) (A : Option Addr) (c : Nat) (l : List (Int × Int)) (n : Nat) (hn : n = l.length) (hnc : n ≤ c) (hcm : c ≤ maxLen) (A2 : Option Addr) (c2 : Nat) (l2 : List (Int × Int)) (n2 : Nat) (hn2 : n2 = l2.length) (hnc2 : n2 ≤ c2) (hcm2 : c2 ≤ maxLen) (w : World) (hI : EdgesAt w w.heap.size A l) (hJ : EdgesAt w w.heap.size A2 l2) :
    Calls Try.prog 6 #[.int .u8 nb, .slice A n c, .slice A2 n2 c2] w fun e w' => e = .returned (.bool true) ∧ Below w.heap.size w w' := by
  have HOF := Lib.hid (of_any nb hnb A c l n hn hnc hcm w hI)
  have hok0 := OK.ofL (many := manyOf nb) (by unfold manyOf; omega) (l.take 80)
  have hM0 : manyOf nb ≤ 31 ∧ 2 ≤ manyOf nb := by unfold manyOf; omega
  generalize ofL (manyOf nb) (l.take 80) = L0 at *
  generalize manyOf nb = M at *
  obtain ⟨hM31, hM2⟩ := hM0
  have HOK := Lib.hid hok0
  have HJ := Lib.hid hJ
  unfold maxLen at hcm2
  obtain ⟨m2, hm2⟩ : ∃ m, m = min n2 30 := ⟨_, rfl⟩
  have HMM := Lib.hid hm2
  have hmc : (m2 : Int) ≤ (c2 : Int) := by omega
  have hm30 : m2 ≤ 30 := by omega
  have hmn : m2 ≤ n2 := by omega
  have HNL := Lib.hid hn2
  obtain ⟨i0, hi0, hz0, hz1, hz2⟩ := info_parts infoEdge
  clear hok0 hI hJ hn hnc hcm hm2 hn2
  go_enter Try.func6, Try.ntmps6
  go_wp2_with fail
  refine Calls.mono HOF.out ?_
  rintro e w1 ⟨g, rfl, G1, B1⟩
  have HG1 := Lib.hid G1
  have HB1 := Lib.hid B1
  clear HOF G1 B1
  go_wp2_with fail
  refine Calls.mono (edges_any w1 _ g M _ L0 HG1.out (HOK.out.rises (by omega)) (by omega)) ?_
  rintro e w2 ⟨Aw, cw, rfl, B2, O2⟩
  have HB2 := Lib.hid B2
  have HO2 := Lib.hid O2
  clear B2 O2
  generalize hq : (edgesTo L0 M).length = q at *
  have HQ := Lib.hid hq.symm
  clear hq
  go_wp2_with fail
  refine Calls.mono (copy_any w2 _ g M _ L0 (HG1.out.below HB2.out) (HOK.out.rises (by omega)) (by omega)) ?_
  rintro e w3 ⟨h, rfl, G3, B3⟩
  have HH3 := Lib.hid G3.exist
  have HB3 := Lib.hid B3
  have HO3 := Lib.hid (own_belowW HO2.out B3)
  have HU0 : Hid (UG w.heap.size w1.heap.size w3.heap.size (fun k => w.heap.size ≤ k ∧ k < w1.heap.size) w3 w3 g M L0 (.slice none 0 0) []) := Lib.hid ⟨(HG1.out.exist.below HB2.out).below B3, fun j hj => .inl hj, World.ownsRow_nil _ _ _ _, fun q hq => by simp [Value.ownBlock] at hq, Fr.refl _ _⟩
  have HL13 := Lib.hid (show Below w.heap.size w w3 from (HB1.out.trans (HB2.out.mono HB1.out.size)).trans (B3.mono (Nat.le_trans HB1.out.size HB2.out.size)))
  have HS1 := Lib.hid (show w.heap.size ≤ w1.heap.size ∧ w1.heap.size ≤ w2.heap.size ∧ w2.heap.size ≤ w3.heap.size from ⟨HB1.out.size, HB2.out.size, B3.size⟩)
  have HO2' := Lib.hid HO2.out
  clear G3 B3 HG1 HO2
  go_upto_region 5 with fail
  go_cut [39, 40, 41] (fun v29 v30 v31 wx => v29 = .slice A2 m2 c2 ∧ v30 = .int .i64 (m2 : Int) ∧ v31 = .int .i64 0 ∧ wx = w3)
  case first =>
    have hm := HMM.out
    go_wp2_with fail
    go_meet
    have e1 : (min (n2 : Int) 30).toNat = m2 := by omega
    have e2 : max (min (n2 : Int) 30) 0 = (m2 : Int) := by omega
    exact ⟨by rw [e1], by rw [e2], rfl, rfl⟩
  case rest =>
  obtain ⟨rfl, rfl, rfl, hwc⟩ := hcut
  have hwc := hwc.symm
  subst hwc
  go_wp2_with fail
  go_loopw [11, 41] (fun v11 i wr => ∃ (k m : Nat) (F : Nat → Prop) (L : List (List Int)) (fl : List (Int × Int)), k ≤ m2 ∧ i = .int .i64 k ∧ m ≤ k ∧ Hid (m = fl.length ∧ UG w.heap.size w1.heap.size w3.heap.size F w3 wr g M L v11 fl ∧ Und M L0 L fl)) (fun _ i _ => m2 - (intOf i).toNat)
  case atStart => exact ⟨0, 0, _, _, [], Nat.zero_le _, rfl, Nat.le_refl _, Lib.hid ⟨rfl, HU0.out, Und.start HOK.out⟩⟩
  case round =>
    obtain ⟨k, mf, F, L, fl, hk, rfl, hmf, HS⟩ := hrel
    by_cases hlt : k < m2
    · have hkl : k < l2.length := by have := HNL.out; omega
      obtain ⟨b, off, rfl, hb, p1, p2⟩ := HJ.out k hkl
      have hlow := HS.out.2.1.low HL13.out (Nat.le_refl _) (by have := HS1.out; omega)
      have q1 := (hlow.cell (p := ⟨b, _, none⟩) hb).trans p1
      have q2 := (hlow.cell (p := ⟨b, _, none⟩) hb).trans p2
      generalize l2[k] = x at *
      obtain ⟨xf, xt⟩ := x
      have i1 : (0 : Int) ≤ (k : Int) := by omega
      have i2 : (k : Int) < (m2 : Int) := by omega
      have HBX := Lib.hid (Blk.new_ wr 32 #[.int .i64 xf, .int .i64 xt] rfl)
      have HBA : Hid (Below wr.heap.size wr (wr.alloc (.cells #[.int .i64 xf, .int .i64 xt] 32))) := Lib.hid ((Below.refl _ wr).alloc (Nat.le_refl _) _)
      clear p1 p2 hb hlow hkl
      go_wp2_with fail
      clear q1 q2
      generalize wr.alloc (.cells #[.int .i64 xf, .int .i64 xt] 32) = wa at *
      have hS : wa.drew.cell? ⟨wr.heap.size, 0, none⟩ = some (.int .i64 xf) ∧ wa.drew.cell? ⟨wr.heap.size, 1, none⟩ = some (.int .i64 xt) := ⟨HBX.out.at_ 0 rfl, HBX.out.at_ 1 rfl⟩
      refine wp_region_heldG [3, 7] (fun cc W => (cc 3 = true ∧ cc 7 = true) ∨ (W.cell? ⟨wr.heap.size, 0, none⟩ = some (.int .i64 xf) ∧ W.cell? ⟨wr.heap.size, 1, none⟩ = some (.int .i64 xt))) (by kernel_rfl) ?_
      change wpAnyG _ _ _ _ _ _ 10 _ _ wa.drew
      refine g_take (i := 0) rfl rfl (by kernel_rfl) (by kernel_rfl) (by kernel_rfl) (by kernel_rfl) (by kernel_rfl) (fun _ _ _ h => h) (.inr hS) (fun L W hL hW => by go_simp; rfl) ?_
      refine g_take (i := 1) rfl rfl (by kernel_rfl) (by kernel_rfl) (by kernel_rfl) (by kernel_rfl) (by kernel_rfl) (fun _ _ _ h => h) (.inr hS) (fun L W hL hW => by obtain ⟨q1, q2⟩ := hW.resolve_left (by simp [came, hL 3 (by kernel_rfl)]); go_simp; rfl) ?_
      refine g_take (i := 2) rfl rfl (by kernel_rfl) (by kernel_rfl) (by kernel_rfl) (by kernel_rfl) (by kernel_rfl) (fun _ _ _ h => h) (.inr hS) (fun L W hL hW => by go_simp; rfl) ?_
      refine g_take (i := 4) rfl rfl (by kernel_rfl) (by kernel_rfl) (by kernel_rfl) (by kernel_rfl) (by kernel_rfl) (fun _ _ _ h => h) (.inr hS) (fun L W hL hW => by go_simp; rfl) ?_
      refine g_take (i := 5) rfl rfl (by kernel_rfl) (by kernel_rfl) (by kernel_rfl) (by kernel_rfl) (by kernel_rfl) (fun _ _ _ h => h) (.inr hS) (fun L W hL hW => by obtain ⟨q1, q2⟩ := hW.resolve_left (by simp [came, hL 7 (by kernel_rfl)]); go_simp; rfl) ?_
      refine g_take (i := 6) rfl rfl (by kernel_rfl) (by kernel_rfl) (by kernel_rfl) (by kernel_rfl) (by kernel_rfl) (fun _ _ _ h => h) (.inr hS) (fun L W hL hW => by go_simp; rfl) ?_
      refine g_one (i := 3) rfl rfl (by kernel_rfl) fun K hK => ?_
      go_simp
      refine Calls.mono (among_any xf M (by omega) (by omega) wa.drew) ?_
      rintro e w' ⟨rfl, rfl⟩
      refine hK _ _ (.inr hS) ?_
      clear hK K
      refine g_one (i := 7) rfl rfl (by kernel_rfl) fun K hK => ?_
      go_simp
      refine Calls.mono (among_any xt M (by omega) (by omega) wa.drew) ?_
      rintro e w' ⟨rfl, rfl⟩
      refine hK _ _ (.inr hS) ?_
      clear hK K
      refine g_take (i := 8) rfl rfl (by kernel_rfl) (by kernel_rfl) (by kernel_rfl) (by kernel_rfl) (by kernel_rfl) (fun _ _ _ h => h) (.inr hS) (fun L W hL hW => by go_simp; rfl) ?_
      refine g_take (i := 9) rfl rfl (by kernel_rfl) (by kernel_rfl) (by kernel_rfl) (by kernel_rfl) (by kernel_rfl) (fun _ _ _ h => h) (.inr hS) (fun L W hL hW => by go_simp; rfl) ?_
      refine wpAnyG_done (by kernel_rfl) ?_ _
      obtain ⟨a, ha, haM⟩ := hasE_range (n := M) (x := xf) (by omega)
      obtain ⟨b3, hb3, hbM⟩ := hasE_range (n := M) (x := xt) (by omega)
      rw [ha, hb3]
      clear ha hb3 hS HBX
      go_simp
      have HUa := Lib.hid ((HS.out.2.1.below HBA.out).below ((Below.refl _ wa).drew))
      have HUn := Lib.hid HS.out.2.2
      have HMF := Lib.hid HS.out.1
      clear HS HBA
      obtain ⟨bh, hbh⟩ : ∃ bh, hasE M L (a : Int) (b3 : Int) = bh := ⟨_, rfl⟩
      have HBH := Lib.hid hbh
      clear hbh
      go_wp2_with fail
      refine Calls.mono (has_c HUa.out.gr HUn.out.ok (by omega) (a : Int) (b3 : Int) bh HBH.out) ?_
      rintro e w4 ⟨rfl, B4⟩
      have HU4 := Lib.hid (HUa.out.below B4)
      clear HUa B4
      go_wp2_with fail
      by_cases hab : a = b3
      · subst hab
        refine Calls.mono (put_equal HU4.out.gr HUn.out.ok (by omega) (Nat.le_trans HL13.out.size HU4.out.size) a) ?_
        rintro e w5 ⟨rfl, rfl⟩
        have e1 : ((a : Int) != (a : Int)) = false := by simp
        have HN : Hid (mf = fl.length ∧ UG w.heap.size w1.heap.size w3.heap.size F w3 w5 g M L u11 fl ∧ Und M L0 L fl) := Lib.hid ⟨HMF.out, HU4.out, HUn.out⟩
        clear HU4 HUn HMF HBH
        go_wp2_with fail
        go_roundw
        case rel => exact ⟨k + 1, mf, F, L, fl, by omega, by go_num, by omega, HN⟩
        case measure => simp [intOf]; omega
      · refine Calls.mono (put_fresh HU4.out.gr HUn.out.ok (by omega) (Nat.le_trans HL13.out.size HU4.out.size) haM hbM hab) ?_
        rintro e w5 ⟨rfl, hU⟩
        obtain ⟨F5, hU5⟩ := HU4.out.upd (Nat.le_refl _) hU
        have HU5 := Lib.hid hU5
        rw [HBH.out]
        have e1 : ((a : Int) != (b3 : Int)) = true := by rw [bne_iff_ne]; omega
        have HPH := Lib.hid (Gr.put_has HUn.out.ok haM hbM)
        have HOKP := Lib.hid (HUn.out.ok.put haM hbM hab)
        clear HU4 hU hU5
        cases bh
        · have HUn2 := Lib.hid (HUn.out.put haM hbM hab HBH.out)
          clear HUn HBH
          go_wp2_with fail
          refine Calls.mono (has_c HU5.out.gr HOKP.out (by omega) (a : Int) (b3 : Int) true HPH.out) ?_
          rintro e w6 ⟨rfl, B6⟩
          have HU6 := Lib.hid (HU5.out.below B6)
          have hsz : w3.heap.size ≤ w6.heap.size := HU6.out.size
          have HOWN : Hid (w6.ownsRow w3.heap.size 32 2 u11 mf (ev fl)) := Lib.hid (by rw [HMF.out]; exact HU6.out.own)
          have HNW : Hid ((w6.alloc (.cells #[.int .i64 (a : Int), .int .i64 (b3 : Int)] 32)).heap[w6.heap.size]? = some (.cells #[.int .i64 (a : Int), .int .i64 (b3 : Int)] 32 (0, 0))) := Lib.hid (heap_alloc_new w6 _)
          have hm40 : mf ≤ 30 := by omega
          clear HU5 HPH HOKP B6
          go_wp2_with (at_builtin; refine wpList_append_lies _ rfl (.tmp 87) (.tmp 91) _ rfl w3.heap.size 32 i0 _ 2 16 Try.underlying22 hi0 hz0 hz1 hz2 rfl (by omega) _ mf _ rfl (HOWN.out.alloc _) ⟨w6.heap.size, 0, none⟩ 1 1 [.int .i64 (a : Int), .int .i64 (b3 : Int)] rfl rfl (World.news_of_block HNW.out) (by intro u hu; simp at hu; rcases hu with rfl | rfl <;> rfl) (by omega) (by unfold maxLen; omega) (by omega) (by simp; omega) (w6.heap.size + 1) (by simp) ?_)
          intro g2 cap w7 hown2 hgrow hgg _
          have HN : Hid (mf + 1 = (fl ++ [((a : Int), (b3 : Int))]).length ∧ UG w.heap.size w1.heap.size w3.heap.size (fun k => F5 k ∧ k < (w6.alloc (.cells #[.int .i64 (a : Int), .int .i64 (b3 : Int)] 32)).heap.size) w3 w7 g M (putL L a b3) (.slice (some ⟨g2, 0, none⟩) (mf + 1) cap) (fl ++ [((a : Int), (b3 : Int))]) ∧ Und M L0 (putL L a b3) (fl ++ [((a : Int), (b3 : Int))])) := Lib.hid (by
            refine ⟨by rw [List.length_append, HMF.out]; rfl, ?_, HUn2.out⟩
            refine (HU6.out.below ((Below.refl _ w6).alloc (Nat.le_refl _) (.cells #[.int .i64 (a : Int), .int .i64 (b3 : Int)] 32))).app (Nat.le_refl _) ?_ hgrow (fun q hq => ?_)
            · rw [← HMF.out]; exact hown2
            · have : g2 = q := by simpa [Value.ownBlock] using hq
              subst this
              rcases hgg with hgg | hgg
              · exact .inl hgg
              · exact .inr (by rw [hgg]; simp))
          clear hown2 hgrow hgg HNW HOWN HU6 HUn2 HMF
          go_wp2_with fail
          go_roundw
          case rel => exact ⟨k + 1, mf + 1, _, _, _, by omega, by go_num, by omega, HN⟩
          case measure => simp [intOf]; omega
        · have HSM := Lib.hid (Gr.put_same HUn.out.ok haM hbM hab HBH.out)
          clear HBH
          go_wp2_with fail
          refine Calls.mono (has_c HU5.out.gr HOKP.out (by omega) (a : Int) (b3 : Int) true HPH.out) ?_
          rintro e w6 ⟨rfl, B6⟩
          have HN : Hid (mf = fl.length ∧ UG w.heap.size w1.heap.size w3.heap.size F5 w3 w6 g M L u11 fl ∧ Und M L0 L fl) := Lib.hid (by
            have h := HU5.out.below B6
            rw [HSM.out] at h
            exact ⟨HMF.out, h, HUn.out⟩)
          clear HU5 HPH HOKP B6 HUn HMF HSM
          go_wp2_with fail
          go_roundw
          case rel => exact ⟨k + 1, mf, _, _, _, by omega, by go_num, by omega, HN⟩
          case measure => simp [intOf]; omega
    · have HU := Lib.hid HS.out.2.1
      have HUn := Lib.hid HS.out.2.2
      have HMF := Lib.hid HS.out.1
      have hmf30 : mf ≤ 30 := by omega
      have HHr := Lib.hid (HH3.out.fr HU.out.fr (fun k hk e => by have := HS1.out; unfold Gs at e; omega))
      have HOr := Lib.hid (own_keep HO3.out (fun p hp => HU.out.mid (own_row HO3.out hp).1 (by obtain ⟨_, cs, hb⟩ := own_row HO2'.out hp; have := hb.lt; have := HS1.out; omega) (Nat.le_refl _)))
      clear HS HH3 HU0
      generalize hW4 : wr = w4 at *
      clear hW4
      obtain ⟨Af, cf, hvf⟩ := own_form HU.out.own
      rw [← HMF.out] at hvf
      subst hvf
      go_wp2_with fail
      refine Calls.mono (edges_any w4 _ h M _ L0 HHr.out (HOK.out.rises (by omega)) (by omega)) ?_
      rintro e w5 ⟨Ah, ch, rfl, B5, O5⟩
      rw [← HQ.out] at O5 ⊢
      have HU5 := Lib.hid (HU.out.below B5)
      have HOr5 := Lib.hid (own_belowW HOr.out B5)
      have HO5 := Lib.hid O5
      clear HU HOr HHr B5 O5
      go_wp2_with fail
      refine Calls.mono (same_own HO5.out HOr5.out) ?_
      rintro e w6 ⟨rfl, B6⟩
      have HU6 := Lib.hid (HU5.out.below B6)
      have HOr6 := Lib.hid (own_belowW HOr5.out B6)
      clear HU5 HOr5 HO5 B6
      rw [decide_eq_true (show edgesTo L0 M = edgesTo L0 M from rfl)]
      go_wp2_with fail
      go_loopw [101] (fun i wr => ∃ (k : Nat) (F : Nat → Prop) (L : List (List Int)), k ≤ mf ∧ i = .int .i64 k ∧ Hid (UG w.heap.size w1.heap.size w3.heap.size F w3 wr g M L (.slice Af mf cf) fl ∧ Und M L0 L (fl.drop k) ∧ Fr (Gs w.heap.size w1.heap.size w3.heap.size) w6 wr)) (fun i _ => mf - (intOf i).toNat)
      case atStart => exact ⟨0, _, _, Nat.zero_le _, rfl, Lib.hid ⟨HU6.out, by rw [List.drop_zero]; exact HUn.out, Fr.refl _ _⟩⟩
      case round =>
        obtain ⟨k, F, L, hk, rfl, HS⟩ := hrel
        clear HU6 HUn
        by_cases hlt : k < mf
        · have hkl : k < fl.length := by have := HMF.out; omega
          have hown := HS.out.1.own
          rw [← HMF.out] at hown
          obtain ⟨b, off, rfl, hb, p1, p2⟩ := (EdgesAt.of_own hown).1 k hkl
          have hdrop := List.drop_eq_getElem_cons hkl
          obtain ⟨a, b3, hx, haM, hbM, hab, -⟩ := HS.out.2.1.new _ (by rw [hdrop]; exact List.mem_cons_self ..)
          rw [hx] at p1 p2
          have hu2 : Und M L0 L (((a : Int), (b3 : Int)) :: fl.drop (k + 1)) := by rw [← hx, ← hdrop]; exact HS.out.2.1
          obtain ⟨h1, h2, h3⟩ := hu2.cut haM hbM
          have HC1 := Lib.hid h1
          have HC2 := Lib.hid h2
          have HC3 := Lib.hid h3
          have HOKL := Lib.hid HS.out.2.1.ok
          have i1 : (0 : Int) ≤ (k : Int) := by omega
          have i2 : (k : Int) < (mf : Int) := by omega
          have HBA : Hid (Below wr.heap.size wr (wr.alloc (.cells #[.int .i64 (a : Int), .int .i64 (b3 : Int)] 32))) := Lib.hid ((Below.refl _ wr).alloc (Nat.le_refl _) _)
          have HUa := Lib.hid (HS.out.1.exist.below HBA.out)
          have HFa := Lib.hid (HS.out.2.2.trans (Fr.of_below (F := fun _ => False) HBA.out) (fun _ _ e => e.elim))
          have HBX := Lib.hid (Blk.new_ wr 32 #[.int .i64 (a : Int), .int .i64 (b3 : Int)] rfl)
          have a3 := HBX.out.at_ 0 rfl
          have a4 := HBX.out.at_ 1 rfl
          clear hkl hown hb hdrop hx hu2 h1 h2 h3 HS HBA
          go_wp2_with fail
          clear p1 p2
          generalize wr.alloc (.cells #[.int .i64 (a : Int), .int .i64 (b3 : Int)] 32) = wa at *
          refine Calls.mono (cut_fresh HUa.out.gr HOKL.out (by omega) (Nat.le_trans HL13.out.size HUa.out.size) haM hbM) ?_
          rintro e w7 ⟨rfl, hU⟩
          obtain ⟨F7, hU7⟩ := HUa.out.upd (Nat.le_refl _) hU
          have HU7 := Lib.hid hU7
          have HF7 : Hid (Fr (Gs w.heap.size w1.heap.size w3.heap.size) w6 w7) := Lib.hid (by
            obtain ⟨F', z1, z2, z3⟩ := hU
            exact HFa.out.trans z2 (fun j _ hj => HUa.out.sub j hj))
          have a5 : w7.cell? ⟨wr.heap.size, 0, none⟩ = some (.int .i64 (a : Int)) := by
            obtain ⟨F', z1, z2, z3⟩ := hU
            exact Blk.at_ ((z2.block _ HBX.out.lt (fun e => Nat.lt_irrefl _ e.2)).trans HBX.out) 0 rfl
          have a6 : w7.cell? ⟨wr.heap.size, 1, none⟩ = some (.int .i64 (b3 : Int)) := by
            obtain ⟨F', z1, z2, z3⟩ := hU
            exact Blk.at_ ((z2.block _ HBX.out.lt (fun e => Nat.lt_irrefl _ e.2)).trans HBX.out) 1 rfl
          rw [HC1.out]
          clear HUa HFa hU hU7 HOKL HC1 a3 a4
          go_wp2_with fail
          refine Calls.mono (has_c HU7.out.gr HC2.out.ok (by omega) (a : Int) (b3 : Int) false HC3.out) ?_
          rintro e w8 ⟨rfl, B8⟩
          have HN : Hid (UG w.heap.size w1.heap.size w3.heap.size F7 w3 w8 g M (cutL L a b3) (.slice (some ⟨b, off, none⟩) mf cf) fl ∧ Und M L0 (cutL L a b3) (fl.drop (k + 1)) ∧ Fr (Gs w.heap.size w1.heap.size w3.heap.size) w6 w8) := Lib.hid ⟨HU7.out.below B8, HC2.out, HF7.out.trans (Fr.of_below (F := fun _ => False) B8) (fun _ _ e => e.elim)⟩
          clear HU7 HC2 HC3 HF7 B8 a5 a6 HBX
          go_wp2_with fail
          go_roundw
          case rel => exact ⟨k + 1, _, _, by omega, by go_num, HN⟩
          case measure => simp [intOf]; omega
        · have hL : Und M L0 L [] := by
            have h := HS.out.2.1
            rw [List.drop_of_length_le (by have := HMF.out; omega)] at h
            exact h
          have hL := hL.done HOK.out
          subst hL
          have HG := Lib.hid HS.out.1.gr
          have HLW := Lib.hid (HS.out.1.low HL13.out (Nat.le_refl _) (by have := HS1.out; omega))
          have HOr7 := Lib.hid (own_keep HOr6.out (fun p hp => HS.out.2.2.block p (by obtain ⟨_, cs, hb⟩ := own_row HOr6.out hp; exact hb.lt) (fun e => by
            have h1 := (own_row HOr6.out hp).1
            have h2 : p < w2.heap.size := by obtain ⟨_, cs, hb⟩ := own_row HO2'.out hp; exact hb.lt
            have h3 := HS1.out
            unfold Gs at e
            omega)))
          clear HS HOr6
          generalize hW7 : wr = w7 at *
          clear hW7
          go_wp2_with fail
          go_loopw [122] (fun i wr => ∃ k : Nat, k ≤ M ∧ i = .int .i64 k ∧ Hid (Below w7.heap.size w7 wr)) (fun i _ => M - (intOf i).toNat)
          case atStart => exact ⟨0, Nat.zero_le _, rfl, Lib.hid (Below.refl _ _)⟩
          case round =>
            obtain ⟨v, hv, rfl, HB⟩ := hrel
            by_cases hlt3 : v < M
            · have i1 : (0 : Int) ≤ (v : Int) := by omega
              have i2 : (v : Int) < (M : Int) := by omega
              obtain ⟨mo, hmo⟩ : ∃ m, m = (outs L v).length := ⟨_, rfl⟩
              obtain ⟨mi, hmi⟩ : ∃ m, m = (intos L v).length := ⟨_, rfl⟩
              have hmo3 : mo ≤ M := by rw [hmo]; exact HOK.out.many (2 * v)
              have hmi3 : mi ≤ M := by rw [hmi]; exact HOK.out.many (2 * v + 1)
              have HMO := Lib.hid hmo
              have HMI := Lib.hid hmi
              clear hmo hmi
              go_wp2_with fail
              refine Calls.mono (out_c (HG.out.below HB.out) (HOK.out.rises (by omega)) (v : Int) _ (outE_nat hlt3) mo HMO.out) ?_
              rintro e w8 ⟨Ao, co, rfl, O8, B8⟩
              have HB8 := Lib.hid (HB.out.trans (B8.mono HB.out.size))
              have HR8 := Lib.hid ((RowW.of_own O8).more HB.out.size)
              clear O8 B8 HB
              go_wp2_with fail
              refine Calls.mono (into_c (HG.out.below HB8.out) (HOK.out.rises (by omega)) (v : Int) _ (intoE_nat hlt3) mi HMI.out) ?_
              rintro e w9 ⟨Ai, ci, rfl, O9, B9⟩
              have HB9 := Lib.hid (HB8.out.trans (B9.mono HB8.out.size))
              have HR9 := Lib.hid (HR8.out.below B9)
              have HI9 := Lib.hid ((RowW.of_own O9).more HB8.out.size)
              clear O9 B9 HB8 HR8
              have HS0 : Hid (Below w7.heap.size w7 (w9.alloc (.cells #[.slice Ao mo co, .slice Ai mi ci] 27)) ∧ RowW w7.heap.size (w9.alloc (.cells #[.slice Ao mo co, .slice Ai mi ci] 27)) (.slice Ao mo co) mo ∧ RowW w7.heap.size (w9.alloc (.cells #[.slice Ao mo co, .slice Ai mi ci] 27)) (.slice Ai mi ci) mi ∧ Blk (w9.alloc (.cells #[.slice Ao mo co, .slice Ai mi ci] 27)) w9.heap.size 27 #[.slice Ao mo co, .slice Ai mi ci]) := Lib.hid ⟨HB9.out.alloc HB9.out.size _, HR9.out.below ((Below.refl _ w9).alloc (Nat.le_refl _) _), HI9.out.below ((Below.refl _ w9).alloc (Nat.le_refl _) _), Blk.new_ w9 _ _ rfl⟩
              clear HB9 HR9 HI9
              go_wp2_with fail
              go_loopw [133] (fun i wr => ∃ j : Nat, j ≤ 2 ∧ i = .int .i64 j ∧ Hid (Below w7.heap.size w7 wr ∧ RowW w7.heap.size wr (.slice Ao mo co) mo ∧ RowW w7.heap.size wr (.slice Ai mi ci) mi ∧ Blk wr w9.heap.size 27 #[.slice Ao mo co, .slice Ai mi ci])) (fun i _ => 2 - (intOf i).toNat)
              case atStart => exact ⟨0, by omega, rfl, HS0⟩
              case round =>
                obtain ⟨j, hj, rfl, HS⟩ := hrel
                clear HS0
                by_cases hlt4 : j < 2
                · obtain ⟨Ar, mr, cr, hc, hr, hmr⟩ : ∃ Ar mr cr, wr.cell? ⟨w9.heap.size, j, none⟩ = some (.slice Ar mr cr) ∧ (∀ W, RowW w7.heap.size W (.slice Ao mo co) mo → RowW w7.heap.size W (.slice Ai mi ci) mi → RowW w7.heap.size W (.slice Ar mr cr) mr) ∧ mr ≤ M := by
                    have : j = 0 ∨ j = 1 := by omega
                    rcases this with rfl | rfl
                    · exact ⟨Ao, mo, co, HS.out.2.2.2.at_ 0 rfl, fun W h1 h2 => h1, hmo3⟩
                    · exact ⟨Ai, mi, ci, HS.out.2.2.2.at_ 1 rfl, fun W h1 h2 => h2, hmi3⟩
                  have HRR := Lib.hid hr
                  have j1 : (0 : Int) ≤ (j : Int) := by omega
                  have j2 : (j : Int) < 2 := by omega
                  have HS2 := Lib.hid HS.out
                  clear hr HS
                  go_wp2_with fail
                  clear hc
                  go_loopw [139] (fun i wr => ∃ k : Nat, k ≤ mr ∧ i = .int .i64 k ∧ Hid (Below w7.heap.size w7 wr ∧ RowW w7.heap.size wr (.slice Ao mo co) mo ∧ RowW w7.heap.size wr (.slice Ai mi ci) mi ∧ Blk wr w9.heap.size 27 #[.slice Ao mo co, .slice Ai mi ci])) (fun i _ => mr - (intOf i).toNat)
                  case atStart => exact ⟨0, Nat.zero_le _, rfl, HS2⟩
                  case round =>
                    obtain ⟨k, hk, rfl, HS⟩ := hrel
                    clear HS2
                    by_cases hlt5 : k < mr
                    · obtain ⟨A5, c5, e5, h0 | ⟨b5, cur5, rfl, hB5, hb5, hm5⟩⟩ := HRR.out wr HS.out.2.1 HS.out.2.2.1
                      · omega
                      · simp only [Value.slice.injEq, true_and] at e5
                        obtain ⟨rfl, rfl⟩ := e5
                        have k1 : (0 : Int) ≤ (k : Int) := by omega
                        have k2 : (k : Int) < (mr : Int) := by omega
                        have hcl : wr.cell? ⟨b5, k, none⟩ = some cur5[k] := (hb5.cell k).trans (Array.getElem?_eq_getElem (by omega))
                        have hz : wr.frozen? ⟨b5, k, none⟩ = false := hb5.frozen k
                        generalize cur5[k] = uu at *
                        have HN : Hid (Below w7.heap.size w7 (wr.setCell ⟨b5, k, none⟩ (.int .i64 99)) ∧ RowW w7.heap.size (wr.setCell ⟨b5, k, none⟩ (.int .i64 99)) (.slice Ao mo co) mo ∧ RowW w7.heap.size (wr.setCell ⟨b5, k, none⟩ (.int .i64 99)) (.slice Ai mi ci) mi ∧ Blk (wr.setCell ⟨b5, k, none⟩ (.int .i64 99)) w9.heap.size 27 #[.slice Ao mo co, .slice Ai mi ci]) := Lib.hid ⟨HS.out.1.setCell hB5 _, HS.out.2.1.set_ _ _ _, HS.out.2.2.1.set_ _ _ _, HS.out.2.2.2.farN (HS.out.2.2.2.ne_ hb5 (by decide)) _⟩
                        clear HS hb5 hm5 hB5
                        go_wp2_with fail
                        go_roundw
                        case rel => exact ⟨k + 1, by omega, by go_num, HN⟩
                        case measure => simp [intOf]; omega
                    · have HN := Lib.hid HS.out
                      clear HS
                      go_wp2_with fail
                      go_roundw
                      case rel => exact ⟨j + 1, by omega, by go_num, HN⟩
                      case measure => simp [intOf]; omega
                · have HN := Lib.hid HS.out.1
                  clear HS
                  go_wp2_with fail
                  go_roundw
                  case rel => exact ⟨v + 1, by omega, by go_num, HN⟩
                  case measure => simp [intOf]; omega
            · have HG8 := Lib.hid (HG.out.below HB.out)
              have HL8 := Lib.hid (HLW.out.trans (HB.out.mono HLW.out.size))
              have HO8 := Lib.hid (own_belowW HOr7.out HB.out)
              clear HB HG HLW HOr7
              go_wp2_with fail
              refine Calls.mono (edges_any wr _ g M _ L HG8.out (HOK.out.rises (by omega)) (by omega)) ?_
              rintro e w5 ⟨Ah, ch, rfl, B5, O5⟩
              rw [← HQ.out] at O5 ⊢
              have HL9 := Lib.hid (HL8.out.trans (B5.mono HL8.out.size))
              have HO9 := Lib.hid (own_belowW HO8.out B5)
              have HO5 := Lib.hid O5
              clear HG8 HL8 HO8 B5 O5
              go_wp2_with fail
              refine Calls.mono (same_own HO5.out HO9.out) ?_
              rintro e w6 ⟨rfl, B6⟩
              have HL10 := Lib.hid (HL9.out.trans (B6.mono HL9.out.size))
              clear HL9 HO9 HO5 B6
              rw [decide_eq_true (show edgesTo L M = edgesTo L M from rfl)]
              go_wp2_with fail
              refine Calls.mono (awake_any w6) ?_
              rintro e w9 ⟨rfl, B9⟩
              have HL11 := Lib.hid (HL10.out.trans (B9.mono HL10.out.size))
              clear HL10 B9
              go_wp2_with fail
              go_ret
              exact ⟨rfl, HL11.out⟩
end Go.Proofs.Ytclbpohhmaojcaa.GrW
