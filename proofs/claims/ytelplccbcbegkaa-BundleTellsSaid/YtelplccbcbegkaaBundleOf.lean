/-
  An order with some edges; edges between so many vertices.
-/
import Derived.Test.YtelplccbcbegkaaBundleCycle
namespace Go.Proofs.Ytelplccbcbegkaa.OrW
set_option linter.unusedVariables false
open Go Go.RowKit Go.Proofs Go.Proofs.Ytelplccbcbegkaa Go.Proofs.Ytelplccbcbegkaa.Wd Go.Proofs.Ytelplccbcbegkaa.GrW Go.Proofs.Ytelplccbcbegkaa.Ord
open Go.Proofs.Ytelplccbcbegkaa.Gr (OK putL outs intos Path edgesTo ev)

/-- What 'of' answers. -/
def OfOut (w : World) (M : Nat) (e : Ending) (w' : World) : Prop := ∃ o, e = .returned (.tuple #[.pointer (some ⟨o, 0, none⟩), .int .i64 (M : Nat), .bool true]) ∧ On w w' o M
set_option maxRecDepth 100000 in
set_option maxHeartbeats 8000000 in
theorem ofB_any (nb : Nat) (hnb : nb < 256) (A : Option Addr) (c : Nat) (l : List (Int × Int)) (n : Nat) (hn : n = l.length) (hnc : n ≤ c) (hcm : c ≤ maxLen) (w : World) (hI : EdgesAt w w.heap.size A l) :
    Calls Try.prog 9 #[.int .u8 nb, .slice A n c] w (OfOut w (2 + nb % 30)) := by
  unfold maxLen at hcm
  obtain ⟨c0, hc0⟩ : ∃ c0, c0 = nb % 30 := ⟨_, rfl⟩
  obtain ⟨M, hM⟩ : ∃ M, M = 2 + nb % 30 := ⟨_, rfl⟩
  have hM2 : M = 2 + c0 := by omega
  have t0 : (nb : Int).tmod 30 = (c0 : Int) := by rw [Int.tmod_eq_emod_of_nonneg (Int.natCast_nonneg _)]; omega
  have wa : wrap64 (c0 : Int) = c0 := IntWalk.wrap64_in _ (by omega)
  have ha : 2 + (c0 : Int) = (M : Int) := by omega
  have hM31 : M ≤ 31 := by rw [hM]; exact Nat.add_le_add_left (Nat.le_of_lt_succ (Nat.mod_lt nb (by decide))) 2
  have hM1 : 2 ≤ M := by rw [hM]; exact Nat.le_add_right 2 _
  obtain ⟨m, hm⟩ : ∃ m, m = min n 60 := ⟨_, rfl⟩
  have HMM := Lib.hid hm
  have hmc : (m : Int) ≤ (c : Int) := by omega
  have hm80 : m ≤ 60 := by omega
  have hmn : m ≤ n := by omega
  have HNL := Lib.hid hn
  have HI := Lib.hid hI
  have HMQ := Lib.hid hM
  clear hm hc0 hM hM2 hn hI
  have HFO : Hid (∀ o w', On w w' o M → OfOut w (2 + nb % 30) (.returned (.tuple #[.pointer (some ⟨o, 0, none⟩), .int .i64 (M : Nat), .bool true])) w') := Lib.hid (fun o w' h => by rw [← HMQ.out]; exact ⟨o, rfl, h⟩)
  have HNW := Lib.hid (newO_any (M : Int) w)
  go_enter Try.func9, Try.ntmps9
  go_wp2_with fail
  refine Calls.mono HNW.out ?_
  intro e w1 h1
  obtain ⟨o, rfl, h2⟩ := On.new_ (by omega) h1
  have HO1 := Lib.hid h2
  clear HNW h1 h2 t0 wa ha
  go_upto_region 5 with fail
  go_cut [27, 28, 29] (fun v29 v30 v31 wx => v29 = .slice A m c ∧ v30 = .int .i64 (m : Int) ∧ v31 = .int .i64 0 ∧ wx = w1)
  case first =>
    have hm := HMM.out
    go_wp2_with fail
    go_meet
    have e1 : (min (n : Int) 60).toNat = m := by omega
    have e2 : max (min (n : Int) 60) 0 = (m : Int) := by omega
    exact ⟨by rw [e1], by rw [e2], rfl, rfl⟩
  case rest =>
  obtain ⟨rfl, rfl, rfl, hwc⟩ := hcut
  have hwc := hwc.symm
  subst hwc
  go_wp2_with fail
  go_loopw [29] (fun ix wr => ∃ i : Nat, i ≤ m ∧ ix = .int .i64 i ∧ Hid (On w wr o M)) (fun ix _ => m - (intOf ix).toNat)
  case atStart => exact ⟨0, Nat.zero_le _, rfl, HO1⟩
  case round =>
    obtain ⟨i, hi, rfl, HS⟩ := hrel
    clear HO1
    by_cases hlt : i < m
    · have hil : i < l.length := by have := HNL.out; omega
      obtain ⟨b, off, rfl, hb, p1, p2⟩ := HI.out i hil
      obtain ⟨F1, L, P, A, hBo, hSt⟩ := HS.out
      have q1 := (hBo.low.cell (p := ⟨b, _, none⟩) hb).trans p1
      have q2 := (hBo.low.cell (p := ⟨b, _, none⟩) hb).trans p2
      have HBo := Lib.hid hBo
      have HSt := Lib.hid hSt
      generalize l[i] = x at *
      obtain ⟨xf, xt⟩ := x
      have i1 : (0 : Int) ≤ (i : Int) := by omega
      have i2 : (i : Int) < (m : Int) := by omega
      have HLT := Lib.hid hlt
      obtain ⟨u, hu1, hu⟩ := mod_nat xf M (by omega)
      obtain ⟨v, hv1, hv⟩ := mod_nat xt M (by omega)
      have HU := Lib.hid hu1
      have HV := Lib.hid hv1
      clear p1 p2 hb hBo hSt HS hu1 hv1
      have HA : Hid (Below wr.heap.size wr (wr.alloc (.cells #[.int .i64 xf, .int .i64 xt] 34))) := Lib.hid ((Below.refl _ wr).alloc (Nat.le_refl _) _)
      have HBX := Lib.hid (Blk.new_ wr 34 #[.int .i64 xf, .int .i64 xt] rfl)
      have HBo2 := Lib.hid (HBo.out.below (HA.out.drew))
      go_wp2_with fail
      clear q1 q2
      have hS : (wr.alloc (.cells #[.int .i64 xf, .int .i64 xt] 34)).drew.cell? ⟨wr.heap.size, 0, none⟩ = some (.int .i64 xf) ∧ (wr.alloc (.cells #[.int .i64 xf, .int .i64 xt] 34)).drew.cell? ⟨wr.heap.size, 1, none⟩ = some (.int .i64 xt) := ⟨HBX.out.at_ 0 rfl, HBX.out.at_ 1 rfl⟩
      refine wp_region_heldG [4, 8] (fun cc W => (cc 4 = true ∧ cc 8 = true) ∨ (W.cell? ⟨wr.heap.size, 0, none⟩ = some (.int .i64 xf) ∧ W.cell? ⟨wr.heap.size, 1, none⟩ = some (.int .i64 xt))) (by kernel_rfl) ?_
      change wpAnyG _ _ _ _ _ _ 10 _ _ (wr.alloc (.cells #[.int .i64 xf, .int .i64 xt] 34)).drew
      generalize (wr.alloc (.cells #[.int .i64 xf, .int .i64 xt] 34)).drew = wa at *
      refine g_take (i := 0) rfl rfl (by kernel_rfl) (by kernel_rfl) (by kernel_rfl) (by kernel_rfl) (by kernel_rfl) (fun _ _ _ h => h) (.inr hS) (fun L' W' hL hW => by go_simp; rfl) ?_
      refine g_take (i := 1) rfl rfl (by kernel_rfl) (by kernel_rfl) (by kernel_rfl) (by kernel_rfl) (by kernel_rfl) (fun _ _ _ h => h) (.inr hS) (fun L' W' hL hW => by go_simp; rfl) ?_
      refine g_take (i := 2) rfl rfl (by kernel_rfl) (by kernel_rfl) (by kernel_rfl) (by kernel_rfl) (by kernel_rfl) (fun _ _ _ h => h) (.inr hS) (fun L' W' hL hW => by obtain ⟨k0, k1⟩ := hW.resolve_left (by simp [came, hL 4 (by kernel_rfl)]); go_simp; rfl) ?_
      refine g_take (i := 3) rfl rfl (by kernel_rfl) (by kernel_rfl) (by kernel_rfl) (by kernel_rfl) (by kernel_rfl) (fun _ _ _ h => h) (.inr hS) (fun L' W' hL hW => by go_simp; rfl) ?_
      refine g_take (i := 5) rfl rfl (by kernel_rfl) (by kernel_rfl) (by kernel_rfl) (by kernel_rfl) (by kernel_rfl) (fun _ _ _ h => h) (.inr hS) (fun L' W' hL hW => by go_simp; rfl) ?_
      refine g_take (i := 6) rfl rfl (by kernel_rfl) (by kernel_rfl) (by kernel_rfl) (by kernel_rfl) (by kernel_rfl) (fun _ _ _ h => h) (.inr hS) (fun L' W' hL hW => by obtain ⟨k0, k1⟩ := hW.resolve_left (by simp [came, hL 8 (by kernel_rfl)]); go_simp; rfl) ?_
      refine g_take (i := 7) rfl rfl (by kernel_rfl) (by kernel_rfl) (by kernel_rfl) (by kernel_rfl) (by kernel_rfl) (fun _ _ _ h => h) (.inr hS) (fun L' W' hL hW => by go_simp; rfl) ?_
      refine g_one (i := 4) rfl rfl (by kernel_rfl) fun K' hK => ?_
      go_simp
      refine Calls.mono (among_any xf M (by omega) (by omega) wa) ?_
      rintro e w' ⟨rfl, rfl⟩
      rw [HU.out]
      refine hK _ _ (.inr hS) ?_
      clear hK K'
      refine g_one (i := 8) rfl rfl (by kernel_rfl) fun K' hK => ?_
      go_simp
      refine Calls.mono (among_any xt M (by omega) (by omega) wa) ?_
      rintro e w' ⟨rfl, rfl⟩
      rw [HV.out]
      refine hK _ _ (.inr hS) ?_
      clear hK K'
      refine g_one (i := 9) rfl rfl (by kernel_rfl) fun K' hK => ?_
      go_simp
      refine Calls.mono (putOS_any HBo2.out.ord HSt.out (by omega) u v hu hv) ?_
      rintro e w4 ⟨ch, kc, L', P', A', rfl, hP1, hU4⟩
      obtain ⟨F1', hB4, -, -⟩ := HBo2.out.upd hU4
      have HN : Hid (On w w4 o M) := Lib.hid ⟨_, _, _, _, hB4, hP1.st HSt.out hu hv⟩
      refine hK _ _ (.inl (by simp [came])) ?_
      clear hK K' hP1 hU4 hB4
      refine wpAnyG_done (by kernel_rfl) ?_ _
      clear hS HBX HA HBo HBo2
      go_simp
      go_wp2_with fail
      go_roundw
      case rel => exact ⟨i + 1, by have := HLT.out; omega, by go_num, HN⟩
      case measure => simp [intOf]; have := HLT.out; omega
    · have i2 : ¬ (i : Int) < (m : Int) := by omega
      have HF := Lib.hid (HFO.out o wr HS.out)
      clear HS
      go_wp2_with fail
      go_ret3
      exact HF.out
/-- The first 40 edges, between so many vertices. -/
def withinL (n : Nat) (l : List (Int × Int)) : List (Int × Int) := (l.take 40).map fun x => (x.1 % (n : Int), x.2 % (n : Int))
theorem withinL_len (n : Nat) (l : List (Int × Int)) : (withinL n l).length ≤ 40 := by unfold withinL; simp; omega
theorem withinL_each {n : Nat} (hn : 0 < n) (l : List (Int × Int)) : ∀ x ∈ withinL n l, ∃ a b : Nat, a < n ∧ b < n ∧ x = ((a : Int), (b : Int)) := fun x hx => by
  unfold withinL at hx
  obtain ⟨y, -, rfl⟩ := List.mem_map.1 hx
  obtain ⟨a, h1, h2⟩ := mod_nat y.1 n hn
  obtain ⟨b, h3, h4⟩ := mod_nat y.2 n hn
  exact ⟨a, b, h2, h4, by rw [h1, h3]⟩
theorem withinL_snoc {n : Nat} {l : List (Int × Int)} {i : Nat} (hi : i < l.length) (h40 : i < 40) : ((l.take (i + 1)).map fun x => (x.1 % (n : Int), x.2 % (n : Int))) = ((l.take i).map fun x => (x.1 % (n : Int), x.2 % (n : Int))) ++ [(l[i].1 % (n : Int), l[i].2 % (n : Int))] := by
  rw [List.take_succ_eq_append_getElem hi, List.map_append]; rfl
set_option maxRecDepth 100000 in
set_option maxHeartbeats 8000000 in
theorem within_any (A : Option Addr) (c : Nat) (l : List (Int × Int)) (n : Nat) (hn : n = l.length) (hnc : n ≤ c) (hcm : c ≤ maxLen) (M : Nat) (hM : 0 < M) (hM3 : M ≤ 30000) (w : World) (hI : EdgesAt w w.heap.size A l) :
    Calls Try.prog 10 #[.slice A n c, .int .i64 (M : Nat)] w (EdgesOut w (withinL M l)) := by
  unfold maxLen at hcm
  obtain ⟨m, hm⟩ : ∃ m, m = min n 40 := ⟨_, rfl⟩
  have HMM := Lib.hid hm
  have hmc : (m : Int) ≤ (c : Int) := by omega
  have hm40 : m ≤ 40 := by omega
  have hmn : m ≤ n := by omega
  have HNL := Lib.hid hn
  have HI := Lib.hid hI
  have HFO : Hid (withinL M l = (l.take m).map fun x => (x.1 % (M : Int), x.2 % (M : Int))) := Lib.hid (by
    unfold withinL
    congr 1
    rw [hm]
    by_cases h : n ≤ 40
    · rw [Nat.min_eq_left h, List.take_of_length_le (by omega), List.take_of_length_le (by omega)]
    · rw [Nat.min_eq_right (by omega)])
  obtain ⟨i0, hi0, hz0, hz1, hz2⟩ := info_parts infoEdge
  clear hm hn hI
  go_enter Try.func10, Try.ntmps10
  go_upto_region 2 with fail
  go_cut [12, 13, 14] (fun v29 v30 v31 wx => v29 = .slice A m c ∧ v30 = .int .i64 (m : Int) ∧ v31 = .int .i64 0 ∧ wx = w)
  case first =>
    have hm := HMM.out
    go_wp2_with fail
    go_meet
    have e1 : (min (n : Int) 40).toNat = m := by omega
    have e2 : max (min (n : Int) 40) 0 = (m : Int) := by omega
    exact ⟨by rw [e1], by rw [e2], rfl, rfl⟩
  case rest =>
  obtain ⟨rfl, rfl, rfl, hwc⟩ := hcut
  have hwc := hwc.symm
  subst hwc
  go_wp2_with fail
  go_loopw [5, 14] (fun v ix wr => ∃ i : Nat, i ≤ m ∧ ix = .int .i64 i ∧ Hid (Below w.heap.size w wr ∧ wr.ownsRow w.heap.size 34 2 v i (ev ((l.take i).map fun x => (x.1 % (M : Int), x.2 % (M : Int)))))) (fun _ ix _ => m - (intOf ix).toNat)
  case atStart => exact ⟨0, Nat.zero_le _, rfl, Lib.hid ⟨Below.refl _ _, World.ownsRow_nil _ _ _ _⟩⟩
  case round =>
    obtain ⟨i, hi, rfl, HS⟩ := hrel
    by_cases hlt : i < m
    · have hil : i < l.length := by have := HNL.out; omega
      obtain ⟨b, off, rfl, hb, p1, p2⟩ := HI.out i hil
      have q1 := (HS.out.1.cell (p := ⟨b, _, none⟩) hb).trans p1
      have q2 := (HS.out.1.cell (p := ⟨b, _, none⟩) hb).trans p2
      have HSN := Lib.hid (withinL_snoc (n := M) hil (by omega))
      generalize l[i] = x at *
      obtain ⟨xf, xt⟩ := x
      have i1 : (0 : Int) ≤ (i : Int) := by omega
      have i2 : (i : Int) < (m : Int) := by omega
      have HLT := Lib.hid hlt
      obtain ⟨u, hu1, hu⟩ := mod_nat xf M (by omega)
      obtain ⟨v, hv1, hv⟩ := mod_nat xt M (by omega)
      have HU := Lib.hid hu1
      have HV := Lib.hid hv1
      have HLOW := Lib.hid HS.out.1
      have HROW := Lib.hid HS.out.2
      clear p1 p2 hb HS hu1 hv1 hil
      have HA : Hid (Below wr.heap.size wr (wr.alloc (.cells #[.int .i64 xf, .int .i64 xt] 34))) := Lib.hid ((Below.refl _ wr).alloc (Nat.le_refl _) _)
      have HBX := Lib.hid (Blk.new_ wr 34 #[.int .i64 xf, .int .i64 xt] rfl)
      obtain ⟨A5, c5, hv5⟩ := own_form HROW.out
      subst hv5
      go_wp2_with fail
      clear q1 q2
      have hS : (wr.alloc (.cells #[.int .i64 xf, .int .i64 xt] 34)).drew.cell? ⟨wr.heap.size, 0, none⟩ = some (.int .i64 xf) ∧ (wr.alloc (.cells #[.int .i64 xf, .int .i64 xt] 34)).drew.cell? ⟨wr.heap.size, 1, none⟩ = some (.int .i64 xt) := ⟨HBX.out.at_ 0 rfl, HBX.out.at_ 1 rfl⟩
      refine wp_region_heldG [4, 8] (fun cc W => (cc 4 = true ∧ cc 8 = true) ∨ (W.cell? ⟨wr.heap.size, 0, none⟩ = some (.int .i64 xf) ∧ W.cell? ⟨wr.heap.size, 1, none⟩ = some (.int .i64 xt))) (by kernel_rfl) ?_
      change wpAnyG _ _ _ _ _ _ 13 _ _ (wr.alloc (.cells #[.int .i64 xf, .int .i64 xt] 34)).drew
      refine g_take (i := 0) rfl rfl (by kernel_rfl) (by kernel_rfl) (by kernel_rfl) (by kernel_rfl) (by kernel_rfl) (fun _ _ _ h => h) (.inr hS) (fun L' W' hL hW => by go_simp; rfl) ?_
      refine g_take (i := 1) rfl rfl (by kernel_rfl) (by kernel_rfl) (by kernel_rfl) (by kernel_rfl) (by kernel_rfl) (fun _ _ _ h => h) (.inr hS) (fun L' W' hL hW => by go_simp; rfl) ?_
      refine g_take (i := 2) rfl rfl (by kernel_rfl) (by kernel_rfl) (by kernel_rfl) (by kernel_rfl) (by kernel_rfl) (fun _ _ _ h => h) (.inr hS) (fun L' W' hL hW => by obtain ⟨k0, k1⟩ := hW.resolve_left (by simp [came, hL 4 (by kernel_rfl)]); go_simp; rfl) ?_
      refine g_take (i := 3) rfl rfl (by kernel_rfl) (by kernel_rfl) (by kernel_rfl) (by kernel_rfl) (by kernel_rfl) (fun _ _ _ h => h) (.inr hS) (fun L' W' hL hW => by go_simp; rfl) ?_
      refine g_take (i := 5) rfl rfl (by kernel_rfl) (by kernel_rfl) (by kernel_rfl) (by kernel_rfl) (by kernel_rfl) (fun _ _ _ h => h) (.inr hS) (fun L' W' hL hW => by go_simp; rfl) ?_
      refine g_take (i := 6) rfl rfl (by kernel_rfl) (by kernel_rfl) (by kernel_rfl) (by kernel_rfl) (by kernel_rfl) (fun _ _ _ h => h) (.inr hS) (fun L' W' hL hW => by obtain ⟨k0, k1⟩ := hW.resolve_left (by simp [came, hL 8 (by kernel_rfl)]); go_simp; rfl) ?_
      refine g_take (i := 7) rfl rfl (by kernel_rfl) (by kernel_rfl) (by kernel_rfl) (by kernel_rfl) (by kernel_rfl) (fun _ _ _ h => h) (.inr hS) (fun L' W' hL hW => by go_simp; rfl) ?_
      refine g_one (i := 4) rfl rfl (by kernel_rfl) fun K' hK => ?_
      go_simp
      refine Calls.mono (among_any xf M (by omega) (by omega) _) ?_
      rintro e w' ⟨rfl, rfl⟩
      rw [HU.out]
      refine hK _ _ (.inr hS) ?_
      clear hK K'
      refine g_one (i := 8) rfl rfl (by kernel_rfl) fun K' hK => ?_
      go_simp
      refine Calls.mono (among_any xt M (by omega) (by omega) _) ?_
      rintro e w' ⟨rfl, rfl⟩
      rw [HV.out]
      refine hK _ _ (.inr hS) ?_
      clear hK K'
      refine g_one (i := 9) rfl rfl (by kernel_rfl) fun K' hK => ?_
      go_simp
      refine hK _ _ (.inr hS) ?_
      clear hK K'
      refine g_one (i := 10) rfl rfl (by kernel_rfl) fun K' hK => ?_
      go_simp
      refine hK _ _ (.inl (by simp [came])) ?_
      clear hK K'
      refine g_one (i := 11) rfl rfl (by kernel_rfl) fun K' hK => ?_
      have hnew := heap_alloc_new (wr.alloc (.cells #[.int .i64 xf, .int .i64 xt] 34)) (.cells #[.int .i64 (u : Nat), .int .i64 (v : Nat)] 34)
      rw [show (wr.alloc (.cells #[.int .i64 xf, .int .i64 xt] 34)).heap.size = wr.heap.size + 1 by simp] at hnew
      have hlw := HLOW.out.size
      refine wp_append_own _ (.tmp 18) (.tmp 28) 22 rfl w.heap.size 34 i0 _ 2 16 Try.underlying22 hi0 hz0 hz1 hz2 rfl (by omega) _ i _ rfl ((HROW.out.alloc (.cells #[.int .i64 xf, .int .i64 xt] 34)).alloc (.cells #[.int .i64 (u : Nat), .int .i64 (v : Nat)] 34)) ⟨wr.heap.size + 1, 0, none⟩ 1 1 [.int .i64 (u : Nat), .int .i64 (v : Nat)] rfl rfl (World.news_of_block hnew) (by intro u hu; simp at hu; rcases hu with rfl | rfl <;> rfl) (by unfold maxLen; omega) (by omega) (by simp; omega) ?_
      intro v4 w4 ho4 hg4 _
      go_simp
      refine hK _ _ (.inl (by simp [came])) ?_
      clear hK K' hnew
      refine g_take (i := 12) rfl rfl (by kernel_rfl) (by kernel_rfl) (by kernel_rfl) (by kernel_rfl) (by kernel_rfl) (fun _ _ _ h => h) (.inl (by simp [came])) (fun L' W' hL hW => by go_simp; rfl) ?_
      refine wpAnyG_done (by kernel_rfl) ?_ _
      have HN : Hid (Below w.heap.size w w4 ∧ w4.ownsRow w.heap.size 34 2 v4 (i + 1) (ev ((l.take (i + 1)).map fun x => (x.1 % (M : Int), x.2 % (M : Int))))) := Lib.hid (by
        refine ⟨(((HLOW.out.alloc HLOW.out.size _).alloc (by simp; omega) _).drew).grown hg4 (by simp; omega) (fun q hq => (own_row HROW.out hq).1), ?_⟩
        rw [HSN.out, Gr.ev_append]
        rw [HU.out, HV.out]
        exact ho4)
      clear ho4 hg4 HROW HLOW HSN hS HBX HA hlw
      go_simp
      go_wp2_with fail
      go_roundw
      case rel => exact ⟨i + 1, by have := HLT.out; omega, by go_num, HN⟩
      case measure => simp [intOf]; have := HLT.out; omega
    · obtain rfl : i = m := by omega
      obtain ⟨A5, c5, hv5⟩ := own_form HS.out.2
      subst hv5
      have hll : (withinL M l).length = i := by
        rw [HFO.out, List.length_map, List.length_take]
        have := HNL.out; omega
      have HF : Hid (EdgesOut w (withinL M l) (.returned (.slice A5 i c5)) wr) := Lib.hid (by
        refine ⟨A5, c5, by rw [hll], HS.out.1, ?_⟩
        rw [hll]
        have := HS.out.2
        rw [← HFO.out] at this
        exact this)
      clear HS hll
      go_wp2_with fail
      go_ret
      exact HF.out
end Go.Proofs.Ytelplccbcbegkaa.OrW
