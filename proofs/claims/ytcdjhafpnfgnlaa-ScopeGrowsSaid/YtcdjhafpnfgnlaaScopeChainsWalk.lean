/-
  The walk of ScopeChains.
-/
import Derived.Test.YtcdjhafpnfgnlaaScopeWalks11
import Derived.Test.YtcdjhafpnfgnlaaScopeArg
import Derived.Test.YtcdjhafpnfgnlaaScopeWalks9
namespace Go.Proofs.Ytcdjhafpnfgnlaa.ScW
set_option linter.unusedVariables false
open Go.RowKit Go.Shelf Go.Proofs Go.Proofs.Ytcdjhafpnfgnlaa Go.Proofs.Ytcdjhafpnfgnlaa.Wd
open Go.Proofs.Ytcdjhafpnfgnlaa.Sc (N own flow rightAt right chain place chainI deep over below owned)

theorem own_base_le {ns : List N} (hr : right ns = true) {i : Nat} (hi : i < ns.length) (h : chain ns i = []) : own ns i = -1 := by
  obtain ⟨h1, h2, _⟩ := Sc.right_at hr hi
  rcases Int.lt_or_le (own ns i) 0 with h0 | h0
  · omega
  · rw [Sc.chain_some h0 h2] at h; cases h
/-- One step up a chain. -/
theorem chain_step {ns : List N} (hr : right ns = true) {i la p : Nat} (hla : la < ns.length) (hd : (chain ns i).drop p = chain ns la) (hp : p < (chain ns i).length) :
    own ns la = ((chain ns i)[p] : Nat) ∧ (chain ns i)[p] < la ∧ flow ns (chain ns i)[p] = flow ns la ∧ (chain ns i).drop (p + 1) = chain ns (chain ns i)[p] ∧ ((deep ns ((chain ns i)[p] : Nat) : Nat) : Int) = ((chain ns i).length : Int) - p := by
  have h := List.drop_eq_getElem_cons hp
  rw [hd] at h
  obtain ⟨h1, h2, h3⟩ := Sc.right_at hr hla
  rcases Int.lt_or_le (own ns la) 0 with h0 | h0
  · rw [Sc.chain_none h0] at h; cases h
  · rw [Sc.chain_some h0 h2] at h
    injection h with h4 h5
    have e : own ns la = ((chain ns i)[p] : Nat) := by omega
    have hlt : (chain ns i)[p] < la := by omega
    refine ⟨e, hlt, by rw [← h4]; exact h3 h0, by rw [← h5, h4], ?_⟩
    unfold deep
    rw [Sc.place_nat (by omega), if_pos rfl, Int.toNat_natCast, ← h4, h5, List.length_drop]
    omega
theorem deep_chain {ns : List N} {i : Nat} (hi : i < ns.length) : ((deep ns (i : Int) : Nat) : Int) = ((chain ns i).length : Int) + 1 := by
  unfold deep
  rw [Sc.place_nat hi, if_pos rfl, Int.toNat_natCast]; rfl
theorem chainI_nat {ns : List N} {i : Nat} (hi : i < ns.length) : chainI ns (i : Int) = chain ns i := by
  unfold chainI; rw [Sc.place_nat hi, if_pos rfl, Int.toNat_natCast]
theorem u8_of {x : Int} (h : (Lit.int .u8 x).wf = true) : ∃ a : Nat, x = a ∧ a < 256 := by
  have := bounds_u8 h
  exact ⟨x.toNat, by omega, by omega⟩
theorem tmod_lt (a n : Nat) (hn : 0 < n) : ∃ i : Nat, (a : Int).tmod (n : Int) = (i : Int) ∧ i < n :=
  ⟨a % n, by rw [Int.tmod_eq_emod_of_nonneg (Int.natCast_nonneg _)]; rfl, Nat.mod_lt _ hn⟩
theorem any_succ {α : Type} {l : List α} {p : Nat} (hp : p < l.length) (f : α → Bool) : (l.take (p + 1)).any f = ((l.take p).any f || f l[p]) := by
  rw [List.take_succ_eq_append_getElem hp, List.any_append]; simp

theorem below_any_in {ns : List N} {i k : Nat} (hi : i < ns.length) (hk : k < ns.length) : ((below ns (k : Int)).any fun o => decide (o = i)) = decide (k ∈ chain ns i) := by
  rw [below_all, Bool.eq_iff_iff, List.any_eq_true]
  simp only [decide_eq_true_eq]
  unfold fil
  constructor
  · rintro ⟨o, ho, rfl⟩
    have h := (List.mem_filter.1 ho).2
    rw [Sc.over_nat hi] at h
    exact of_decide_eq_true h
  · intro h
    exact ⟨i, List.mem_filter.2 ⟨List.mem_range.2 hi, by rw [Sc.over_nat hi]; exact decide_eq_true h⟩, rfl⟩

set_option maxRecDepth 100000 in
set_option maxHeartbeats 2000000 in
theorem chains_walk (A : Option Addr) (c : Nat) (l : List Int) (m : Nat) (hm : m = l.length) (hmc : m ≤ c) (hcm : c ≤ maxLen) (a b : Nat) (ha : a < 256) (hb : b < 256) (w : World) (hI : Nums w w.heap.size A l) :
    Calls Try.prog 7 #[.slice A m c, .int .u8 a, .int .u8 b] w fun e w' => e = .returned (.bool true) ∧ Below w.heap.size w w' := by
  unfold maxLen at hcm
  have HM := Lib.hid hm
  clear hm
  go_enter Try.func7, Try.ntmps7
  go_wp2_with fail
  refine Calls.mono (forest_any A c l m HM.out hmc (by unfold maxLen; exact hcm) w hI) ?_
  rintro e w1 ⟨A1, c1, ns, xs, rfl, h60, hr, hown, hNC, hb1⟩
  obtain ⟨-, hA1, hA2, hNN⟩ := own_nodes hown hNC
  obtain ⟨n, hn⟩ : ∃ n, n = ns.length := ⟨_, rfl⟩
  rw [← hn] at hA1 h60 ⊢
  have HN := Lib.hid hn
  have HR := Lib.hid hr
  have hnb : n ≤ 1000000000000 := by omega
  clear hown hNC hn hr hI
  have HND : Hid (∀ W, Below w1.heap.size w1 W → Nodes W W.heap.size A1 ns) := Lib.hid fun W hW => hNN.grow hW
  by_cases h0 : n = 0
  · subst h0
    have u0 : (((0 : Nat) : Int) == 0) = true := rfl
    have hC0 : Hid (toI (chainI ns 0) = []) := Lib.hid (by unfold chainI place; rw [← HN.out]; rfl)
    have hD0 : Hid (((deep ns 0 : Nat) : Int) = 0) := Lib.hid (by unfold deep place; rw [← HN.out]; rfl)
    go_wp2_with fail
    refine Calls.mono (chain_any A1 c1 ns 0 HN.out hA1 hnb HR.out 0 w1 hNN) ?_
    rintro e w2 h2
    rw [hC0.out] at h2
    obtain ⟨A2, c2, rfl, hb2, -, -, -⟩ := IntsOut.nums h2 (n := 0) rfl
    clear h2
    go_wp2_with fail
    refine Calls.mono (deep_any A1 c1 ns 0 HN.out hA1 hnb HR.out 0 w2 (HND.out _ hb2)) ?_
    rintro e w3 ⟨rfl, hb3⟩
    rw [hD0.out]
    have hB3 := hb1.trans ((hb2.trans (hb3.mono hb2.size)).mono hb1.size)
    clear hb1 hb2 hb3
    go_wp2_with fail
    refine Calls.mono (awake_any w3) ?_
    rintro e w4 ⟨rfl, hb4⟩
    go_wp2
    go_ret
    exact ⟨rfl, hB3.trans (hb4.mono hB3.size)⟩
  have hn0 : 0 < n := by omega
  have u0 : ((n : Int) == 0) = false := by simp; omega
  obtain ⟨i, hi, hin⟩ := tmod_lt a n hn0
  obtain ⟨k, hk, hkn⟩ := tmod_lt b n hn0
  have z0 : ¬ (n : Int) = 0 := by omega
  clear hNN
  go_wp2_with fail
  go_quiet (fail)
  have wa : wrap64 (a : Int) = a := IntWalk.wrap64_in _ (by omega)
  have wb : wrap64 (b : Int) = b := IntWalk.wrap64_in _ (by omega)

  clear hi hk wa wb ha hb
  go_wp2_with fail
  have hS0 : Below w1.heap.size w1 (w1.drewN nq) := bdrewN (Below.refl _ w1) _
  have hil : i < ns.length := by rw [← HN.out]; exact hin
  have hkl : k < ns.length := by rw [← HN.out]; exact hkn
  refine Calls.mono (chain_any A1 c1 ns n HN.out hA1 hnb HR.out i _ (HND.out _ hS0)) ?_
  rintro e w2 h2
  rw [chainI_nat hil] at h2
  obtain ⟨A2, c2, rfl, hb2, hm2, hx2, hc2⟩ := IntsOut.nums h2 (n := (chain ns i).length) (toI_length _)
  clear h2
  have hS1 := hS0.trans (hb2.mono hS0.size)
  obtain ⟨x, hx⟩ : ∃ x, x = (chain ns i).length := ⟨_, rfl⟩
  rw [← hx] at hx2 ⊢
  have hxn : x ≤ n := by have := Sc.chain_length ns i; omega
  have HX := Lib.hid hx
  clear hx hb2 hS0
  have HIL := Lib.hid hil
  have HKL := Lib.hid hkl
  have HM2 : Hid (∀ W, Below w2.heap.size w2 W → Nums W W.heap.size A2 (toI (chain ns i))) := Lib.hid fun W hW => hm2.grow hW
  have HD2 : Hid (((deep ns (i : Int) : Nat) : Int) = (x : Int) + 1) := Lib.hid (by rw [deep_chain HIL.out, ← HX.out])
  clear hm2 hil hkl
  go_wp2_with fail
  go_loopw [11, 12, 51] (fun la inn ix wr => ∃ p la' : Nat, p ≤ x ∧ ix = .int .i64 p ∧ la = .int .i64 la' ∧ la' < n ∧ inn = .bool (((chain ns i).take p).any fun o => decide (o = k)) ∧ RowKit.Hid ((chain ns i).drop p = chain ns la') ∧ RowKit.Hid (flow ns la' = flow ns i) ∧ Below w2.heap.size w2 wr) (fun _ _ ix _ => x - (intOf ix).toNat)
  case atStart => exact ⟨0, i, Nat.zero_le _, rfl, rfl, hin, rfl, Lib.hid rfl, Lib.hid rfl, Below.refl _ _⟩
  case round =>
    obtain ⟨p, la, hpx, rfl, rfl, hlan, rfl, hDR, hFL, hB⟩ := hrel
    have HBW : Hid (∀ W, Below wr.heap.size wr W → Below w1.heap.size w1 W) := Lib.hid fun W hW => hS1.trans ((hB.trans (hW.mono hB.size)).mono hS1.size)
    by_cases hlt : p < x
    · have hpc : p < (chain ns i).length := by have := HX.out; omega
      obtain ⟨f1, f2, f3, f4, f5⟩ := chain_step HR.out (by have := HN.out; omega) hDR.out hpc
      have hsucc := any_succ hpc (fun o => decide (o = k))
      have hm2 : Nums wr wr.heap.size A2 (toI (chain ns i)) := HM2.out _ hB
      obtain ⟨b1, o1, rfl, hb1', hcc⟩ := hm2.at_ (j := p) (by rw [toI_length]; exact hpc)
      have hoc : (toI (chain ns i))[p]'(by rw [toI_length]; exact hpc) = ((chain ns i)[p] : Nat) := by simp [toI]
      rw [hoc] at hcc
      generalize hin' : ((chain ns i).take p).any (fun o => decide (o = k)) = inn at *
      generalize (chain ns i)[p] = o at *
      have HSUCC := Lib.hid hsucc
      have F4 := Lib.hid f4
      have HD1 : Hid (((deep ns (o : Int) : Nat) : Int) = (x : Int) - p) := Lib.hid (by rw [f5, ← HX.out])
      have F3 : Hid (flow ns o = flow ns i) := Lib.hid (f3.trans hFL.out)
      have HNW := HND.out _ (HBW.out _ (Below.refl _ wr))
      have hon : o < n := by omega
      obtain ⟨g1, t1, rfl, hg1, k1⟩ := HNW.own_at (j := la) (by have := HN.out; omega)
      obtain ⟨_, _, e2, hg2, k2⟩ := HNW.flow_at (j := o) (by have := HN.out; omega)
      cases e2
      obtain ⟨_, _, e3, hg3, k3⟩ := HNW.flow_at (j := i) HIL.out
      cases e3
      rw [f1] at k1
      rw [F3.out] at k2
      generalize flow ns i = ff at *
      have HA : Hid (∀ W, Below wr.heap.size wr W → W.cell? ⟨g1, t1 + la * 16 + 4, none⟩ = some (.int .i64 (o : Nat))) := Lib.hid fun W hW => (hW.cell (p := ⟨g1, _, none⟩) hg1).trans k1
      have HB : Hid (∀ W, Below wr.heap.size wr W → W.cell? ⟨g1, t1 + o * 16 + 3, none⟩ = some (.int .i64 ff)) := Lib.hid fun W hW => (hW.cell (p := ⟨g1, _, none⟩) hg1).trans k2
      have HC : Hid (∀ W, Below wr.heap.size wr W → W.cell? ⟨g1, t1 + i * 16 + 3, none⟩ = some (.int .i64 ff)) := Lib.hid fun W hW => (hW.cell (p := ⟨g1, _, none⟩) hg1).trans k3
      have i1 : (0 : Int) ≤ (p : Int) := by omega
      have i2 : (p : Int) < (x : Int) := by omega
      have i3 : (0 : Int) ≤ (la : Int) := by omega
      have i4 : (la : Int) < (n : Int) := by omega
      have i5 : (0 : Int) ≤ (o : Int) := by omega
      have i6 : (o : Int) < (n : Int) := by omega
      have i7 : (0 : Int) ≤ (i : Int) := by omega
      have i8 : (i : Int) < (n : Int) := by omega
      have v1 : decide ((la : Int) ≤ (o : Int)) = false := by simp; omega
      have v0 : o < la := f2
      have y1 : IntKind.i64.wrap ((x : Int) + 1 - p) = (x : Int) + 1 - p := IntWalk.i64_in _ (by omega)
      have y2 : IntKind.i64.wrap ((x : Int) + 1 - p - 1) = (x : Int) - p := by rw [show (x : Int) + 1 - p - 1 = (x : Int) - p by omega]; exact IntWalk.i64_in _ (by omega)
      clear hDR hFL hsucc f1 f2 f3 f4 f5 hm2 hoc HNW hg2 hg3 k1 k2 k3
      have HND0 := HND
      replace HND : Hid (∀ W, Below wr.heap.size wr W → Nodes W W.heap.size (some ⟨g1, t1, none⟩) ns) := Lib.hid fun W hW => HND0.out W (HBW.out W hW)
      clear HND0
      have HBK := Lib.hid hB
      have HS1 := Lib.hid hS1
      have HB1 := Lib.hid hb1
      clear hB hS1 hb1
      go_wp2_with fail
      refine wp_region_heldG [] (fun _ W => Below wr.heap.size wr W) (by kernel_rfl) ?_
      change wpAnyG _ _ _ _ _ _ 37 _ _ (World.drew _)
      have hS : Below wr.heap.size wr wr.drew := (Below.refl _ wr).drew
      -- take0 take1 take2 take3 take4 take5 take6 take7 take8G take9G take10G take11 take12 take13G take14G take16G take17G take19G one15G one18G take20G take21G take22G take23 take24 take25G take26G take27G take28G take29G take30G take31G take32G take33G take34G take35G take36 done
      refine g_take (i := 0) rfl rfl (by kernel_rfl) (by kernel_rfl) (by kernel_rfl) (by kernel_rfl) (by kernel_rfl) (fun _ _ _ h => h) hS (fun L W hL hW => by go_simp; rfl) ?_
      refine g_take (i := 1) rfl rfl (by kernel_rfl) (by kernel_rfl) (by kernel_rfl) (by kernel_rfl) (by kernel_rfl) (fun _ _ _ h => h) hS (fun L W hL hW => by go_simp; rfl) ?_
      refine g_take (i := 2) rfl rfl (by kernel_rfl) (by kernel_rfl) (by kernel_rfl) (by kernel_rfl) (by kernel_rfl) (fun _ _ _ h => h) hS (fun L W hL hW => by go_simp; rfl) ?_
      refine g_take (i := 3) rfl rfl (by kernel_rfl) (by kernel_rfl) (by kernel_rfl) (by kernel_rfl) (by kernel_rfl) (fun _ _ _ h => h) hS (fun L W hL hW => by go_simp; rfl) ?_
      refine g_take (i := 4) rfl rfl (by kernel_rfl) (by kernel_rfl) (by kernel_rfl) (by kernel_rfl) (by kernel_rfl) (fun _ _ _ h => h) hS (fun L W hL hW => by have q1 := HA.out W hW; have q2 := HB.out W hW; have q3 := HC.out W hW; go_simp; rfl) ?_
      refine g_take (i := 5) rfl rfl (by kernel_rfl) (by kernel_rfl) (by kernel_rfl) (by kernel_rfl) (by kernel_rfl) (fun _ _ _ h => h) hS (fun L W hL hW => by go_simp; rfl) ?_
      refine g_take (i := 6) rfl rfl (by kernel_rfl) (by kernel_rfl) (by kernel_rfl) (by kernel_rfl) (by kernel_rfl) (fun _ _ _ h => h) hS (fun L W hL hW => by go_simp; rfl) ?_
      refine g_take (i := 7) rfl rfl (by kernel_rfl) (by kernel_rfl) (by kernel_rfl) (by kernel_rfl) (by kernel_rfl) (fun _ _ _ h => h) hS (fun L W hL hW => by go_simp; rfl) ?_
      refine g_takeG (i := 8) rfl (by simp only [Region.wanted, yielded]; go_simp) (by kernel_rfl) (by kernel_rfl) (by kernel_rfl) (by kernel_rfl) (by kernel_rfl) (fun _ _ _ h => h) hS (fun L W hL hW => by go_simp; rfl) ?_
      refine g_takeG (i := 9) rfl (by simp only [Region.wanted, yielded]; go_simp) (by kernel_rfl) (by kernel_rfl) (by kernel_rfl) (by kernel_rfl) (by kernel_rfl) (fun _ _ _ h => h) hS (fun L W hL hW => by go_simp; rfl) ?_
      refine g_takeG (i := 10) rfl (by simp only [Region.wanted, yielded]; go_simp) (by kernel_rfl) (by kernel_rfl) (by kernel_rfl) (by kernel_rfl) (by kernel_rfl) (fun _ _ _ h => h) hS (fun L W hL hW => by go_simp; rfl) ?_
      refine g_take (i := 11) rfl rfl (by kernel_rfl) (by kernel_rfl) (by kernel_rfl) (by kernel_rfl) (by kernel_rfl) (fun _ _ _ h => h) hS (fun L W hL hW => by go_simp; rfl) ?_
      refine g_take (i := 12) rfl rfl (by kernel_rfl) (by kernel_rfl) (by kernel_rfl) (by kernel_rfl) (by kernel_rfl) (fun _ _ _ h => h) hS (fun L W hL hW => by go_simp; rfl) ?_
      refine g_takeG (i := 13) rfl (by simp only [Region.wanted, yielded]; go_simp) (by kernel_rfl) (by kernel_rfl) (by kernel_rfl) (by kernel_rfl) (by kernel_rfl) (fun _ _ _ h => h) hS (fun L W hL hW => by go_simp; rfl) ?_
      refine g_takeG (i := 14) rfl (by simp only [Region.wanted, yielded]; go_simp) (by kernel_rfl) (by kernel_rfl) (by kernel_rfl) (by kernel_rfl) (by kernel_rfl) (fun _ _ _ h => h) hS (fun L W hL hW => by go_simp; rfl) ?_
      refine g_takeG (i := 16) rfl (by simp only [Region.wanted, yielded]; go_simp) (by kernel_rfl) (by kernel_rfl) (by kernel_rfl) (by kernel_rfl) (by kernel_rfl) (fun _ _ _ h => h) hS (fun L W hL hW => by go_simp; rfl) ?_
      refine g_takeG (i := 17) rfl (by simp only [Region.wanted, yielded]; go_simp) (by kernel_rfl) (by kernel_rfl) (by kernel_rfl) (by kernel_rfl) (by kernel_rfl) (fun _ _ _ h => h) hS (fun L W hL hW => by go_simp; rfl) ?_
      refine g_takeG (i := 19) rfl (by simp only [Region.wanted, yielded]; go_simp) (by kernel_rfl) (by kernel_rfl) (by kernel_rfl) (by kernel_rfl) (by kernel_rfl) (fun _ _ _ h => h) hS (fun L W hL hW => by go_simp; rfl) ?_
      refine g_one (i := 15) rfl (by simp only [Region.wanted, yielded]; go_simp) (by kernel_rfl) fun K hK => ?_
      go_simp
      refine Calls.mono (deep_any (some ⟨g1, t1, none⟩) c1 ns n HN.out hA1 hnb HR.out (o : Int) _ (HND.out _ hS)) ?_
      rintro e w3 ⟨rfl, hb3⟩
      rw [HD1.out]
      have hS3 := hS.trans (hb3.mono hS.size)
      refine hK _ _ hS3 ?_
      clear hK K hb3
      refine g_one (i := 18) rfl (by simp only [Region.wanted, yielded]; go_simp) (by kernel_rfl) fun K hK => ?_
      go_simp
      refine Calls.mono (deep_any (some ⟨g1, t1, none⟩) c1 ns n HN.out hA1 hnb HR.out (i : Int) _ (HND.out _ hS3)) ?_
      rintro e w4 ⟨rfl, hb4⟩
      rw [HD2.out]
      have hS4 := hS3.trans (hb4.mono hS3.size)
      refine hK _ _ hS4 ?_
      clear hK K hb4
      refine g_takeG (i := 20) rfl (by simp only [Region.wanted, yielded]; go_simp) (by kernel_rfl) (by kernel_rfl) (by kernel_rfl) (by kernel_rfl) (by kernel_rfl) (fun _ _ _ h => h) hS4 (fun L W hL hW => by go_simp; rfl) ?_
      refine g_takeG (i := 21) rfl (by simp only [Region.wanted, yielded]; go_simp) (by kernel_rfl) (by kernel_rfl) (by kernel_rfl) (by kernel_rfl) (by kernel_rfl) (fun _ _ _ h => h) hS4 (fun L W hL hW => by go_simp; rfl) ?_
      refine g_takeG (i := 22) rfl (by simp only [Region.wanted, yielded]; go_simp) (by kernel_rfl) (by kernel_rfl) (by kernel_rfl) (by kernel_rfl) (by kernel_rfl) (fun _ _ _ h => h) hS4 (fun L W hL hW => by go_simp; rfl) ?_
      refine g_take (i := 23) rfl rfl (by kernel_rfl) (by kernel_rfl) (by kernel_rfl) (by kernel_rfl) (by kernel_rfl) (fun _ _ _ h => h) hS4 (fun L W hL hW => by go_simp; rfl) ?_
      refine g_take (i := 24) rfl rfl (by kernel_rfl) (by kernel_rfl) (by kernel_rfl) (by kernel_rfl) (by kernel_rfl) (fun _ _ _ h => h) hS4 (fun L W hL hW => by go_simp; rfl) ?_
      refine g_takeG (i := 25) rfl (by simp only [Region.wanted, yielded]; go_simp) (by kernel_rfl) (by kernel_rfl) (by kernel_rfl) (by kernel_rfl) (by kernel_rfl) (fun _ _ _ h => h) hS4 (fun L W hL hW => by go_simp; rfl) ?_
      refine g_takeG (i := 26) rfl (by simp only [Region.wanted, yielded]; go_simp) (by kernel_rfl) (by kernel_rfl) (by kernel_rfl) (by kernel_rfl) (by kernel_rfl) (fun _ _ _ h => h) hS4 (fun L W hL hW => by go_simp; rfl) ?_
      refine g_takeG (i := 27) rfl (by simp only [Region.wanted, yielded]; go_simp) (by kernel_rfl) (by kernel_rfl) (by kernel_rfl) (by kernel_rfl) (by kernel_rfl) (fun _ _ _ h => h) hS4 (fun L W hL hW => by go_simp; rfl) ?_
      refine g_takeG (i := 28) rfl (by simp only [Region.wanted, yielded]; go_simp) (by kernel_rfl) (by kernel_rfl) (by kernel_rfl) (by kernel_rfl) (by kernel_rfl) (fun _ _ _ h => h) hS4 (fun L W hL hW => by go_simp; rfl) ?_
      refine g_takeG (i := 29) rfl (by simp only [Region.wanted, yielded]; go_simp) (by kernel_rfl) (by kernel_rfl) (by kernel_rfl) (by kernel_rfl) (by kernel_rfl) (fun _ _ _ h => h) hS4 (fun L W hL hW => by have q1 := HA.out W hW; have q2 := HB.out W hW; have q3 := HC.out W hW; go_simp; rfl) ?_
      refine g_takeG (i := 30) rfl (by simp only [Region.wanted, yielded]; go_simp) (by kernel_rfl) (by kernel_rfl) (by kernel_rfl) (by kernel_rfl) (by kernel_rfl) (fun _ _ _ h => h) hS4 (fun L W hL hW => by go_simp; rfl) ?_
      refine g_takeG (i := 31) rfl (by simp only [Region.wanted, yielded]; go_simp) (by kernel_rfl) (by kernel_rfl) (by kernel_rfl) (by kernel_rfl) (by kernel_rfl) (fun _ _ _ h => h) hS4 (fun L W hL hW => by go_simp; rfl) ?_
      refine g_takeG (i := 32) rfl (by simp only [Region.wanted, yielded]; go_simp) (by kernel_rfl) (by kernel_rfl) (by kernel_rfl) (by kernel_rfl) (by kernel_rfl) (fun _ _ _ h => h) hS4 (fun L W hL hW => by go_simp; rfl) ?_
      refine g_takeG (i := 33) rfl (by simp only [Region.wanted, yielded]; go_simp) (by kernel_rfl) (by kernel_rfl) (by kernel_rfl) (by kernel_rfl) (by kernel_rfl) (fun _ _ _ h => h) hS4 (fun L W hL hW => by go_simp; rfl) ?_
      refine g_takeG (i := 34) rfl (by simp only [Region.wanted, yielded]; go_simp) (by kernel_rfl) (by kernel_rfl) (by kernel_rfl) (by kernel_rfl) (by kernel_rfl) (fun _ _ _ h => h) hS4 (fun L W hL hW => by have q1 := HA.out W hW; have q2 := HB.out W hW; have q3 := HC.out W hW; go_simp; rfl) ?_
      refine g_takeG (i := 35) rfl (by simp only [Region.wanted, yielded]; go_simp) (by kernel_rfl) (by kernel_rfl) (by kernel_rfl) (by kernel_rfl) (by kernel_rfl) (fun _ _ _ h => h) hS4 (fun L W hL hW => by go_simp; rfl) ?_
      refine g_take (i := 36) rfl rfl (by kernel_rfl) (by kernel_rfl) (by kernel_rfl) (by kernel_rfl) (by kernel_rfl) (fun _ _ _ h => h) hS4 (fun L W hL hW => by go_simp; rfl) ?_
      refine wpAnyG_done (by kernel_rfl) ?_ _
      go_simp
      have hW4 := HBK.out.trans (hS4.mono HBK.out.size)
      clear hS hS3 hS4 y1 y2 HA HB HC v1 hcc
      cases inn
      · by_cases hok : o = k
        · have u1 : ((o : Int) == (k : Int)) = true := by rw [hok]; exact beq_self_eq_true _
          have HZ : Hid (((chain ns i).take (p + 1)).any (fun o => decide (o = k)) = true) := Lib.hid (by rw [HSUCC.out, decide_eq_true hok]; rfl)
          clear hok
          go_wp2_with fail
          go_roundw
          case rel => exact ⟨p + 1, o, by omega, by go_num, rfl, hon, by rw [HZ.out], F4, F3, hW4⟩
          case measure => simp [intOf]; omega
        · have u1 : ((o : Int) == (k : Int)) = false := by rw [beq_eq_false_iff_ne]; omega
          have HZ : Hid (((chain ns i).take (p + 1)).any (fun o => decide (o = k)) = false) := Lib.hid (by rw [HSUCC.out, decide_eq_false hok]; rfl)
          clear hok
          go_wp2_with fail
          go_roundw
          case rel => exact ⟨p + 1, o, by omega, by go_num, rfl, hon, by rw [HZ.out], F4, F3, hW4⟩
          case measure => simp [intOf]; omega
      · have HZ : Hid (((chain ns i).take (p + 1)).any (fun o => decide (o = k)) = true) := Lib.hid (by rw [HSUCC.out]; rfl)
        go_wp2_with fail
        go_roundw
        case rel => exact ⟨p + 1, o, by omega, by go_num, rfl, hon, by rw [HZ.out], F4, F3, hW4⟩
        case measure => simp [intOf]; omega
    · obtain rfl : p = x := by omega
      have hdone : chain ns la = [] := by rw [← hDR.out, HX.out, List.drop_length]
      have hOW : Hid (own ns la = -1) := Lib.hid (own_base_le HR.out (by have := HN.out; omega) hdone)
      have hIN : Hid (((chain ns i).take p).any (fun o => decide (o = k)) = decide (k ∈ chain ns i)) := Lib.hid (by
        rw [HX.out, List.take_length, Bool.eq_iff_iff, List.any_eq_true]
        simp only [decide_eq_true_eq]
        exact ⟨fun ⟨o, h1, h2⟩ => h2 ▸ h1, fun h => ⟨k, h, rfl⟩⟩)
      rw [hIN.out]
      clear hdone hDR hFL hIN hlt
      have hS2 := HBW.out _ (Below.refl _ wr)
      have HB1 := Lib.hid hb1
      have HSZ := Lib.hid hb1.size
      clear hb1 hS1 hB HBW HM2
      have HBEL : Hid (((below ns (k : Int)).any fun o => decide (o = i)) = decide (k ∈ chain ns i)) := Lib.hid (below_any_in HIL.out HKL.out)
      have HOV1 : Hid (over ns (k : Int) (i : Int) = decide (k ∈ chain ns i)) := Lib.hid (Sc.over_nat HIL.out)
      have HOV2 : Hid (over ns (i : Int) (k : Int) = decide (i ∈ chain ns k)) := Lib.hid (Sc.over_nat HKL.out)
      have HANTI : Hid (decide (k ∈ chain ns i) = true → decide (i ∈ chain ns k) = false) := Lib.hid (fun h => decide_eq_false fun h2 => by
        have h3 := Sc.chain_lt ns _ _ (of_decide_eq_true h)
        have h4 := Sc.chain_lt ns _ _ h2
        omega)
      generalize decide (k ∈ chain ns i) = inb at *
      go_wp2_with fail
      refine Calls.mono (below_any A1 c1 ns n HN.out hA1 hnb HR.out (k : Int) wr (HND.out _ hS2)) ?_
      rintro e w5 h5
      obtain ⟨A5, c5, rfl, hb5, hm5, hx5, hc5⟩ := IntsOut.nums h5 (n := (below ns (k : Int)).length) (toI_length _)
      clear h5
      have hS5 := hS2.trans (hb5.mono hS2.size)
      obtain ⟨y, hy⟩ : ∃ y, y = (below ns (k : Int)).length := ⟨_, rfl⟩
      have hyn : y ≤ n := by rw [hy, below_all, HN.out]; exact fil_le _ _
      rw [← hy] at hx5 ⊢
      have HY := Lib.hid hy
      have HM5 : Hid (∀ W, Below w5.heap.size w5 W → Nums W W.heap.size A5 (toI (below ns (k : Int)))) := Lib.hid fun W hW => hm5.grow hW
      clear hy hm5 hb5
      generalize below ns (k : Int) = bl at *
      have HS5 := Lib.hid hS5
      clear hS5 hS2
      go_wp2_with fail
      go_loopw [15, 105] (fun be ix wq => ∃ q : Nat, q ≤ y ∧ ix = .int .i64 q ∧ be = .bool ((bl.take q).any fun o => decide (o = i)) ∧ Below w5.heap.size w5 wq) (fun _ ix _ => y - (intOf ix).toNat)
      case atStart => exact ⟨0, Nat.zero_le _, rfl, rfl, Below.refl _ _⟩
      case round =>
        obtain ⟨q, hqy, rfl, rfl, hBq⟩ := hrel
        by_cases hlt : q < y
        · have hql : q < bl.length := by have := HY.out; omega
          have hsucc := any_succ hql (fun o => decide (o = i))
          have hm5 : Nums wr wr.heap.size A5 (toI bl) := HM5.out _ hBq
          obtain ⟨b1, o1, rfl, hb1', hcc⟩ := hm5.at_ (j := q) (by rw [toI_length]; exact hql)
          have hoc : (toI bl)[q]'(by rw [toI_length]; exact hql) = (bl[q] : Nat) := by simp [toI]
          rw [hoc] at hcc
          generalize hin' : (bl.take q).any (fun o => decide (o = i)) = be at *
          generalize bl[q] = o at *
          have HSUCC := Lib.hid hsucc
          have i1 : (0 : Int) ≤ (q : Int) := by omega
          have i2 : (q : Int) < (y : Int) := by omega
          clear hsucc hm5 hoc
          cases be
          · by_cases hok : o = i
            · have u1 : ((o : Int) == (i : Int)) = true := by rw [hok]; exact beq_self_eq_true _
              have HZ : Hid ((bl.take (q + 1)).any (fun o => decide (o = i)) = true) := Lib.hid (by rw [HSUCC.out, decide_eq_true hok]; rfl)
              clear hok
              go_wp2_with fail
              go_roundw
              case rel => exact ⟨q + 1, by omega, by go_num, by rw [HZ.out], hBq⟩
              case measure => simp [intOf]; omega
            · have u1 : ((o : Int) == (i : Int)) = false := by rw [beq_eq_false_iff_ne]; omega
              have HZ : Hid ((bl.take (q + 1)).any (fun o => decide (o = i)) = false) := Lib.hid (by rw [HSUCC.out, decide_eq_false hok]; rfl)
              clear hok
              go_wp2_with fail
              go_roundw
              case rel => exact ⟨q + 1, by omega, by go_num, by rw [HZ.out], hBq⟩
              case measure => simp [intOf]; omega
          · have HZ : Hid ((bl.take (q + 1)).any (fun o => decide (o = i)) = true) := Lib.hid (by rw [HSUCC.out]; rfl)
            go_wp2_with fail
            go_roundw
            case rel => exact ⟨q + 1, by omega, by go_num, by rw [HZ.out], hBq⟩
            case measure => simp [intOf]; omega
        · obtain rfl : q = y := by omega
          have hbe : Hid ((bl.take q).any (fun o => decide (o = i)) = inb) := Lib.hid (by rw [HY.out, List.take_length]; exact HBEL.out)
          rw [hbe.out]
          clear hbe HBEL hlt
          have hS6 := HS5.out.trans (hBq.mono HS5.out.size)
          clear hBq
          have hNN := HND.out _ hS6
          obtain ⟨g1, t1, rfl, hg1, k1⟩ := hNN.own_at (j := la) (by have := HN.out; omega)
          rw [hOW.out] at k1
          have i3 : (0 : Int) ≤ (la : Int) := by omega
          have i4 : (la : Int) < (n : Int) := by omega
          have y1 : IntKind.i64.wrap ((p : Int) + 1) = (p : Int) + 1 := IntWalk.i64_in _ (by omega)
          clear hg1
          go_wp2_with fail
          refine Calls.mono (deep_any (some ⟨g1, t1, none⟩) c1 ns n HN.out hA1 hnb HR.out (i : Int) _ hNN) ?_
          rintro e w7 ⟨rfl, hb7⟩
          rw [HD2.out]
          have hS7 := hS6.trans (hb7.mono hS6.size)
          clear hb7 hS6 hNN k1
          go_wp2_with fail
          refine Calls.mono (over_any (some ⟨g1, t1, none⟩) c1 ns n HN.out hA1 hnb HR.out (k : Int) (i : Int) _ (HND.out _ hS7)) ?_
          rintro e w8 ⟨rfl, hb8⟩
          rw [HOV1.out]
          have hS8 := hS7.trans (hb8.mono hS7.size)
          clear hb8 hS7
          have hfin : ∀ w9, Below w1.heap.size w1 w9 → Calls Try.prog 11 #[] w9 fun e w' => e = .returned (.bool true) ∧ Below w.heap.size w w' := fun w9 h9 => by
            refine Calls.mono (awake_any w9) ?_
            rintro e w10 ⟨rfl, hb10⟩
            have h := HB1.out.trans (h9.mono HSZ.out)
            exact ⟨rfl, h.trans (hb10.mono h.size)⟩
          have HFIN := Lib.hid hfin
          clear hfin
          cases inb
          · go_wp2_with fail
            refine Calls.mono (over_any (some ⟨g1, t1, none⟩) c1 ns n HN.out hA1 hnb HR.out (i : Int) (k : Int) _ (HND.out _ hS8)) ?_
            rintro e w9 ⟨rfl, hb9⟩
            have hS9 := hS8.trans (hb9.mono hS8.size)
            clear hb9 hS8
            generalize over ns (i : Int) (k : Int) = ob at *
            cases ob
            · go_wp2_with fail
              refine Calls.mono (HFIN.out _ hS9) ?_
              rintro e w10 ⟨rfl, hb10⟩
              go_wp2
              go_ret
              exact ⟨rfl, hb10⟩
            · go_wp2_with fail
              refine Calls.mono (HFIN.out _ hS9) ?_
              rintro e w10 ⟨rfl, hb10⟩
              go_wp2
              go_ret
              exact ⟨rfl, hb10⟩
          · go_wp2_with fail
            refine Calls.mono (over_any (some ⟨g1, t1, none⟩) c1 ns n HN.out hA1 hnb HR.out (i : Int) (k : Int) _ (HND.out _ hS8)) ?_
            rintro e w9 ⟨rfl, hb9⟩
            have hS9 := hS8.trans (hb9.mono hS8.size)
            clear hb9 hS8
            rw [HOV2.out, HANTI.out trivial]
            go_wp2_with fail
            refine Calls.mono (HFIN.out _ hS9) ?_
            rintro e w10 ⟨rfl, hb10⟩
            go_wp2
            go_ret
            exact ⟨rfl, hb10⟩
end Go.Proofs.Ytcdjhafpnfgnlaa.ScW
