/-
  The walk of BundleOrder.
-/
import Derived.Test.YtelplccbcbegkaaBundlePQ
namespace Go.Proofs.Ytelplccbcbegkaa.Ord
set_option linter.unusedVariables false
open Go.Proofs.Ytelplccbcbegkaa.Gr (E Path Inside OK outs intos Cyc putL edgesTo)
open Go.Proofs.Ytelplccbcbegkaa.GrW (isV growL canGrow hasE)
/-- The same edges in another order are taken, or not, and leave the same. -/
theorem FitsC.order {n t : Nat} {L : List (List Int)} {P A : List Nat} {es es2 : List (Int × Int)} {k k2 : Nat} (hn : n + t ≤ 10000) (hs : OSt n L P A) (hr : ∀ x ∈ es, ∃ a b : Nat, a < n + t ∧ b < n + t ∧ x = ((a : Int), (b : Int))) (he : ∀ x, x ∈ es2 ↔ x ∈ es) (h : FitsC n L P A (t : Int) es k) (h2 : FitsC n L P A (t : Int) es2 k2) : k = k2 := by
  obtain ⟨i, L1, P1, A1, w1⟩ := OrW.fits0 h hn
  obtain ⟨j, L2, P2, A2, w2⟩ := OrW.fits0 h2 hn
  have hst := hs.gro t
  have key : ∀ {i j k k2 : Nat} {L1 L2 : List (List Int)} {P1 A1 P2 A2 : List Nat} {es es2 : List (Int × Int)}, Went (n + t) (growL L t) (gro P n t) (gro A n t) es i 0 L1 P1 A1 → Went (n + t) (growL L t) (gro P n t) (gro A n t) es2 j k2 L2 P2 A2 → (∀ x, x ∈ es2 → x ∈ es) → k2 ≠ 25 := fun w1 w2 he => by
    obtain ⟨-, hr⟩ := w1.all
    have hst' := hr.st hst
    exact w2.fits hst hst' (fun x y h => (hr.edge hst x y).2 (.inl h)) (fun x y h => (hr.edge hst x y).2 (.inr (he _ h)))
  have c1 := w1.inside hr
  have c2 := w2.inside (fun x hx => hr x ((he x).1 hx))
  rcases c1 with rfl | rfl
  · exact (c2.resolve_right (key (k := 0) w1 w2 (fun x hx => (he x).1 hx))).symm
  · rcases c2 with rfl | rfl
    · exact absurd rfl (key (k := 0) w2 w1 (fun x hx => (he x).2 hx))
    · rfl
theorem Ran.order {n : Nat} {L L1 L2 : List (List Int)} {P A P1 A1 P2 A2 : List Nat} {es es2 : List (Int × Int)} (hs : OSt n L P A) (he : ∀ x, x ∈ es2 ↔ x ∈ es) (h : Ran n L P A es L1 P1 A1) (h2 : Ran n L P A es2 L2 P2 A2) : L1 = L2 :=
  (h.st hs).same (h2.st hs) fun x y => by rw [h.edge hs, h2.edge hs, he]
end Go.Proofs.Ytelplccbcbegkaa.Ord
namespace Go.Proofs.Ytelplccbcbegkaa.OrW
set_option linter.unusedVariables false
open Go Go.RowKit Go.Maps Go.Proofs Go.Proofs.Ytelplccbcbegkaa Go.Proofs.Ytelplccbcbegkaa.Wd Go.Proofs.Ytelplccbcbegkaa.GrW Go.Proofs.Ytelplccbcbegkaa.Ord
open Go.Proofs.Ytelplccbcbegkaa.Gr (OK putL outs intos Path edgesTo ev)
set_option maxHeartbeats 1000000 in
theorem within_none (A : Option Addr) (c : Nat) (M : Nat) (hcm : c ≤ maxLen) (w : World) : Calls Try.prog 10 #[.slice A 0 c, .int .i64 (M : Nat)] w fun e w' => e = .returned (.slice none 0 0) ∧ w = w' := by
  unfold maxLen at hcm
  go_enter Try.func10, Try.ntmps10
  go_upto_region 2 with fail
  go_cut [12, 13, 14] (fun v29 v30 v31 wx => v29 = .slice A 0 c ∧ v30 = .int .i64 0 ∧ v31 = .int .i64 0 ∧ wx = w)
  case first =>
    go_wp2_with fail
    go_meet
    exact ⟨by first | rfl | simp, by first | rfl | simp, by first | rfl | simp, by first | rfl | simp⟩
  case rest =>
  obtain ⟨rfl, rfl, rfl, hwc⟩ := hcut
  have hwc := hwc.symm
  subst hwc
  go_wp2_with fail
  go_loopw [5, 14] (fun v ix wr => v = .slice none 0 0 ∧ ix = .int .i64 0 ∧ w = wr) (fun _ ix _ => 0)
  case atStart => exact ⟨rfl, rfl, rfl⟩
  case round =>
    obtain ⟨rfl, rfl, rfl⟩ := hrel
    go_wp2_with fail
    go_ret
    exact ⟨rfl, rfl⟩
theorem within_plus (A : Option Addr) (c : Nat) (l : List (Int × Int)) (n : Nat) (hn : n = l.length) (hnc : n ≤ c) (hcm : c ≤ maxLen) (M : Nat) (hM : 0 < M) (hM3 : M ≤ 30000) (w : World) (hI : EdgesAt w w.heap.size A l) :
    Calls Try.prog 10 #[.slice A n c, .int .i64 (M : Nat)] w fun e w' => ∃ A' c', e = .returned (.slice A' (withinL M l).length c') ∧ Below w.heap.size w w' ∧ w'.ownsRow w.heap.size 34 2 (.slice A' (withinL M l).length c') (withinL M l).length (ev (withinL M l)) ∧ ((withinL M l).length = 0 → A' = none ∧ c' = 0) := by
  by_cases h0 : n = 0
  · subst h0
    have hl : l = [] := List.eq_nil_of_length_eq_zero hn.symm
    subst hl
    refine (within_none A c M hcm w).mono ?_
    rintro e w' ⟨rfl, rfl⟩
    exact ⟨none, 0, rfl, Below.refl _ _, World.ownsRow_nil _ _ _ _, fun _ => ⟨rfl, rfl⟩⟩
  · refine (within_any A c l n hn hnc hcm M hM hM3 w hI).mono ?_
    rintro e w' ⟨A', c', rfl, h1, h2⟩
    refine ⟨A', c', rfl, h1, h2, fun h => ?_⟩
    exfalso
    unfold withinL at h
    rw [List.length_map, List.length_take] at h
    omega
theorem own_pairs {w : World} {base q c : Nat} {A : Option Addr} {es : List (Int × Int)} (h : w.ownsRow base 34 2 (.slice A q c) q (ev es)) (hq : 0 < q) : ∃ g, A = some ⟨g, 0, none⟩ ∧ q ≤ c ∧ base ≤ g ∧ g < w.heap.size ∧ ∀ j u, (ev es)[j]? = some u → w.cell? ⟨g, j, none⟩ = some u := by
  rcases h.2 with ⟨hv, h0⟩ | ⟨g, cap, cur, hv, hg, hh, hmc, hcm, hcs, htk⟩
  · have := h.1
    rw [h0] at this
    simp at this
    omega
  · cases hv
    have hblk : Blk w g 34 cur := hh
    refine ⟨g, rfl, hmc, hg, hblk.lt, fun j u hu => ?_⟩
    rw [← htk] at hu
    have hj : j < q * 2 := by
      have := (List.getElem?_eq_some_iff.1 hu).1
      rw [List.length_take] at this
      omega
    rw [List.getElem?_take_of_lt hj] at hu
    rw [hblk.cell]
    simpa using hu
/-- Where a row is turned. -/
def AtIs (tn q a0 : Nat) : Prop := a0 = if q = 0 then 0 else tn % q
theorem at_is (tn q : Nat) : ∃ a, AtIs tn q a ∧ a ≤ q ∧ (0 < q → a < q ∧ (tn : Int).tmod (q : Int) = (a : Int)) := by
  by_cases h : q = 0
  · exact ⟨0, by unfold AtIs; rw [if_pos h], Nat.zero_le _, fun e => absurd h (Nat.ne_of_gt e)⟩
  · have h1 := Nat.mod_lt tn (Nat.pos_of_ne_zero h)
    exact ⟨tn % q, by unfold AtIs; rw [if_neg h], Nat.le_of_lt h1, fun _ => ⟨h1, by rw [Int.tmod_eq_emod_of_nonneg (Int.natCast_nonneg _), Int.natCast_emod]⟩⟩
theorem rot_len (es : List (Int × Int)) {a : Nat} (h : a ≤ es.length) : (es.drop a ++ es.take a).length = es.length := by
  rw [List.length_append, List.length_drop, List.length_take, Nat.min_eq_left h]; omega
theorem rot_mem (es : List (Int × Int)) (a : Nat) (x : Int × Int) : x ∈ es.drop a ++ es.take a ↔ x ∈ es := by
  rw [List.mem_append, or_comm, ← List.mem_append, List.take_append_drop]
theorem ev_drop (es : List (Int × Int)) (k : Nat) : ev (es.drop k) = (ev es).drop (k * 2) := by
  induction k generalizing es with
  | zero => simp
  | succ k ih =>
    cases es with
    | nil => simp [Gr.ev]
    | cons x es =>
      rw [List.drop_succ_cons, ih]
      have : ev (x :: es) = .int .i64 x.1 :: .int .i64 x.2 :: ev es := rfl
      rw [this, show (k + 1) * 2 = k * 2 + 1 + 1 by omega, List.drop_succ_cons, List.drop_succ_cons]
theorem ev_take (es : List (Int × Int)) (k : Nat) : ev (es.take k) = (ev es).take (k * 2) := by
  induction k generalizing es with
  | zero => simp [Gr.ev]
  | succ k ih =>
    cases es with
    | nil => simp [Gr.ev]
    | cons x es =>
      rw [List.take_succ_cons]
      have h1 : ev (x :: es.take k) = .int .i64 x.1 :: .int .i64 x.2 :: ev (es.take k) := rfl
      have : ev (x :: es) = .int .i64 x.1 :: .int .i64 x.2 :: ev es := rfl
      rw [h1, this, ih, show (k + 1) * 2 = k * 2 + 1 + 1 by omega, List.take_succ_cons, List.take_succ_cons]
set_option maxRecDepth 100000 in
set_option maxHeartbeats 16000000 in
theorem order_walk (nb : Nat) (hnb : nb < 256) (A : Option Addr) (c : Nat) (l : List (Int × Int)) (n : Nat) (hn : n = l.length) (hnc : n ≤ c) (hcm : c ≤ maxLen) (mb : Nat) (hmb : mb < 256) (tn : Nat) (htn : tn < 256) (B : Option Addr) (d : Nat) (l2 : List (Int × Int)) (n2 : Nat) (hn2 : n2 = l2.length) (hnd : n2 ≤ d) (hdm : d ≤ maxLen) (w : World) (hI : EdgesAt w w.heap.size A l) (hJ : EdgesAt w w.heap.size B l2) :
    Calls Try.prog 7 #[.int .u8 nb, .slice A n c, .int .u8 mb, .int .u8 tn, .slice B n2 d] w fun e w' => e = .returned (.bool true) ∧ Below w.heap.size w w' := by
  have HOF := Lib.hid (ofB_any nb hnb A c l n hn hnc hcm w hI)
  have hMb : 2 ≤ 2 + nb % 30 ∧ 2 + nb % 30 ≤ 31 := ⟨Nat.le_add_right 2 _, Nat.add_le_add_left (Nat.le_of_lt_succ (Nat.mod_lt nb (by decide))) 2⟩
  generalize 2 + nb % 30 = M at *
  obtain ⟨k, hk⟩ : ∃ k, k = mb % 8 := ⟨_, rfl⟩
  have HK0 : Hid ((mb : Int).tmod 8 = (k : Int)) := Lib.hid (by rw [hk]; exact tmod8 mb)
  have hk8 : k ≤ 7 := by rw [hk]; exact Nat.le_of_lt_succ (Nat.mod_lt mb (by decide))
  obtain ⟨Mk, hMk⟩ : ∃ Mk, Mk = M + k := ⟨_, rfl⟩
  have HMK := Lib.hid hMk
  have HAK : Hid ((M : Int) + (k : Int) = (Mk : Int)) := Lib.hid (by omega)
  have hMk38 : Mk ≤ 38 := by omega
  have HKW : Hid (wrap64 (k : Int) = (k : Int)) := Lib.hid (IntWalk.wrap64_in _ (by omega))
  have hM1 := hMb.1
  have hM2 := hMb.2
  have hMk1 : 2 ≤ Mk := by omega
  have HJ := Lib.hid hJ
  have HN2 := Lib.hid hn2
  clear hk hMk hmb hI hJ hn hnc hcm hMb hn2
  go_enter Try.func7, Try.ntmps7
  go_wp2_with fail
  refine Calls.mono HOF.out ?_
  rintro e w1 ⟨o, rfl, h1⟩
  have HO1 := Lib.hid h1
  clear HOF h1
  have hk0 := HK0.out
  have hak := HAK.out
  have hkw := HKW.out
  go_wp2_with fail
  clear hk0 hkw
  refine Calls.mono (within_plus B d l2 n2 HN2.out hnd hdm Mk (by omega) (by omega) w1 (((EdgesAt.below HJ.out HO1.out.low)).more' HO1.out.low.size)) ?_
  rintro e w2 ⟨A2, c2, rfl, b2, o2, hnil⟩
  obtain ⟨F, L, P, Ax, hO, hS⟩ := HO1.out
  obtain ⟨es, hes⟩ : ∃ es, es = withinL Mk l2 := ⟨_, rfl⟩
  have HES : Hid (∀ x ∈ es, ∃ a b : Nat, a < Mk ∧ b < Mk ∧ x = ((a : Int), (b : Int))) := Lib.hid (by rw [hes]; exact withinL_each (by omega) l2)
  have hq40 : es.length ≤ 40 := by rw [hes]; exact withinL_len _ _
  rw [← hes] at o2 hnil ⊢
  clear hes
  obtain ⟨q, hq⟩ : ∃ q, q = es.length := ⟨_, rfl⟩
  rw [← hq] at o2 hq40 hnil ⊢
  have HQ := Lib.hid hq
  have HEA := Lib.hid (EdgesAt.of_own o2).1
  have HEB : Hid (∀ b off, A2 = some ⟨b, off, none⟩ → w1.heap.size ≤ b ∧ b < w2.heap.size) := Lib.hid (fun b off e => by
    subst e
    obtain ⟨h1, _, h2⟩ := own_row o2 (g := b) rfl
    exact ⟨h1, h2.lt⟩)
  have HR2 := Lib.hid o2
  have HNIL := Lib.hid hnil
  have HO2 := Lib.hid (hO.below b2)
  have HS := Lib.hid hS
  have hc2m : q ≤ c2 ∧ c2 ≤ maxLen := by obtain ⟨-, -, h1, h2⟩ := EdgesAt.of_own o2; exact ⟨h1, h2⟩
  unfold maxLen at hc2m
  clear HO1 hO hS o2 b2 hq hak HK0 HKW hnil
  obtain ⟨a0, -, haq, hapos⟩ := at_is tn q
  have HAP := Lib.hid hapos
  have HMEM : Hid (∀ x, x ∈ es.drop a0 ++ es.take a0 ↔ x ∈ es) := Lib.hid (rot_mem es a0)
  clear hapos
  obtain ⟨es2, hes2⟩ : ∃ es2, es2 = es.drop a0 ++ es.take a0 := ⟨_, rfl⟩
  have HE2 := Lib.hid hes2
  rw [← hes2] at HMEM
  have HQ2 : Hid (q = es2.length) := Lib.hid (by
    rw [hes2, rot_len es (by rw [← HQ.out]; exact haq)]
    exact HQ.out)
  have i2 : (a0 : Int) ≤ (q : Int) := by omega
  clear hes2
  go_upto_if 43 with fail
  go_cut [16] (fun v16 wx => v16 = .int .i64 (a0 : Nat) ∧ wx = w2)
  case first =>
    by_cases hq0 : q = 0
    · subst hq0
      obtain rfl : a0 = 0 := Nat.le_zero.1 haq
      go_wp2_with fail
      go_meet
      exact ⟨rfl, rfl⟩
    · have hql : (0 : Int) < (q : Int) := by omega
      have hql2 : 0 < q := by omega
      have hqz : ((q : Int) == 0) = false := by rw [beq_eq_false_iff_ne]; omega
      have hqn : ¬ (q : Int) = 0 := by omega
      have hrem := (HAP.out hql2).2
      go_wp2_with fail
      go_meet
      exact ⟨rfl, rfl⟩
  case rest =>
  obtain ⟨rfl, hwc⟩ := hcut
  have hwc := hwc.symm
  subst hwc
  go_upto_region 9 with fail
  go_cut [17] (fun v17 wx => ∃ (A3 : Option Addr) (c3 : Nat), v17 = .slice A3 q c3 ∧ Hid (Below w2.heap.size w2 wx ∧ wx.ownsRow w2.heap.size 34 2 (.slice A3 q c3) q (ev es2)))
  case first =>
    obtain ⟨i0, hi0, hz0, hz1, hz2⟩ := info_parts infoEdge
    by_cases hq0 : q = 0
    · obtain ⟨rfl, rfl⟩ := HNIL.out hq0
      subst hq0
      obtain rfl : a0 = 0 := Nat.le_zero.1 haq
      have e2 : es2 = [] := List.eq_nil_of_length_eq_zero HQ2.out.symm
      have hS : Below w2.heap.size w2 w2.drew := (Below.refl _ w2).drew
      refine wp_region_heldG [] (fun _ W => Below w2.heap.size w2 W) (by kernel_rfl) ?_
      change wpAnyG _ _ _ _ _ _ 10 _ _ w2.drew
      refine g_take (i := 1) rfl rfl (by kernel_rfl) (by kernel_rfl) (by kernel_rfl) (by kernel_rfl) (by kernel_rfl) (fun _ _ _ h => h) hS (fun L' W' hL hW => by go_simp; rfl) ?_
      refine g_take (i := 2) rfl rfl (by kernel_rfl) (by kernel_rfl) (by kernel_rfl) (by kernel_rfl) (by kernel_rfl) (fun _ _ _ h => h) hS (fun L' W' hL hW => by go_simp; rfl) ?_
      refine g_take (i := 3) rfl rfl (by kernel_rfl) (by kernel_rfl) (by kernel_rfl) (by kernel_rfl) (by kernel_rfl) (fun _ _ _ h => h) hS (fun L' W' hL hW => by go_simp; rfl) ?_
      refine g_take (i := 5) rfl rfl (by kernel_rfl) (by kernel_rfl) (by kernel_rfl) (by kernel_rfl) (by kernel_rfl) (fun _ _ _ h => h) hS (fun L' W' hL hW => by go_simp; rfl) ?_
      refine g_take (i := 6) rfl rfl (by kernel_rfl) (by kernel_rfl) (by kernel_rfl) (by kernel_rfl) (by kernel_rfl) (fun _ _ _ h => h) hS (fun L' W' hL hW => by go_simp; rfl) ?_
      refine g_take (i := 7) rfl rfl (by kernel_rfl) (by kernel_rfl) (by kernel_rfl) (by kernel_rfl) (by kernel_rfl) (fun _ _ _ h => h) hS (fun L' W' hL hW => by go_simp; rfl) ?_
      refine g_one (i := 0) rfl rfl (by kernel_rfl) fun K' hK => ?_
      go_simp
      have hS1 : Below w2.heap.size w2 (w2.alloc (.cells #[] 34)).drew := ((Below.refl _ w2).alloc (Nat.le_refl _) (.cells #[] 34)).drew
      have hown0 : (w2.alloc (.cells #[] 34)).drew.ownsRow w2.heap.size 34 2 (.slice (some ⟨w2.heap.size, 0, none⟩) 0 0) 0 (ev []) := (Blk.new_ w2 34 #[] rfl).ownS (Nat.le_refl _) 2 0 rfl (by decide)
      refine hK _ _ hS1 ?_
      clear hK K' hS
      generalize (w2.alloc (.cells #[] 34)).drew = wb at *
      refine g_one (i := 4) rfl rfl (by kernel_rfl) fun K' hK => ?_
      refine wp_append_own2 _ (.tmp 49) (.tmp 52) 22 rfl w2.heap.size w2.heap.size 34 i0 _ 2 16 Try.underlying22 hi0 hz0 hz1 hz2 rfl (by omega) _ 0 (ev []) rfl hown0 none 0 0 [] rfl (World.ownsRow_nil _ w2.heap.size _ _) (by simp) (by decide) (by decide) hS1.size ?_
      intro v4 w4 ho4 hg4 _
      have hS4 := hS1.grown hg4 hS1.size (fun j hj => (own_row hown0 hj).1)
      go_simp
      refine hK _ _ hS4 ?_
      clear hK K' hS1 hown0 hg4
      refine g_one (i := 8) rfl rfl (by kernel_rfl) fun K' hK => ?_
      refine wp_append_own2 _ (.tmp 53) (.tmp 56) 22 rfl w2.heap.size w2.heap.size 34 i0 _ 2 16 Try.underlying22 hi0 hz0 hz1 hz2 rfl (by omega) v4 0 (ev []) rfl ho4 none 0 0 [] rfl (World.ownsRow_nil _ w2.heap.size _ _) (by simp) (by decide) (by decide) hS4.size ?_
      intro v8 w8 ho8 hg8 _
      have hS8 := hS4.grown hg8 hS4.size (fun j hj => (own_row ho4 hj).1)
      obtain ⟨A8, c8, rfl⟩ := own_form ho8
      go_simp
      refine hK _ _ hS8 ?_
      clear hK K' hS4 ho4 hg8
      refine g_take (i := 9) rfl rfl (by kernel_rfl) (by kernel_rfl) (by kernel_rfl) (by kernel_rfl) (by kernel_rfl) (fun _ _ _ h => h) hS8 (fun L' W' hL hW => by go_simp; rfl) ?_
      refine wpAnyG_done (by kernel_rfl) ?_ _
      have HN : Hid (Below w2.heap.size w2 w8 ∧ w8.ownsRow w2.heap.size 34 2 (.slice A8 0 c8) 0 (ev es2)) := Lib.hid ⟨hS8, by rw [e2]; exact ho8⟩
      clear hS8 ho8
      go_wp2_with fail
      go_meet
      exact ⟨A8, c8, rfl, HN⟩
    · obtain ⟨g, rfl, -, hgb, hgl, hcl⟩ := own_pairs HR2.out (by omega)
      have htq := (HAP.out (by omega)).1
      have hac : ¬ c2 = a0 := by omega
      have HCL := Lib.hid hcl
      have i1 : (0 : Int) ≤ (a0 : Int) := by omega
      have i3 : (q : Int) ≤ (c2 : Int) := by omega
      have i4 : (a0 : Int) ≤ (c2 : Int) := by omega
      clear hcl
      have hS : Below w2.heap.size w2 w2.drew := (Below.refl _ w2).drew
      refine wp_region_heldG [] (fun _ W => Below w2.heap.size w2 W) (by kernel_rfl) ?_
      change wpAnyG _ _ _ _ _ _ 10 _ _ w2.drew
      refine g_take (i := 1) rfl rfl (by kernel_rfl) (by kernel_rfl) (by kernel_rfl) (by kernel_rfl) (by kernel_rfl) (fun _ _ _ h => h) hS (fun L' W' hL hW => by go_simp; rfl) ?_
      refine g_take (i := 2) rfl rfl (by kernel_rfl) (by kernel_rfl) (by kernel_rfl) (by kernel_rfl) (by kernel_rfl) (fun _ _ _ h => h) hS (fun L' W' hL hW => by go_simp; rfl) ?_
      refine g_take (i := 3) rfl rfl (by kernel_rfl) (by kernel_rfl) (by kernel_rfl) (by kernel_rfl) (by kernel_rfl) (fun _ _ _ h => h) hS (fun L' W' hL hW => by go_simp; rfl) ?_
      refine g_take (i := 5) rfl rfl (by kernel_rfl) (by kernel_rfl) (by kernel_rfl) (by kernel_rfl) (by kernel_rfl) (fun _ _ _ h => h) hS (fun L' W' hL hW => by go_simp; rfl) ?_
      refine g_take (i := 6) rfl rfl (by kernel_rfl) (by kernel_rfl) (by kernel_rfl) (by kernel_rfl) (by kernel_rfl) (fun _ _ _ h => h) hS (fun L' W' hL hW => by go_simp; rfl) ?_
      refine g_take (i := 7) rfl rfl (by kernel_rfl) (by kernel_rfl) (by kernel_rfl) (by kernel_rfl) (by kernel_rfl) (fun _ _ _ h => h) hS (fun L' W' hL hW => by go_simp; rfl) ?_
      refine g_one (i := 0) rfl rfl (by kernel_rfl) fun K' hK => ?_
      go_simp
      have hS1 : Below w2.heap.size w2 (w2.alloc (.cells #[] 34)).drew := ((Below.refl _ w2).alloc (Nat.le_refl _) (.cells #[] 34)).drew
      have hown0 : (w2.alloc (.cells #[] 34)).drew.ownsRow w2.heap.size 34 2 (.slice (some ⟨w2.heap.size, 0, none⟩) 0 0) 0 (ev []) := (Blk.new_ w2 34 #[] rfl).ownS (Nat.le_refl _) 2 0 rfl (by decide)
      refine hK _ _ hS1 ?_
      clear hK K' hS
      generalize (w2.alloc (.cells #[] 34)).drew = wb at *
      refine g_one (i := 4) rfl rfl (by kernel_rfl) fun K' hK => ?_
      have hlq : es.length = q := HQ.out.symm
      refine wp_append_own _ (.tmp 49) (.tmp 52) 22 rfl w2.heap.size 34 i0 _ 2 16 Try.underlying22 hi0 hz0 hz1 hz2 rfl (by omega) _ 0 (ev []) rfl hown0 ⟨g, a0 * 2, none⟩ (q - a0) (c2 - a0) (ev (es.drop a0)) rfl (by rw [Gr.ev_length, List.length_drop, hlq]) (fun j u hu => by
        rw [ev_drop, List.getElem?_drop] at hu
        rw [Addr.add_lit]
        exact (hS1.cell (p := ⟨g, a0 * 2 + j, none⟩) hgl).trans (HCL.out _ _ hu)) (ev_one _) (by unfold maxLen; omega) (by omega) hS1.size ?_
      intro v4 w4 ho4 hg4 _
      have hS4 := hS1.grown hg4 hS1.size (fun j hj => (own_row hown0 hj).1)
      go_simp
      refine hK _ _ hS4 ?_
      clear hK K' hS1 hown0 hg4
      refine g_one (i := 8) rfl rfl (by kernel_rfl) fun K' hK => ?_
      refine wp_append_own _ (.tmp 53) (.tmp 56) 22 rfl w2.heap.size 34 i0 _ 2 16 Try.underlying22 hi0 hz0 hz1 hz2 rfl (by omega) v4 (0 + (q - a0)) (ev [] ++ ev (es.drop a0)) rfl ho4 ⟨g, 0, none⟩ a0 c2 (ev (es.take a0)) rfl (by rw [Gr.ev_length, List.length_take, hlq, Nat.min_eq_left (by omega)]) (fun j u hu => by
        rw [ev_take, List.getElem?_take] at hu
        rw [Addr.add_lit, Nat.zero_add]
        by_cases hj : j < a0 * 2
        · rw [if_pos hj] at hu
          exact (hS4.cell (p := ⟨g, j, none⟩) hgl).trans (HCL.out _ _ hu)
        · rw [if_neg hj] at hu
          cases hu) (ev_one _) (by unfold maxLen; omega) (by omega) hS4.size ?_
      intro v8 w8 ho8 hg8 _
      have hS8 := hS4.grown hg8 hS4.size (fun j hj => (own_row ho4 hj).1)
      have eqq : 0 + (q - a0) + a0 = q := by omega
      rw [eqq] at ho8
      have ho8 : w8.ownsRow w2.heap.size 34 2 v8 q (ev es2) := by
        rw [HE2.out, Gr.ev_append]
        simpa [Gr.ev] using ho8
      obtain ⟨A8, c8, rfl⟩ := own_form ho8
      go_simp
      refine hK _ _ hS8 ?_
      clear hK K' hS4 ho4 hg8
      refine g_take (i := 9) rfl rfl (by kernel_rfl) (by kernel_rfl) (by kernel_rfl) (by kernel_rfl) (by kernel_rfl) (fun _ _ _ h => h) hS8 (fun L' W' hL hW => by go_simp; rfl) ?_
      refine wpAnyG_done (by kernel_rfl) ?_ _
      have HN : Hid (Below w2.heap.size w2 w8 ∧ w8.ownsRow w2.heap.size 34 2 (.slice A8 q c8) q (ev es2)) := Lib.hid ⟨hS8, ho8⟩
      clear hS8 ho8
      go_wp2_with fail
      go_meet
      exact ⟨A8, c8, rfl, HN⟩
  case rest =>
  obtain ⟨A3, c3, rfl, HC⟩ := hcut
  have HO3 := Lib.hid (HO2.out.below HC.out.1)
  have HEA3 := Lib.hid ((EdgesAt.below HEA.out HC.out.1).more' HC.out.1.size)
  have HEB3 : Hid (∀ b off, A2 = some ⟨b, off, none⟩ → b < w2.heap.size) := Lib.hid (fun b off e => (HEB.out b off e).2)
  have HEC := Lib.hid (EdgesAt.of_own HC.out.2).1
  have HECB : Hid (∀ b off, A3 = some ⟨b, off, none⟩ → b < wc.heap.size) := Lib.hid (fun b off e => by
    have h := HC.out.2
    subst e
    obtain ⟨_, _, h2⟩ := own_row h (g := b) rfl
    exact h2.lt)
  have HS23 := Lib.hid HC.out.1.size
  clear HC HO2 HEA HEB HR2 HNIL HE2 haq i2 HAP
  generalize hw3 : wc = w3 at *
  clear hw3
  go_wp2_with fail
  refine Calls.mono (copyO_any w3 w.heap.size o M F L P Ax HO3.out.ord HS.out.ok HS.out.perm (by omega)) ?_
  rintro e w4 ⟨p, rfl, hp, b4⟩
  have HP4 := Lib.hid hp.exist
  have HO4 := Lib.hid (HO3.out.below b4)
  have HB34 := Lib.hid b4
  clear hp b4
  go_wp2_with fail
  refine Calls.mono (copyO_any w4 w.heap.size o M F L P Ax HO4.out.ord HS.out.ok HS.out.perm (by omega)) ?_
  rintro e w5 ⟨r, rfl, hq, b5⟩
  have HPQ : Hid (PQ w w5 (fun k => w3.heap.size ≤ k ∧ k < w4.heap.size) (fun k => w4.heap.size ≤ k ∧ k < w5.heap.size) p M L P Ax r M L P Ax) := Lib.hid (by
    have hl3 := HO3.out.low
    have hs := hl3.size
    have h34 := HB34.out.size
    have h45 := b5.size
    refine ⟨⟨OAt.more (HP4.out.below b5) hs, fun k e => ⟨by omega, by omega⟩, HO4.out.low.trans (b5.mono HO4.out.low.size)⟩, ⟨OAt.more hq.exist HO4.out.low.size, fun k e => ⟨by have := HO4.out.low.size; omega, e.2⟩, HO4.out.low.trans (b5.mono HO4.out.low.size)⟩, fun k e e2 => by omega⟩)
  have hb35 : Below w3.heap.size w3 w5 := HB34.out.trans (b5.mono HB34.out.size)
  have HX : Hid (Apart w5 (fun k => w3.heap.size ≤ k ∧ k < w4.heap.size) (fun k => w4.heap.size ≤ k ∧ k < w5.heap.size) A2 es) := Lib.hid (by
    refine ⟨(EdgesAt.below HEA3.out hb35).more' hb35.size, fun b off e => ?_, fun b off e e2 => ?_, fun b off e e2 => ?_⟩
    · have := HEB3.out b off e; have := HS23.out; have := hb35.size; omega
    · have := HEB3.out b off e; have := HS23.out; omega
    · have := HEB3.out b off e; have := HS23.out; have := HB34.out.size; omega)
  have HY : Hid (Apart w5 (fun k => w3.heap.size ≤ k ∧ k < w4.heap.size) (fun k => w4.heap.size ≤ k ∧ k < w5.heap.size) A3 es2) := Lib.hid (by
    refine ⟨(EdgesAt.below HEC.out hb35).more' hb35.size, fun b off e => ?_, fun b off e e2 => ?_, fun b off e e2 => ?_⟩
    · have := HECB.out b off e; have := hb35.size; omega
    · have := HECB.out b off e; omega
    · have := HECB.out b off e; have := HB34.out.size; omega)
  clear HP4 HO3 HO4 HB34 HEA3 HEB3 HEC HECB HS23 hq b5 hb35
  go_wp2_with fail
  refine Calls.mono (HPQ.out.put HS.out (by omega) (k : Int) HX.out q c2 HQ.out (by omega)) ?_
  rintro e w6 ⟨ch, k1, rfl, f1, Fp, n1, L1, P1, A1, hpq, hs1, hf, hF, hc1⟩
  have HPQ6 := Lib.hid hpq
  have HS1 := Lib.hid hs1
  have HY6 := Lib.hid (HY.out.upd hf hF)
  have HF1 := Lib.hid f1
  have HC1 := Lib.hid hc1
  clear HPQ HX HY f1 hpq hs1 hf hF hc1
  go_wp2_with fail
  refine Calls.mono (HPQ6.out.swap.put HS.out (by omega) (k : Int) HY6.out.swap q c3 HQ2.out (by omega)) ?_
  rintro e w7 ⟨ch2, k2, rfl, f2, Fq, n2', L2, P2, A2', hpq, hs2, -, -, hc2⟩
  have hk12 : k1 = k2 := HF1.out.order (by omega) HS.out (by rw [← HMK.out]; exact HES.out) HMEM.out f2
  have hsame : n1 = n2' ∧ L1 = L2 := by
    have hc1 := HC1.out
    rw [Int.toNat_natCast] at hc1 hc2
    rcases hc1 with ⟨h1, h2, h3⟩ | ⟨h1, -, h3, P3, A3, h4⟩
    · rcases hc2 with ⟨-, g2, g3⟩ | ⟨g1, -⟩
      · exact ⟨h2.trans g2.symm, h3.trans g3.symm⟩
      · omega
    · rcases hc2 with ⟨g1, -⟩ | ⟨-, -, g3, P4, A4, g4⟩
      · omega
      · exact ⟨h3.trans g3.symm, h4.order (HS.out.gro k) HMEM.out g4⟩
  obtain ⟨rfl, rfl⟩ := hsame
  have hn1 : n1 ≤ 10000 := by
    rcases HC1.out with ⟨-, h2, -⟩ | ⟨-, -, h2, -⟩
    · omega
    · rw [Int.toNat_natCast] at h2; omega
  subst hk12
  have HPQ7 := Lib.hid hpq.swap
  have HS2 := Lib.hid hs2
  clear HPQ6 HY6 HF1 HC1 f2 hpq hs2 hc2
  have ek : ((k1 : Int) == (k1 : Int)) = true := by simp
  go_wp2_with fail
  refine Calls.mono (edges_o HPQ7.out.p_.ord HS1.out.ok (by omega)) ?_
  rintro e w8 ⟨A8, c8, rfl, b8, o8⟩
  have HE8 := Lib.hid (EdgesAt.of_own o8)
  have HPQ8 := Lib.hid (HPQ7.out.below b8)
  clear HPQ7 b8 o8
  go_wp2_with fail
  refine Calls.mono (edges_o HPQ8.out.q_.ord HS2.out.ok (by omega)) ?_
  rintro e w9 ⟨A9, c9, rfl, b9, o9⟩
  have HE9 := Lib.hid (EdgesAt.of_own o9)
  have HE89 := Lib.hid ((EdgesAt.below HE8.out.1 b9).more' b9.size)
  have HPQ9 := Lib.hid (HPQ8.out.below b9)
  clear HPQ8 b9 o9
  go_wp2_with fail
  refine Calls.mono (sameEdges_any A8 A9 c8 c9 (edgesTo L1 n1) (edgesTo L1 n1) _ _ rfl rfl HE8.out.2.2.1 HE8.out.2.2.2 w9 HE89.out HE9.out.1) ?_
  rintro e w10 ⟨rfl, b10⟩
  rw [decide_eq_true (show edgesTo L1 n1 = edgesTo L1 n1 from rfl)]
  have HPQ10 := Lib.hid (HPQ9.out.below b10)
  clear HPQ9 b10 HE89 HE8 HE9
  go_wp2_with fail
  refine Calls.mono (len_o HPQ10.out.p_.ord) ?_
  rintro e w' ⟨rfl, rfl⟩
  go_wp2_with fail
  refine Calls.mono (len_o HPQ10.out.q_.ord) ?_
  rintro e w' ⟨rfl, rfl⟩
  have en : ((n1 : Int) == (n1 : Int)) = true := by simp
  have HLW := Lib.hid HPQ10.out.p_.low
  go_wp2_with fail
  refine Calls.mono (awakeB_any _) ?_
  rintro e w9 ⟨rfl, b9⟩
  have HB9 := Lib.hid (HLW.out.trans (b9.mono HLW.out.size))
  clear HLW b9
  go_wp2_with fail
  go_ret
  exact ⟨rfl, HB9.out⟩
end Go.Proofs.Ytelplccbcbegkaa.OrW
