/-
  The walk of BundleTwo.
-/
import Derived.Test.YtelplccbcbegkaaBundleOrderWalk
import Derived.Test.YtelplccbcbegkaaBundlePart
namespace Go.Proofs.Ytelplccbcbegkaa.Ord
set_option linter.unusedVariables false
open Go.Proofs.Ytelplccbcbegkaa.Gr (E Path Inside OK outs intos Cyc putL edgesTo)
open Go.Proofs.Ytelplccbcbegkaa.GrW (isV growL canGrow hasE)
/-- Two bundles, one behind the other, beside both in one. -/
def TwoF (n : Nat) (L : List (List Int)) (P A : List Nat) (i j : Nat) (xs ys : List (Int × Int)) (f n' : Nat) (L' : List (List Int)) : Prop :=
  (∀ k3, FitsC n L P A ((i + j : Nat) : Int) (xs ++ ys) k3 → (f = 0 ↔ k3 = 0)) ∧ (f = 0 → n' = n + (i + j) ∧ ∀ L3 P3 A3, Ran (n + (i + j)) (growL L (i + j)) (gro P n (i + j)) (gro A n (i + j)) (xs ++ ys) L3 P3 A3 → L3 = L')
section
variable {n i j : Nat} {L : List (List Int)} {P A : List Nat} {xs ys : List (Int × Int)}
theorem two_in (hx : ∀ x ∈ xs, ∃ a b : Nat, a < n + i ∧ b < n + i ∧ x = ((a : Int), (b : Int))) (hy : ∀ x ∈ ys, ∃ a b : Nat, a < n + i + j ∧ b < n + i + j ∧ x = ((a : Int), (b : Int))) : ∀ x ∈ xs ++ ys, ∃ a b : Nat, a < n + (i + j) ∧ b < n + (i + j) ∧ x = ((a : Int), (b : Int)) := fun x hm => by
  rcases List.mem_append.1 hm with hm | hm
  · obtain ⟨a, b, ha, hb, e⟩ := hx x hm
    exact ⟨a, b, by omega, by omega, e⟩
  · obtain ⟨a, b, ha, hb, e⟩ := hy x hm
    exact ⟨a, b, by omega, by omega, e⟩
/-- The first one does not fit. -/
theorem TwoF.first (hs : OSt n L P A) (hn : n + (i + j) ≤ 10000) (hx : ∀ x ∈ xs, ∃ a b : Nat, a < n + i ∧ b < n + i ∧ x = ((a : Int), (b : Int))) {k n' : Nat} {L' : List (List Int)} (h : FitsC n L P A (i : Int) xs k) (hk : k ≠ 0) : TwoF n L P A i j xs ys k n' L' := by
  refine ⟨fun k3 h3 => ⟨fun e => absurd e hk, fun e => ?_⟩, fun e => absurd e hk⟩
  subst e
  obtain ⟨a1, L1, P1, A1, w1⟩ := OrW.fits0 h (by omega)
  obtain ⟨a3, L3, P3, A3, w3⟩ := OrW.fits0 h3 hn
  obtain ⟨-, hr⟩ := w3.all
  have hst := hr.st (hs.gro (i + j))
  have := w1.fits (hs.gro i) hst (fun x y h => (hr.edge (hs.gro (i + j)) x y).2 (.inl ((grow_edge hs.ok).2 ((grow_edge hs.ok).1 h)))) (fun x y h => (hr.edge (hs.gro (i + j)) x y).2 (.inr (List.mem_append_left _ h)))
  exact absurd ((w1.inside hx).resolve_right this) hk
/-- The first one fits. -/
theorem TwoF.both (hs : OSt n L P A) (hn : n + (i + j) ≤ 10000) (hx : ∀ x ∈ xs, ∃ a b : Nat, a < n + i ∧ b < n + i ∧ x = ((a : Int), (b : Int))) (hy : ∀ x ∈ ys, ∃ a b : Nat, a < n + i + j ∧ b < n + i + j ∧ x = ((a : Int), (b : Int))) {k n' : Nat} {L1 L' : List (List Int)} {P1 A1 P1' A1' : List Nat} (hr1 : Ran (n + i) (growL L i) (gro P n i) (gro A n i) xs L1 P1' A1') (hs1 : OSt (n + i) L1 P1 A1)
    (h2 : FitsC (n + i) L1 P1 A1 (j : Int) ys k) (hc : k = 0 → n' = n + i + j ∧ ∃ P2 A2, Ran (n + i + j) (growL L1 j) (gro P1 (n + i) j) (gro A1 (n + i) j) ys L' P2 A2) : TwoF n L P A i j xs ys k n' L' := by
  have e1 := hr1.edge (hs.gro i)
  refine ⟨fun k3 h3 => ⟨fun e => ?_, fun e => ?_⟩, fun e => ?_⟩
  · obtain ⟨-, P2, A2, hr2⟩ := hc e
    have hst := hr2.st (hs1.gro j)
    have e2 := hr2.edge (hs1.gro j)
    obtain ⟨a3, L3, P3, A3, w3⟩ := OrW.fits0 h3 hn
    have := w3.fits (hs.gro (i + j)) hst (fun x y h => (e2 x y).2 (.inl ((grow_edge hs1.ok).2 ((e1 x y).2 (.inl ((grow_edge hs.ok).2 ((grow_edge hs.ok).1 h))))))) (fun x y h => by
      rcases List.mem_append.1 h with h | h
      · exact (e2 x y).2 (.inl ((grow_edge hs1.ok).2 ((e1 x y).2 (.inr h))))
      · exact (e2 x y).2 (.inr h))
    exact (w3.inside (two_in hx hy)).resolve_right this
  · subst e
    obtain ⟨a3, L3, P3, A3, w3⟩ := OrW.fits0 h3 hn
    obtain ⟨-, hr⟩ := w3.all
    have hst := hr.st (hs.gro (i + j))
    have e3 := hr.edge (hs.gro (i + j))
    obtain ⟨a2, L2, P2, A2, w2⟩ := OrW.fits0 h2 (by omega)
    have := w2.fits (hs1.gro j) hst (fun x y h => by
      rcases (e1 x y).1 ((grow_edge hs1.ok).1 h) with h | h
      · exact (e3 x y).2 (.inl ((grow_edge hs.ok).2 ((grow_edge hs.ok).1 h)))
      · exact (e3 x y).2 (.inr (List.mem_append_left _ h))) (fun x y h => (e3 x y).2 (.inr (List.mem_append_right _ h)))
    exact (w2.inside hy).resolve_right this
  · obtain ⟨hn', P2, A2, hr2⟩ := hc e
    refine ⟨by omega, fun L3 P3 A3 hr3 => ?_⟩
    have hst2 := hr2.st (hs1.gro j)
    have hst3 := hr3.st (hs.gro (i + j))
    have e2 := hr2.edge (hs1.gro j)
    have e3 := hr3.edge (hs.gro (i + j))
    have hst2' : OK (n + (i + j)) L' := by rw [← Nat.add_assoc]; exact hst2.ok
    refine ok_same hst3.ok hst2' fun x y => ?_
    rw [e3, e2, grow_edge hs.ok, grow_edge hs1.ok, e1, grow_edge hs.ok, List.mem_append, or_assoc]
end
end Go.Proofs.Ytelplccbcbegkaa.Ord
namespace Go.Proofs.Ytelplccbcbegkaa.OrW
set_option linter.unusedVariables false
open Go Go.RowKit Go.Maps Go.Proofs Go.Proofs.Ytelplccbcbegkaa Go.Proofs.Ytelplccbcbegkaa.Wd Go.Proofs.Ytelplccbcbegkaa.GrW Go.Proofs.Ytelplccbcbegkaa.Ord
open Go.Proofs.Ytelplccbcbegkaa.Gr (OK putL outs intos Path edgesTo ev)
/-- Behind the second bundle. -/
def TwoMid (w wx : World) (p r M : Nat) (L : List (List Int)) (P Ax : List Nat) (i j : Nat) (xs ys : List (Int × Int)) (A2 A3 : Option Addr) (qx cx qy cy : Nat) (f : Nat) : Prop :=
  ∃ (Fp Fq : Nat → Prop) (n' : Nat) (L' : List (List Int)) (P' A' : List Nat), PQ w wx Fp Fq p n' L' P' A' r M L P Ax ∧ OSt n' L' P' A' ∧ n' ≤ 100 ∧ wx.ownsRow w.heap.size 34 2 (.slice A2 qx cx) qx (ev xs) ∧ wx.ownsRow w.heap.size 34 2 (.slice A3 qy cy) qy (ev ys) ∧ TwoF M L P Ax i j xs ys f n' L'
theorem own_apart {wx w' : World} {base n c : Nat} {A : Option Addr} {es : List (Int × Int)} {Fp Fq : Nat → Prop} (h : wx.ownsRow base 34 2 (.slice A n c) n (ev es)) (ha : Apart wx Fp Fq A es) (hf : Fr Fp wx w') : w'.ownsRow base 34 2 (.slice A n c) n (ev es) :=
  own_keep h fun g e => by
    cases A with
    | none => simp [Value.ownBlock] at e
    | some a =>
      obtain ⟨b, off, sp⟩ := a
      have e : b = g := by simpa [Value.ownBlock] using e
      subst e
      rcases h.2 with ⟨hv, -⟩ | ⟨g, cap, cur, hv, _⟩
      · cases hv
      · cases hv
        exact hf.block _ (ha.lt _ _ rfl) (ha.np _ _ rfl)
set_option maxRecDepth 100000 in
set_option maxHeartbeats 16000000 in
theorem two_walk (nb : Nat) (hnb : nb < 256) (A : Option Addr) (c : Nat) (l : List (Int × Int)) (n : Nat) (hn : n = l.length) (hnc : n ≤ c) (hcm : c ≤ maxLen) (ma : Int) (Aa : Option Addr) (ca : Nat) (la : List (Int × Int)) (na : Nat) (hna : na = la.length) (hnca : na ≤ ca) (hcam : ca ≤ maxLen) (mb : Int) (Ab : Option Addr) (cb : Nat) (lb : List (Int × Int)) (nbb : Nat) (hnbb : nbb = lb.length) (hncb : nbb ≤ cb) (hcbm : cb ≤ maxLen) (w : World) (hI : EdgesAt w w.heap.size A l) (hJ : EdgesAt w w.heap.size Aa la) (hK : EdgesAt w w.heap.size Ab lb) :
    Calls Try.prog 6 #[.int .u8 nb, .slice A n c, .agg #[.int .i64 ma, .slice Aa na ca], .agg #[.int .i64 mb, .slice Ab nbb cb]] w fun e w' => e = .returned (.bool true) ∧ Below w.heap.size w w' := by
  obtain ⟨w0, hw0⟩ : ∃ w0, w0 = ((w.alloc (.cells #[.int .i64 ma, .slice Aa na ca] 59)).alloc (.cells #[.int .i64 mb, .slice Ab nbb cb] 59)) := ⟨_, rfl⟩
  have hb0 : Below w.heap.size w w0 := by rw [hw0]; exact ((Below.refl _ w).alloc (Nat.le_refl _) _).alloc (by simp) _
  have HB0 := Lib.hid hb0
  have HBA : Hid (Blk w0 w.heap.size 59 #[.int .i64 ma, .slice Aa na ca]) := Lib.hid (by rw [hw0]; exact (Blk.new_ w _ _ rfl).alloc _)
  have HBB : Hid (Blk w0 (w.heap.size + 1) 59 #[.int .i64 mb, .slice Ab nbb cb]) := Lib.hid (by rw [hw0]; exact Blk.new_ _ _ _ (by simp))
  have HOF := Lib.hid (ofB_any nb hnb A c l n hn hnc hcm w0 ((EdgesAt.below hI hb0).more' hb0.size))
  have hMb : 2 ≤ 2 + nb % 30 ∧ 2 + nb % 30 ≤ 31 := ⟨Nat.le_add_right 2 _, Nat.add_le_add_left (Nat.le_of_lt_succ (Nat.mod_lt nb (by decide))) 2⟩
  generalize 2 + nb % 30 = M at *
  obtain ⟨i, hi1, hi8⟩ := mod_nat ma 8 (by decide)
  obtain ⟨j, hj1, hj8⟩ := mod_nat mb 8 (by decide)
  have HI1 := Lib.hid hi1
  have HJ1 := Lib.hid hj1
  have hM1 := hMb.1
  have hM2 := hMb.2
  have HJ := Lib.hid hJ
  have HK := Lib.hid hK
  have HNA := Lib.hid hna
  have HNB := Lib.hid hnbb
  have HW0 := Lib.hid hw0
  clear hI hJ hK hn hnc hcm hMb hna hnbb hi1 hj1 hw0 hb0
  go_enter Try.func6, Try.ntmps6
  go_wp2_with fail
  rw [← HW0.out]
  refine Calls.mono HOF.out ?_
  rintro e w1 ⟨o, rfl, h1⟩
  have HO1 := Lib.hid h1
  have HL1 : Hid (Below w0.heap.size w0 w1) := Lib.hid h1.low
  clear HOF h1
  go_wp2_with fail
  have HCA : Hid (∀ W, Below w1.heap.size w1 W → W.cell? ⟨w.heap.size, 0, none⟩ = some (.int .i64 ma) ∧ W.cell? ⟨w.heap.size, 1, none⟩ = some (.slice Aa na ca) ∧ W.cell? ⟨w.heap.size + 1, 0, none⟩ = some (.int .i64 mb) ∧ W.cell? ⟨w.heap.size + 1, 1, none⟩ = some (.slice Ab nbb cb)) := Lib.hid (fun W hW => by
    have h1 := (HBA.out.below HL1.out HBA.out.lt)
    have h2 := h1.below hW h1.lt
    have h3 := (HBB.out.below HL1.out HBB.out.lt)
    have h4 := h3.below hW h3.lt
    exact ⟨h2.at_ 0 rfl, h2.at_ 1 rfl, h4.at_ 0 rfl, h4.at_ 1 rfl⟩)
  have hS : Below w1.heap.size w1 w1.drew := (Below.refl _ w1).drew
  refine wp_region_heldG [] (fun _ W => Below w1.heap.size w1 W) (by kernel_rfl) ?_
  change wpAnyG _ _ _ _ _ _ 8 _ _ w1.drew
  refine g_take (i := 0) rfl rfl (by kernel_rfl) (by kernel_rfl) (by kernel_rfl) (by kernel_rfl) (by kernel_rfl) (fun _ _ _ h => h) hS (fun L' W' hL hW => by go_simp; rfl) ?_
  refine g_take (i := 1) rfl rfl (by kernel_rfl) (by kernel_rfl) (by kernel_rfl) (by kernel_rfl) (by kernel_rfl) (fun _ _ _ h => h) hS (fun L' W' hL hW => by obtain ⟨k0, k1, k2, k3⟩ := HCA.out _ hW; go_simp; rfl) ?_
  refine g_take (i := 3) rfl rfl (by kernel_rfl) (by kernel_rfl) (by kernel_rfl) (by kernel_rfl) (by kernel_rfl) (fun _ _ _ h => h) hS (fun L' W' hL hW => by go_simp; rfl) ?_
  refine g_take (i := 4) rfl rfl (by kernel_rfl) (by kernel_rfl) (by kernel_rfl) (by kernel_rfl) (by kernel_rfl) (fun _ _ _ h => h) hS (fun L' W' hL hW => by obtain ⟨k0, k1, k2, k3⟩ := HCA.out _ hW; go_simp; rfl) ?_
  refine g_one (i := 2) rfl rfl (by kernel_rfl) fun K' hK => ?_
  go_simp
  refine Calls.mono (among_any ma 8 (by decide) (by decide) _) ?_
  rintro e w' ⟨rfl, rfl⟩
  rw [HI1.out]
  refine hK _ _ hS ?_
  clear hK K'
  refine g_one (i := 5) rfl rfl (by kernel_rfl) fun K' hK => ?_
  go_simp
  refine Calls.mono (among_any mb 8 (by decide) (by decide) _) ?_
  rintro e w' ⟨rfl, rfl⟩
  rw [HJ1.out]
  refine hK _ _ hS ?_
  clear hK K'
  refine g_take (i := 6) rfl rfl (by kernel_rfl) (by kernel_rfl) (by kernel_rfl) (by kernel_rfl) (by kernel_rfl) (fun _ _ _ h => h) hS (fun L' W' hL hW => by go_simp; rfl) ?_
  refine g_take (i := 7) rfl rfl (by kernel_rfl) (by kernel_rfl) (by kernel_rfl) (by kernel_rfl) (by kernel_rfl) (fun _ _ _ h => h) hS (fun L' W' hL hW => by go_simp; rfl) ?_
  refine wpAnyG_done (by kernel_rfl) ?_ _
  obtain ⟨Mi, hMi⟩ : ∃ Mi, Mi = M + i := ⟨_, rfl⟩
  obtain ⟨Mj, hMj⟩ : ∃ Mj, Mj = M + i + j := ⟨_, rfl⟩
  obtain ⟨ij, hij⟩ : ∃ ij, ij = i + j := ⟨_, rfl⟩
  have HMI := Lib.hid hMi
  have HMJ := Lib.hid hMj
  have HIJ := Lib.hid hij
  have hMi2 : 2 ≤ Mi ∧ Mi ≤ 50 := by omega
  have hMj2 : 2 ≤ Mj ∧ Mj ≤ 50 := by omega
  have V3 : Hid ((i : Int) + (j : Int) = (ij : Int)) := Lib.hid (by omega)
  have hij14 : ij ≤ 14 := by omega
  clear hMi hMj hij
  go_simp
  go_wp2_with fail
  have hS : Below w1.heap.size w1 w1.drew.drew := hS.drew
  have v1 : IntKind.i64.wrap ((M : Int) + (i : Int)) = (Mi : Int) := by rw [IntKind.wrap_i64]; have := HMI.out; omega
  have v2 : IntKind.i64.wrap ((Mi : Int) + (j : Int)) = (Mj : Int) := by rw [IntKind.wrap_i64]; have := HMI.out; have := HMJ.out; omega
  refine wp_region_heldG [] (fun _ W => Below w1.heap.size w1 W) (by kernel_rfl) ?_
  change wpAnyG _ _ _ _ _ _ 16 _ _ w1.drew.drew
  refine g_take (i := 0) rfl rfl (by kernel_rfl) (by kernel_rfl) (by kernel_rfl) (by kernel_rfl) (by kernel_rfl) (fun _ _ _ h => h) hS (fun L' W' hL hW => by go_simp; rfl) ?_
  refine g_take (i := 1) rfl rfl (by kernel_rfl) (by kernel_rfl) (by kernel_rfl) (by kernel_rfl) (by kernel_rfl) (fun _ _ _ h => h) hS (fun L' W' hL hW => by obtain ⟨k0, k1, k2, k3⟩ := HCA.out _ hW; go_simp; rfl) ?_
  refine g_take (i := 2) rfl rfl (by kernel_rfl) (by kernel_rfl) (by kernel_rfl) (by kernel_rfl) (by kernel_rfl) (fun _ _ _ h => h) hS (fun L' W' hL hW => by go_simp; rfl) ?_
  refine g_take (i := 3) rfl rfl (by kernel_rfl) (by kernel_rfl) (by kernel_rfl) (by kernel_rfl) (by kernel_rfl) (fun _ _ _ h => h) hS (fun L' W' hL hW => by go_simp; rfl) ?_
  refine g_take (i := 4) rfl rfl (by kernel_rfl) (by kernel_rfl) (by kernel_rfl) (by kernel_rfl) (by kernel_rfl) (fun _ _ _ h => h) hS (fun L' W' hL hW => by go_simp; rfl) ?_
  refine g_take (i := 6) rfl rfl (by kernel_rfl) (by kernel_rfl) (by kernel_rfl) (by kernel_rfl) (by kernel_rfl) (fun _ _ _ h => h) hS (fun L' W' hL hW => by go_simp; rfl) ?_
  refine g_take (i := 7) rfl rfl (by kernel_rfl) (by kernel_rfl) (by kernel_rfl) (by kernel_rfl) (by kernel_rfl) (fun _ _ _ h => h) hS (fun L' W' hL hW => by obtain ⟨k0, k1, k2, k3⟩ := HCA.out _ hW; go_simp; rfl) ?_
  refine g_take (i := 8) rfl rfl (by kernel_rfl) (by kernel_rfl) (by kernel_rfl) (by kernel_rfl) (by kernel_rfl) (fun _ _ _ h => h) hS (fun L' W' hL hW => by go_simp; rfl) ?_
  refine g_take (i := 9) rfl rfl (by kernel_rfl) (by kernel_rfl) (by kernel_rfl) (by kernel_rfl) (by kernel_rfl) (fun _ _ _ h => h) hS (fun L' W' hL hW => by go_simp; rfl) ?_
  refine g_take (i := 10) rfl rfl (by kernel_rfl) (by kernel_rfl) (by kernel_rfl) (by kernel_rfl) (by kernel_rfl) (fun _ _ _ h => h) hS (fun L' W' hL hW => by go_simp; rfl) ?_
  refine g_take (i := 11) rfl rfl (by kernel_rfl) (by kernel_rfl) (by kernel_rfl) (by kernel_rfl) (by kernel_rfl) (fun _ _ _ h => h) hS (fun L' W' hL hW => by go_simp; rfl) ?_
  refine g_take (i := 12) rfl rfl (by kernel_rfl) (by kernel_rfl) (by kernel_rfl) (by kernel_rfl) (by kernel_rfl) (fun _ _ _ h => h) hS (fun L' W' hL hW => by go_simp; rfl) ?_
  refine g_one (i := 5) rfl rfl (by kernel_rfl) fun K' hK => ?_
  go_simp
  refine Calls.mono (within_any Aa ca la na HNA.out hnca hcam Mi (by omega) (by omega) _ ((EdgesAt.below HJ.out ((HB0.out.trans (HL1.out.mono HB0.out.size)).drew.drew)).more' (Nat.le_trans HB0.out.size HL1.out.size))) ?_
  rintro e w2 ⟨A2, cx, rfl, b2, o2⟩
  obtain ⟨xs, hes⟩ : ∃ xs, xs = withinL Mi la := ⟨_, rfl⟩
  have HINxs : Hid (∀ x ∈ xs, ∃ a b : Nat, a < Mi ∧ b < Mi ∧ x = ((a : Int), (b : Int))) := Lib.hid (by rw [hes]; exact withinL_each (by omega) la)
  have h40qx : xs.length ≤ 40 := by rw [hes]; exact withinL_len _ _
  rw [← hes] at o2 ⊢
  clear hes
  obtain ⟨qx, hq⟩ : ∃ qx, qx = xs.length := ⟨_, rfl⟩
  rw [← hq] at o2 h40qx ⊢
  have HQqx := Lib.hid hq
  clear hq
  have hS2 : Below w1.heap.size w1 w2 := hS.trans b2
  have HR2 := Lib.hid o2
  have HB2 := Lib.hid b2
  refine hK _ _ hS2 ?_
  clear hK K' o2 b2
  refine g_one (i := 13) rfl rfl (by kernel_rfl) fun K' hK => ?_
  go_simp
  refine Calls.mono (within_any Ab cb lb nbb HNB.out hncb hcbm Mj (by omega) (by omega) w2 ((EdgesAt.below HK.out ((HB0.out.trans (HL1.out.mono HB0.out.size)).trans (hS2.mono (Nat.le_trans HB0.out.size HL1.out.size)))).more' (Nat.le_trans (Nat.le_trans HB0.out.size HL1.out.size) hS2.size))) ?_
  rintro e w3 ⟨A3, cy, rfl, b3, o3⟩
  obtain ⟨ys, hes⟩ : ∃ ys, ys = withinL Mj lb := ⟨_, rfl⟩
  have HINys : Hid (∀ x ∈ ys, ∃ a b : Nat, a < Mj ∧ b < Mj ∧ x = ((a : Int), (b : Int))) := Lib.hid (by rw [hes]; exact withinL_each (by omega) lb)
  have h40qy : ys.length ≤ 40 := by rw [hes]; exact withinL_len _ _
  rw [← hes] at o3 ⊢
  clear hes
  obtain ⟨qy, hq⟩ : ∃ qy, qy = ys.length := ⟨_, rfl⟩
  rw [← hq] at o3 h40qy ⊢
  have HQqy := Lib.hid hq
  clear hq
  have hS3 : Below w1.heap.size w1 w3 := hS2.trans (b3.mono hS2.size)
  have HR3 := Lib.hid (own_base o3 (show w1.heap.size ≤ w2.heap.size from hS2.size))
  have HR23 := Lib.hid (own_base (own_belowW HR2.out b3) (Nat.le_refl w1.heap.size))
  refine hK _ _ hS3 ?_
  clear hK K' o3 b3 HR2 HB2 hS2
  refine g_take (i := 14) rfl rfl (by kernel_rfl) (by kernel_rfl) (by kernel_rfl) (by kernel_rfl) (by kernel_rfl) (fun _ _ _ h => h) hS3 (fun L' W' hL hW => by go_simp; rfl) ?_
  refine g_take (i := 15) rfl rfl (by kernel_rfl) (by kernel_rfl) (by kernel_rfl) (by kernel_rfl) (by kernel_rfl) (fun _ _ _ h => h) hS3 (fun L' W' hL hW => by go_simp; rfl) ?_
  refine wpAnyG_done (by kernel_rfl) ?_ _
  clear v1 v2 hS HCA HBA HBB
  obtain ⟨F, L, P, Ax, hO, hSt⟩ := HO1.out
  have HO3 : Hid (OnF w w3 F o M L P Ax) := Lib.hid (by
    have h := hO.below hS3
    refine ⟨OAt.more h.ord HB0.out.size, fun k e => ⟨Nat.le_trans HB0.out.size (h.f1 k e).1, (h.f1 k e).2⟩, HB0.out.trans (h.low.mono HB0.out.size)⟩)
  have HS := Lib.hid hSt
  have hw1 : w.heap.size ≤ w1.heap.size := Nat.le_trans HB0.out.size HL1.out.size
  have HX3 := Lib.hid (own_base HR23.out hw1)
  have HY3 := Lib.hid (own_base HR3.out hw1)
  clear HO1 hO hSt hS3 HR23 HR3 HJ HK HB0 HL1 HW0 hw1
  go_simp
  go_wp2_with fail
  refine Calls.mono (copyO_any w3 w.heap.size o M F L P Ax HO3.out.ord HS.out.ok HS.out.perm (by omega)) ?_
  rintro e w4 ⟨p, rfl, hp, b4⟩
  have HP4 := Lib.hid hp.exist
  have HO4 := Lib.hid (HO3.out.below b4)
  have HB34 := Lib.hid b4
  clear hp b4
  go_wp2_with fail
  refine Calls.mono (copyO_any w4 w.heap.size o M F L P Ax HO4.out.ord HS.out.ok HS.out.perm (by omega)) ?_
  rintro e w5 ⟨r, rfl, hq, b5⟩
  have HPQ : Hid (PQ w w5 (fun k => w3.heap.size ≤ k ∧ k < w4.heap.size) (fun k => w4.heap.size ≤ k ∧ k < w5.heap.size) p M L P Ax r M L P Ax) := Lib.hid (by
    have hl3 := HO3.out.low
    have hs := hl3.size
    have h34 := HB34.out.size
    have h45 := b5.size
    refine ⟨⟨OAt.more (HP4.out.below b5) hs, fun k e => ⟨by omega, by omega⟩, HO4.out.low.trans (b5.mono HO4.out.low.size)⟩, ⟨OAt.more hq.exist HO4.out.low.size, fun k e => ⟨by have := HO4.out.low.size; omega, e.2⟩, HO4.out.low.trans (b5.mono HO4.out.low.size)⟩, fun k e e2 => by omega⟩)
  have hb35 : Below w3.heap.size w3 w5 := HB34.out.trans (b5.mono HB34.out.size)
  have hAp : ∀ {A9 : Option Addr} {q9 c9 : Nat} {es : List (Int × Int)}, w3.ownsRow w.heap.size 34 2 (.slice A9 q9 c9) q9 (ev es) → Apart w5 (fun k => w3.heap.size ≤ k ∧ k < w4.heap.size) (fun k => w4.heap.size ≤ k ∧ k < w5.heap.size) A9 es := @fun A9 q9 c9 es h => by
    have hb : ∀ b off, A9 = some ⟨b, off, none⟩ → b < w3.heap.size := fun b off e => by
      subst e
      obtain ⟨_, _, h2⟩ := own_row h (g := b) rfl
      exact h2.lt
    have h34 := HB34.out.size
    refine ⟨(EdgesAt.below (EdgesAt.of_own h).1 hb35).more' hb35.size, fun b off e => ?_, fun b off e e2 => ?_, fun b off e e2 => ?_⟩
    · have := hb b off e; have := hb35.size; omega
    · have := hb b off e; omega
    · have := hb b off e; omega
  have HX := Lib.hid (hAp HX3.out)
  have HY := Lib.hid (hAp HY3.out)
  have HX5 := Lib.hid (own_belowW HX3.out hb35)
  have HY5 := Lib.hid (own_belowW HY3.out hb35)
  clear HP4 HO3 HO4 HB34 hq b5 hb35 hAp HX3 HY3
  go_wp2_with fail
  refine Calls.mono (HPQ.out.put HS.out (by omega) (i : Int) HX.out qx cx HQqx.out (by omega)) ?_
  rintro e w6 ⟨ch, k1, rfl, f1, Fp, n1, L1, P1, A1, hpq, hs1, hf, hF, hc1⟩
  have HPQ6 := Lib.hid hpq
  have HS1 := Lib.hid hs1
  have HY6 := Lib.hid (HY.out.upd hf hF)
  have HX6 := Lib.hid (HX.out.upd hf hF)
  have HYR6 := Lib.hid (own_apart HY5.out HY.out hf)
  have HXR6 := Lib.hid (own_apart HX5.out HX.out hf)
  have HF1 := Lib.hid f1
  have HC1 := Lib.hid hc1
  clear HPQ HX HY HX5 HY5 f1 hpq hs1 hf hF hc1
  go_upto_if 65 with fail
  go_cut [20] (fun v20 wx => ∃ f : Nat, v20 = .int .i64 (f : Nat) ∧ Hid (TwoMid w wx p r M L P Ax i j xs ys A2 A3 qx cx qy cy f))
  case first =>
    by_cases hk1 : k1 = 0
    · have ek : ((k1 : Int) == 0) = true := by rw [beq_iff_eq]; omega
      have hc1 := HC1.out
      rw [Int.toNat_natCast] at hc1
      obtain ⟨-, -, hn1, P1', A1', hr1⟩ := hc1.resolve_left (fun e => e.1 hk1)
      have HR1 := Lib.hid hr1
      have HN1 := Lib.hid hn1
      have hn1b : n1 ≤ 50 := by omega
      clear hc1 hr1 hn1 hk1
      go_wp2_with fail
      refine Calls.mono (HPQ6.out.put HS1.out (by omega) (j : Int) HY6.out qy cy HQqy.out (by omega)) ?_
      rintro e w7 ⟨ch2, k2, rfl, f2, Fp2, n2, L2, P2, A2', hpq, hs2, hf, hF, hc2⟩
      have hn2 : n2 ≤ 100 := by
        rw [Int.toNat_natCast] at hc2
        rcases hc2 with ⟨-, h, -⟩ | ⟨-, -, h, -⟩ <;> omega
      have HN : Hid (TwoMid w w7 p r M L P Ax i j xs ys A2 A3 qx cx qy cy k2) := Lib.hid (by
        have hN1 := HN1.out
        subst hN1
        refine ⟨_, _, n2, L2, P2, A2', hpq, hs2, hn2, own_apart HXR6.out HX6.out hf, own_apart HYR6.out HY6.out hf, TwoF.both HS.out (by omega) (by rw [← HMI.out]; exact HINxs.out) (by rw [← HMJ.out]; exact HINys.out) HR1.out HS1.out f2 (fun e => ?_)⟩
        rw [Int.toNat_natCast] at hc2
        rcases hc2 with ⟨h, -⟩ | ⟨-, -, h, P4, A4, hr⟩
        · exact absurd e h
        · exact ⟨h, P4, A4, hr⟩)
      clear f2 hpq hs2 hf hF hc2 HPQ6 HS1 HY6 HX6 HYR6 HXR6 HF1 HC1 HR1 HN1
      go_wp2_with fail
      go_meet
      exact ⟨k2, rfl, HN⟩
    · have ek : ((k1 : Int) == 0) = false := by rw [beq_eq_false_iff_ne]; omega
      have HN : Hid (TwoMid w w6 p r M L P Ax i j xs ys A2 A3 qx cx qy cy k1) := Lib.hid (by
        have hc1 := HC1.out
        refine ⟨_, _, n1, L1, P1, A1, HPQ6.out, HS1.out, ?_, HXR6.out, HYR6.out, TwoF.first HS.out (by omega) (by rw [← HMI.out]; exact HINxs.out) HF1.out hk1⟩
        rcases hc1 with ⟨-, h, -⟩ | ⟨h, -⟩ <;> omega)
      clear HPQ6 HS1 HY6 HX6 HYR6 HXR6 HF1 HC1
      go_wp2_with fail
      go_meet
      exact ⟨k1, rfl, HN⟩
  case rest =>
  obtain ⟨f, rfl, HM⟩ := hcut
  clear HPQ6 HS1 HY6 HX6 HYR6 HXR6 HF1 HC1
  obtain ⟨Fp9, Fq9, n9, L9, P9, A9, hpq, hs9, hn9, hx9, hy9, htf⟩ := HM.out
  have HPQ := Lib.hid hpq
  have HS9 := Lib.hid hs9
  have HX9 := Lib.hid hx9
  have HY9 := Lib.hid hy9
  have HTF := Lib.hid htf
  clear HM hpq hs9 hx9 hy9 htf
  generalize hwc : wc = w7 at *
  clear hwc
  have v3 := V3.out
  obtain ⟨i0, hi0, hz0, hz1, hz2⟩ := info_parts infoEdge
  have hb1 : Below w7.heap.size w7 (w7.alloc (.cells #[] 34)) := (Below.refl _ w7).alloc (Nat.le_refl _) _
  have hown0 : (w7.alloc (.cells #[] 34)).ownsRow w7.heap.size 34 2 (.slice (some ⟨w7.heap.size, 0, none⟩) 0 0) 0 (ev []) := (Blk.new_ w7 34 #[] rfl).ownS (Nat.le_refl _) 2 0 rfl (by decide)
  have HX1 := Lib.hid (own_belowW HX9.out hb1)
  have HOWN0 := Lib.hid hown0
  have HBB1 := Lib.hid hb1
  clear hb1 hown0
  go_wp2_with (at_builtin; refine wpList_plain rfl fun _ hK => wp_append_own2 _ (.tmp 78) (.tmp 79) 22 rfl w7.heap.size w.heap.size 34 i0 _ 2 16 Try.underlying22 hi0 hz0 hz1 hz2 rfl (by omega) _ 0 (ev []) rfl HOWN0.out A2 qx cx (ev xs) rfl HX1.out (ev_one xs) (by unfold maxLen; omega) (by omega) HBB1.out.size ?_)
  intro v8 w8 ho8 hg8 _
  refine hK _ _ ?_
  clear hK
  have hb8 := HBB1.out.grown hg8 HBB1.out.size (fun j hj => (own_row HOWN0.out hj).1)
  have HB8 := Lib.hid hb8
  have HY1 := Lib.hid (own_belowW HY9.out hb8)
  have HO8 := Lib.hid ho8
  clear ho8 hg8 hb8 HX1 HOWN0 HBB1
  go_wp2_with (at_builtin; refine wpList_plain rfl fun _ hK => wp_append_own2 _ (.tmp 80) (.tmp 81) 22 rfl w7.heap.size w.heap.size 34 i0 _ 2 16 Try.underlying22 hi0 hz0 hz1 hz2 rfl (by omega) v8 qx (ev [] ++ ev xs) rfl HO8.out A3 qy cy (ev ys) rfl HY1.out (ev_one ys) (by unfold maxLen; omega) (by omega) HB8.out.size ?_)
  intro v9 w9 ho9 hg9 _
  refine hK _ _ ?_
  clear hK
  have hb9 := HB8.out.grown hg9 HB8.out.size (fun j hj => (own_row HO8.out hj).1)
  obtain ⟨qz, hqz⟩ : ∃ qz, qz = qx + qy := ⟨_, rfl⟩
  have ho9 : w9.ownsRow w7.heap.size 34 2 v9 qz (ev (xs ++ ys)) := by
    rw [Gr.ev_append, hqz]
    simpa [Gr.ev] using ho9
  obtain ⟨Az, cz, rfl⟩ := own_form ho9
  have HQZ : Hid (qz = (xs ++ ys).length) := Lib.hid (by rw [List.length_append, hqz, HQqx.out, HQqy.out])
  have hqz80 : qz ≤ 80 := by omega
  have HPQ9 := Lib.hid (HPQ.out.below hb9)
  have HZ : Hid (Apart w9 Fp9 Fq9 Az (xs ++ ys)) := Lib.hid (by
    have hb : ∀ b off, Az = some ⟨b, off, none⟩ → w7.heap.size ≤ b ∧ b < w9.heap.size := fun b off e => by
      subst e
      obtain ⟨h1, _, h2⟩ := own_row ho9 (g := b) rfl
      exact ⟨h1, h2.lt⟩
    exact ⟨(EdgesAt.of_own ho9).1, fun b off e => (hb b off e).2, fun b off e e2 => by have := (hb b off e).1; have := (HPQ.out.p_.f1 b e2).2; omega, fun b off e e2 => by have := (hb b off e).1; have := (HPQ.out.q_.f1 b e2).2; omega⟩)
  clear hqz ho9 hg9 hb9 HY1 HO8 HB8 HPQ HX9 HY9
  go_wp2_with fail
  clear v3
  refine Calls.mono (HPQ9.out.swap.put HS.out (by omega) (ij : Int) HZ.out.swap qz cz HQZ.out (by omega)) ?_
  rintro e w10 ⟨ch3, k3, rfl, f3, Fq3, n3, L3, P3, A3', hpq, hs3, -, -, hc3⟩
  have hij := HIJ.out
  subst hij
  have hiff := HTF.out.1 k3 f3
  have HPQ10 := Lib.hid hpq.swap
  have HS3 := Lib.hid hs3
  by_cases hf0 : f = 0
  · obtain ⟨hn9', hL9⟩ := HTF.out.2 hf0
    have hk3 := hiff.1 hf0
    rw [Int.toNat_natCast] at hc3
    obtain ⟨-, -, hn3, P4, A4, hr3⟩ := hc3.resolve_left (fun e => e.1 hk3)
    have hsame : n3 = n9 := hn3.trans hn9'.symm
    have hLs : L3 = L9 := hL9 _ _ _ hr3
    subst hsame
    subst hLs
    have ef : ((f : Int) == 0) = true := by rw [beq_iff_eq]; omega
    have ef2 : ((f : Int) != 0) = false := by rw [hf0]; rfl
    have ek : ((k3 : Int) == 0) = true := by rw [beq_iff_eq]; omega
    clear HPQ9 HZ hpq hs3 hc3 hr3 hn3 hn9' hL9 f3 hiff HTF hf0 hk3
    go_wp2_with fail
    refine Calls.mono (edges_o HPQ10.out.p_.ord HS9.out.ok (by omega)) ?_
    rintro e w11 ⟨A8, c8, rfl, b8, o8⟩
    have HE8 := Lib.hid (EdgesAt.of_own o8)
    have HPQ11 := Lib.hid (HPQ10.out.below b8)
    clear HPQ10 b8 o8
    go_wp2_with fail
    refine Calls.mono (edges_o HPQ11.out.q_.ord HS3.out.ok (by omega)) ?_
    rintro e w12 ⟨A9, c9, rfl, b9, o9⟩
    have HE9 := Lib.hid (EdgesAt.of_own o9)
    have HE89 := Lib.hid ((EdgesAt.below HE8.out.1 b9).more' b9.size)
    have HPQ12 := Lib.hid (HPQ11.out.below b9)
    clear HPQ11 b9 o9
    go_wp2_with fail
    refine Calls.mono (sameEdges_any A8 A9 c8 c9 (edgesTo L3 n3) (edgesTo L3 n3) _ _ rfl rfl HE8.out.2.2.1 HE8.out.2.2.2 w12 HE89.out HE9.out.1) ?_
    rintro e w13 ⟨rfl, b10⟩
    rw [decide_eq_true (show edgesTo L3 n3 = edgesTo L3 n3 from rfl)]
    have HPQ13 := Lib.hid (HPQ12.out.below b10)
    clear HPQ12 b10 HE89 HE8 HE9
    go_wp2_with fail
    refine Calls.mono (len_o HPQ13.out.p_.ord) ?_
    rintro e w' ⟨rfl, rfl⟩
    go_wp2_with fail
    refine Calls.mono (len_o HPQ13.out.q_.ord) ?_
    rintro e w' ⟨rfl, rfl⟩
    have en : ((n3 : Int) == (n3 : Int)) = true := by simp
    have HLW := Lib.hid HPQ13.out.p_.low
    go_wp2_with fail
    refine Calls.mono (awakeB_any _) ?_
    rintro e w9 ⟨rfl, b9⟩
    have HB9 := Lib.hid (HLW.out.trans (b9.mono HLW.out.size))
    clear HLW b9
    go_wp2_with fail
    go_ret
    exact ⟨rfl, HB9.out⟩
  · have hk3 : k3 ≠ 0 := fun e => hf0 (hiff.2 e)
    have ef : ((f : Int) == 0) = false := by rw [beq_eq_false_iff_ne]; omega
    have ef2 : ((f : Int) != 0) = true := by rw [bne_iff_ne]; omega
    have ek : ((k3 : Int) == 0) = false := by rw [beq_eq_false_iff_ne]; omega
    have HLW := Lib.hid HPQ10.out.p_.low
    clear HPQ9 HZ hpq hs3 hc3 f3 hiff HTF hf0 hk3
    go_wp2_with fail
    refine Calls.mono (awakeB_any _) ?_
    rintro e w11 ⟨rfl, b9⟩
    have HB9 := Lib.hid (HLW.out.trans (b9.mono HLW.out.size))
    clear HLW b9
    go_wp2_with fail
    go_ret
    exact ⟨rfl, HB9.out⟩
end Go.Proofs.Ytelplccbcbegkaa.OrW
