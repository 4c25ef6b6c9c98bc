/-
  The walk of ScopeRight.
-/
import Derived.Test.YtcdjhafpnfgnlaaScopeChainsWalk
import Derived.Deep.DeepCutAuto
namespace Go.Proofs.Ytcdjhafpnfgnlaa.ScW
set_option linter.unusedVariables false
open Go.RowKit Go.Shelf Go.Proofs Go.Proofs.Ytcdjhafpnfgnlaa Go.Proofs.Ytcdjhafpnfgnlaa.Wd
open Go.Proofs.Ytcdjhafpnfgnlaa.Sc (N own flow rightAt right chain place chainI deep over below owned)

theorem own_set_ne {ns : List N} {i j : Nat} (x : N) (h : i ≠ j) : own (ns.set i x) j = own ns j := by
  unfold own; simp [List.getD, List.getElem?_set_ne h]
theorem flow_set_ne {ns : List N} {i j : Nat} (x : N) (h : i ≠ j) : flow (ns.set i x) j = flow ns j := by
  unfold flow; simp [List.getD, List.getElem?_set_ne h]
theorem own_set_eq {ns : List N} {i : Nat} (x : N) (h : i < ns.length) : own (ns.set i x) i = x.1 := by
  unfold own; simp [List.getD, List.getElem?_set_self h]
theorem flow_set_eq {ns : List N} {i : Nat} (x : N) (h : i < ns.length) : flow (ns.set i x) i = x.2 := by
  unfold flow; simp [List.getD, List.getElem?_set_self h]
/-- Where one node's owner and flow are written anew. -/
theorem Nodes.set_ {w : World} {B b off i : Nat} {ns : List N} {o f : Int} (h : Nodes w B (some ⟨b, off, none⟩) ns) (hi : i < ns.length) :
    Nodes ((w.setCell ⟨b, off + i * 16 + 4, none⟩ (.int .i64 o)).setCell ⟨b, off + i * 16 + 3, none⟩ (.int .i64 f)) B (some ⟨b, off, none⟩) (ns.set i (o, f)) := fun j hj => by
  rw [List.length_set] at hj
  obtain ⟨b', off', cs, e, hb, hl, hr, h3, h4, h1⟩ := h j hj
  cases e
  by_cases hij : i = j
  · subst hij
    refine ⟨b, off, (cs.set 4 (.int .i64 o)).set 3 (.int .i64 f), rfl, hb, by simp [hl], fun k v hv => ?_, by rw [List.getElem?_set_self (by simp; omega), flow_set_eq _ hi], by rw [List.getElem?_set_ne (by decide), List.getElem?_set_self (by omega), own_set_eq _ hi], fun v hv => ?_⟩
    · have c3 := hr 3 _ h3
      have c4 := hr 4 _ h4
      by_cases k3 : k = 3
      · subst k3
        rw [List.getElem?_set_self (by simp; omega)] at hv
        cases hv
        exact World.cell?_setCell_same _ _ _ ((World.cell?_setCell_other _ _ _ _ (by simp)).trans c3)
      · by_cases k4 : k = 4
        · subst k4
          rw [List.getElem?_set_ne (by decide), List.getElem?_set_self (by omega)] at hv
          cases hv
          rw [World.cell?_setCell_other _ _ _ _ (by simp)]
          exact World.cell?_setCell_same _ _ _ c4
        · rw [List.getElem?_set_ne (by omega), List.getElem?_set_ne (by omega)] at hv
          rw [World.cell?_setCell_other _ _ _ _ (by first | (simp; done) | (simp; omega)), World.cell?_setCell_other _ _ _ _ (by first | (simp; done) | (simp; omega))]
          exact hr k v hv
    · rcases List.mem_or_eq_of_mem_set hv with hv | rfl
      · rcases List.mem_or_eq_of_mem_set hv with hv | rfl
        · exact h1 v hv
        · rfl
      · rfl
  · refine ⟨b, off, cs, rfl, hb, hl, fun k v hv => ?_, by rw [flow_set_ne _ hij]; exact h3, by rw [own_set_ne _ hij]; exact h4, h1⟩
    have hk : k < 16 := by have := (List.getElem?_eq_some_iff.1 hv).1; omega
    rw [World.cell?_setCell_other _ _ _ _ (by first | (simp; done) | (simp; omega)), World.cell?_setCell_other _ _ _ _ (by first | (simp; done) | (simp; omega))]
    exact hr k v hv

/-- What is asked of those behind the changed one. -/
def stays (ns : List N) (i : Nat) (f : Int) (k : Nat) : Bool := decide (k ≤ i) || (!decide (own ns k = i) || decide (flow ns k = f))
def first (ns : List N) (i : Nat) (o f : Int) : Bool := decide (o = -1) || (decide (0 ≤ o) && decide (o < i) && decide (flow ns o.toNat = f))
theorem right_set {ns : List N} (hr : right ns = true) {i : Nat} (hi : i < ns.length) (o f : Int) :
    right (ns.set i (o, f)) = (first (ns.set i (o, f)) i o f && (List.range ns.length).all (stays (ns.set i (o, f)) i f)) := by
  have hT : ∀ j, j < ns.length → rightAt (ns.set i (o, f)) j = if j = i then first (ns.set i (o, f)) i o f else stays (ns.set i (o, f)) i f j := by
    intro j hj
    by_cases hij : j = i
    · subst hij
      rw [if_pos rfl]
      unfold rightAt first
      rw [own_set_eq _ hi, flow_set_eq _ hi]
      rw [Bool.eq_iff_iff]
      simp only [Bool.and_eq_true, Bool.or_eq_true, decide_eq_true_eq]
      constructor
      · rintro ⟨⟨h1, h2⟩, h3⟩
        by_cases h0 : o = -1
        · exact .inl h0
        · exact .inr ⟨⟨by omega, h2⟩, h3.resolve_left (by omega)⟩
      · rintro (h | ⟨⟨h1, h2⟩, h3⟩)
        · subst h; exact ⟨⟨by omega, by omega⟩, .inl (by omega)⟩
        · exact ⟨⟨by omega, h2⟩, .inr h3⟩
    · rw [if_neg hij]
      obtain ⟨h1, h2, h3⟩ := Sc.right_at hr hj
      unfold rightAt stays
      rw [own_set_ne _ (Ne.symm hij), flow_set_ne _ (Ne.symm hij), decide_eq_true h1, decide_eq_true h2, Bool.true_and, Bool.true_and]
      by_cases h0 : own ns j < 0
      · rw [decide_eq_true h0, decide_eq_false (p := own ns j = i) (by omega)]; simp
      · by_cases hoi : own ns j = i
        · rw [decide_eq_false h0, hoi, Int.toNat_natCast, flow_set_eq _ hi, decide_eq_false (p := j ≤ i) (by omega), decide_eq_true (rfl : (i : Int) = i)]
          simp only [Bool.false_or, Bool.not_true]
          rw [Bool.eq_iff_iff, decide_eq_true_eq, decide_eq_true_eq]
          exact eq_comm
        · rw [flow_set_ne _ (by omega), h3 (by omega), decide_eq_false hoi]; simp
  unfold right
  rw [List.length_set, Bool.eq_iff_iff, Bool.and_eq_true, List.all_eq_true, List.all_eq_true]
  constructor
  · intro h
    refine ⟨by have := h i (List.mem_range.2 hi); rwa [hT i hi, if_pos rfl] at this, fun j hj => ?_⟩
    have hj' := List.mem_range.1 hj
    have := h j hj
    rw [hT j hj'] at this
    by_cases hij : j = i
    · subst hij; unfold stays; simp
    · rwa [if_neg hij] at this
  · rintro ⟨h1, h2⟩ j hj
    rw [hT j (List.mem_range.1 hj)]
    by_cases hij : j = i
    · rw [if_pos hij]; exact h1
    · rw [if_neg hij]; exact h2 j hj

theorem own_lies {w : World} {base n c size : Nat} {e : TypeId} {A : Option Addr} {xs : List Value} (h : w.ownsRow base e size (.slice A n c) n xs) (hn : 0 < n) :
    ∃ g o, A = some ⟨g, o, none⟩ ∧ base ≤ g ∧ (∀ k, w.frozen? ⟨g, k, none⟩ = false) ∧ (∀ k p u, p.block = g → (w.setCell p u).frozen? ⟨g, k, none⟩ = false) := by
  rcases h.2 with ⟨h1, h0⟩ | ⟨g, cap, cur, hv, hb, hh, _⟩
  · omega
  · cases hv
    have hblk : Blk w g e cur := hh
    refine ⟨g, 0, rfl, hb, fun k => hblk.frozen k, fun k p u hp => ?_⟩
    exact (World.frozen?_setCell w p _ u).trans (hblk.frozen k)

set_option maxRecDepth 100000 in
set_option maxHeartbeats 2000000 in
theorem right_walk (A : Option Addr) (c : Nat) (l : List Int) (m : Nat) (hm : m = l.length) (hmc : m ≤ c) (hcm : c ≤ maxLen) (a : Nat) (ha : a < 256) (o f : Int) (w : World) (hI : Nums w w.heap.size A l) :
    Calls Try.prog 5 #[.slice A m c, .int .u8 a, .int .i64 o, .int .i64 f] w fun e w' => e = .returned (.bool true) ∧ Below w.heap.size w w' := by
  unfold maxLen at hcm
  have HM := Lib.hid hm
  clear hm
  go_enter Try.func5, Try.ntmps5
  go_wp2_with fail
  refine Calls.mono (forest_any A c l m HM.out hmc (by unfold maxLen; exact hcm) w hI) ?_
  rintro e w1 ⟨A1, c1, ns, xs, rfl, h60, hr, hown, hNC, hb1⟩
  obtain ⟨-, hA1, hA2, hNN⟩ := own_nodes hown hNC
  obtain ⟨n, hn⟩ : ∃ n, n = ns.length := ⟨_, rfl⟩
  rw [← hn] at hA1 h60 hown ⊢
  have HN := Lib.hid hn
  have HR := Lib.hid hr
  have hnb : n ≤ 1000000000000 := by omega
  clear hNC hn hr hI
  have HFIN : Hid (∀ w9, Below w.heap.size w w9 → Calls Try.prog 11 #[] w9 fun e w' => e = .returned (.bool true) ∧ Below w.heap.size w w') := Lib.hid fun w9 h9 => by
    refine Calls.mono (awake_any w9) ?_
    rintro e w10 ⟨rfl, hb10⟩
    exact ⟨rfl, h9.trans (hb10.mono h9.size)⟩
  by_cases h0 : n = 0
  · subst h0
    have u0 : (((0 : Nat) : Int) == 0) = true := rfl
    clear hown
    go_wp2_with fail
    refine Calls.mono (right_any A1 c1 ns 0 HN.out hA1 hA2 w1 hNN) ?_
    rintro e w2 ⟨rfl, hb2⟩
    rw [HR.out]
    have hB2 := hb1.trans (hb2.mono hb1.size)
    clear hb1 hb2 hNN
    go_wp2_with fail
    refine Calls.mono (HFIN.out _ hB2) ?_
    rintro e w4 ⟨rfl, hb4⟩
    go_wp2
    go_ret
    exact ⟨rfl, hb4⟩
  have hn0 : 0 < n := by omega
  have u0 : ((n : Int) == 0) = false := by simp; omega
  obtain ⟨i, hi, hin⟩ := tmod_lt a n hn0
  have z0 : ¬ (n : Int) = 0 := by omega
  have wa : wrap64 (a : Int) = a := IntWalk.wrap64_in _ (by omega)
  obtain ⟨g, t1, rfl, hg1, hf1, hf2⟩ := own_lies hown hn0
  have hil : i < ns.length := by rw [← HN.out]; exact hin
  obtain ⟨_, _, e1, hgl, k4⟩ := hNN.own_at hil
  cases e1
  obtain ⟨_, _, e1, _, k3⟩ := hNN.flow_at hil
  cases e1
  have i1 : (0 : Int) ≤ (i : Int) := by omega
  have i2 : (i : Int) < (n : Int) := by omega
  have f1 := hf1 (t1 + i * 16 + 4)
  have f2 := hf2 (t1 + i * 16 + 3) ⟨g, t1 + i * 16 + 4, none⟩ (.int .i64 o) rfl
  have k3' : (w1.setCell ⟨g, t1 + i * 16 + 4, none⟩ (.int .i64 o)).cell? ⟨g, t1 + i * 16 + 3, none⟩ = some (.int .i64 (flow ns i)) := by
    rw [World.cell?_setCell_other _ _ _ _ (by simp)]; exact k3
  have HNT := Lib.hid ((hNN.set_ (o := o) (f := f) hil).more (B' := ((w1.setCell ⟨g, t1 + i * 16 + 4, none⟩ (.int .i64 o)).setCell ⟨g, t1 + i * 16 + 3, none⟩ (.int .i64 f)).heap.size) (by simp))
  have HRS : Hid (right (ns.set i (o, f)) = (first (ns.set i (o, f)) i o f && (List.range n).all (stays (ns.set i (o, f)) i f))) := Lib.hid (by rw [HN.out]; exact right_set HR.out hil o f)
  have HB2 := Lib.hid ((hb1.setCell (p := ⟨g, t1 + i * 16 + 4, none⟩) hg1 (.int .i64 o)).setCell (p := ⟨g, t1 + i * 16 + 3, none⟩) hg1 (.int .i64 f))
  have HTL : Hid (n = (ns.set i (o, f)).length) := Lib.hid (by rw [List.length_set]; exact HN.out)
  have HTI : Hid (flow (ns.set i (o, f)) i = f) := Lib.hid (flow_set_eq _ hil)
  clear hNN hown hf1 hf2 hgl hg1 hb1 ha k3 hil
  have HTO : Hid (own (ns.set i (o, f)) i = o) := Lib.hid (own_set_eq _ (by rw [← HN.out]; exact hin))
  go_upto_region 6 with fail
  clear k4 k3' f1 f2 hi
  generalize (w1.setCell ⟨g, t1 + i * 16 + 4, none⟩ (.int .i64 o)).setCell ⟨g, t1 + i * 16 + 3, none⟩ (.int .i64 f) = w2 at *
  generalize ns.set i (o, f) = T at *
  clear HN HR HM
  have HST0 : Hid ((List.range (i + 1)).all (stays T i f) = true) := Lib.hid (List.all_eq_true.2 fun j hj => by
    unfold stays; rw [decide_eq_true (p := j ≤ i) (by have := List.mem_range.1 hj; omega)]; rfl)
  obtain ⟨F, hF⟩ : ∃ F, F = first T i o f := ⟨_, rfl⟩
  have HF := Lib.hid hF
  rw [← hF] at HRS
  clear hF
  go_cut [11] (fun v wx => v = .bool F ∧ wx = w2)
  case first =>
    by_cases c1 : o = -1
    · have v1 : (o == -1) = true := by rw [c1]; rfl
      have HX : Hid (F = true) := Lib.hid (by rw [HF.out]; unfold first; rw [decide_eq_true c1]; rfl)
      clear c1 HF
      go_wp2_with fail
      go_meet
      exact ⟨by rw [HX.out], rfl⟩
    · have v1 : (o == -1) = false := by rw [beq_eq_false_iff_ne]; exact c1
      by_cases c2 : 0 ≤ o
      · have v2 : decide (0 ≤ o) = true := by simpa using c2
        by_cases c3 : o < i
        · have v3 : decide (o < (i : Int)) = true := by simpa using c3
          obtain ⟨_, _, e1, _, k3⟩ := HNT.out.flow_at (j := o.toNat) (by rw [← HTL.out]; omega)
          cases e1
          have i3 : o < (n : Int) := by omega
          have HX : Hid (F = decide (flow T o.toNat = f)) := Lib.hid (by rw [HF.out]; unfold first; rw [decide_eq_false c1, decide_eq_true c2, decide_eq_true c3]; simp)
          clear HF c1 c3
          generalize flow T o.toNat = fm at *
          by_cases c4 : fm = f
          · have v4 : (fm == f) = true := by rw [c4]; exact beq_self_eq_true _
            have HY : Hid (F = true) := Lib.hid (by rw [HX.out]; exact decide_eq_true c4)
            clear c4 HX
            go_wp2_with fail
            go_meet
            exact ⟨by rw [HY.out], rfl⟩
          · have v4 : (fm == f) = false := by rw [beq_eq_false_iff_ne]; exact c4
            have HY : Hid (F = false) := Lib.hid (by rw [HX.out]; exact decide_eq_false c4)
            clear c4 HX
            go_wp2_with fail
            go_meet
            exact ⟨by rw [HY.out], rfl⟩
        · have v3 : decide (o < i) = false := by simpa using c3
          have HX : Hid (F = false) := Lib.hid (by rw [HF.out]; unfold first; rw [decide_eq_false c1, decide_eq_false c3]; simp)
          clear HF c1 c3
          go_wp2_with fail
          go_meet
          exact ⟨by rw [HX.out], rfl⟩
      · have v2 : decide (0 ≤ o) = false := by simpa using c2
        have HX : Hid (F = false) := Lib.hid (by rw [HF.out]; unfold first; rw [decide_eq_false c1, decide_eq_false c2]; simp)
        clear HF c1 c2
        go_wp2_with fail
        go_meet
        exact ⟨by rw [HX.out], rfl⟩
  case rest =>
  obtain ⟨rfl, rfl⟩ := hcut
  clear HF HTO
  have y1 : IntKind.i64.wrap ((i : Int) + 1) = (i : Int) + 1 := IntWalk.i64_in _ (by omega)
  go_wp2_with fail
  go_loopw [11, 12] (fun wv kv wr => ∃ k : Nat, i + 1 ≤ k ∧ k ≤ n ∧ kv = .int .i64 k ∧ wv = .bool (F && (List.range k).all (stays T i f)) ∧ wr = wc) (fun _ kv _ => n - (intOf kv).toNat)
  case atStart => exact ⟨i + 1, Nat.le_refl _, by omega, by go_num, by rw [HST0.out, Bool.and_true], rfl⟩
  case round =>
    obtain ⟨k, hk1, hk2, rfl, rfl, rfl⟩ := hrel
    by_cases hlt : k < n
    · have hkT : k < T.length := by rw [← HTL.out]; exact hlt
      have HSUCC : Hid ((List.range (k + 1)).all (stays T i f) = ((List.range k).all (stays T i f) && stays T i f k)) := Lib.hid (by rw [List.range_succ, List.all_append]; simp)
      generalize (List.range k).all (stays T i f) = sk at *
      obtain ⟨B, hB⟩ : ∃ B, B = (F && sk) := ⟨_, rfl⟩
      have HB := Lib.hid hB
      rw [← hB]
      clear hB
      obtain ⟨_, _, e1, _, q4⟩ := HNT.out.own_at hkT
      cases e1
      obtain ⟨_, _, e1, _, q3⟩ := HNT.out.flow_at hkT
      cases e1
      have HS : Hid (stays T i f k = (!decide (own T k = i) || decide (flow T k = f))) := Lib.hid (by unfold stays; rw [decide_eq_false (p := k ≤ i) (by omega)]; rfl)
      generalize own T k = ok at *
      generalize flow T k = fk at *
      have j1 : (0 : Int) ≤ (k : Int) := by omega
      have j2 : (k : Int) < (n : Int) := by omega
      clear hkT HST0
      cases B
      · have HZ : Hid ((F && (List.range (k + 1)).all (stays T i f)) = false) := Lib.hid (by rw [HSUCC.out, ← Bool.and_assoc, ← HB.out]; rfl)
        clear HSUCC HB HS q3 q4
        go_wp2_with fail
        go_roundw
        case rel => exact ⟨k + 1, by omega, by omega, by go_num, by rw [HZ.out], trivial⟩
        case measure => simp [intOf]; omega
      · by_cases c1 : ok = i
        · have v1 : (ok != i) = false := by rw [c1]; simp
          by_cases c2 : fk = f
          · have v2 : (fk == f) = true := by rw [c2]; exact beq_self_eq_true _
            have HZ : Hid ((F && (List.range (k + 1)).all (stays T i f)) = true) := Lib.hid (by rw [HSUCC.out, ← Bool.and_assoc, ← HB.out, HS.out, decide_eq_true c2]; simp)
            clear HSUCC HB HS c1 c2
            go_wp2_with fail
            go_roundw
            case rel => exact ⟨k + 1, by omega, by omega, by go_num, by rw [HZ.out], trivial⟩
            case measure => simp [intOf]; omega
          · have v2 : (fk == f) = false := by rw [beq_eq_false_iff_ne]; exact c2
            have HZ : Hid ((F && (List.range (k + 1)).all (stays T i f)) = false) := Lib.hid (by rw [HSUCC.out, ← Bool.and_assoc, ← HB.out, HS.out, decide_eq_true c1, decide_eq_false c2]; rfl)
            clear HSUCC HB HS c1 c2
            go_wp2_with fail
            go_roundw
            case rel => exact ⟨k + 1, by omega, by omega, by go_num, by rw [HZ.out], trivial⟩
            case measure => simp [intOf]; omega
        · have v1 : (ok != i) = true := by rw [bne_iff_ne]; exact c1
          have HZ : Hid ((F && (List.range (k + 1)).all (stays T i f)) = true) := Lib.hid (by rw [HSUCC.out, ← Bool.and_assoc, ← HB.out, HS.out, decide_eq_false c1]; rfl)
          clear HSUCC HB HS c1
          go_wp2_with fail
          go_roundw
          case rel => exact ⟨k + 1, by omega, by omega, by go_num, by rw [HZ.out], trivial⟩
          case measure => simp [intOf]; omega
    · obtain rfl : k = n := by omega
      rw [← HRS.out]
      clear HST0 hlt
      go_wp2_with fail
      refine Calls.mono (right_any (some ⟨g, t1, none⟩) c1 T k HTL.out hA1 hA2 wr HNT.out) ?_
      rintro e w3 ⟨rfl, hb3⟩
      have hB3 := HB2.out.trans (hb3.mono HB2.out.size)
      clear hb3
      generalize right T = rt at *
      cases rt
      · go_wp2_with fail
        refine Calls.mono (HFIN.out _ hB3) ?_
        rintro e w4 ⟨rfl, hb4⟩
        go_wp2
        go_ret
        exact ⟨rfl, hb4⟩
      · go_wp2_with fail
        refine Calls.mono (HFIN.out _ hB3) ?_
        rintro e w4 ⟨rfl, hb4⟩
        go_wp2
        go_ret
        exact ⟨rfl, hb4⟩
end Go.Proofs.Ytcdjhafpnfgnlaa.ScW
