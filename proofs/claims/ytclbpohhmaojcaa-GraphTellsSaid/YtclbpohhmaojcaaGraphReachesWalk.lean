/-
  The walk of GraphReaches.
-/
import Derived.Test.YtclbpohhmaojcaaGraphOf
import Derived.Test.YtclbpohhmaojcaaGraphArg
namespace Go.Proofs.Ytclbpohhmaojcaa.Gr
open Go.Proofs.Ytclbpohhmaojcaa.GrW (isV reached)
/-- Whether a vertex is reached, as a truth value. -/
def IsR (n : Nat) (L : List (List Int)) (R : Int → Int → Bool) : Prop := ∀ x y, R x y = true ↔ reached n L x y
theorem isR (n : Nat) (L : List (List Int)) : ∃ R, IsR n L R := ⟨fun x y => @decide (reached n L x y) (Classical.propDecidable _), fun _ _ => @decide_eq_true_iff _ (Classical.propDecidable _)⟩
theorem isV_of {n k : Nat} (h : k < n) : isV n (k : Int) = true := by unfold isV; simp; omega
theorem rB_nat {n : Nat} {L : List (List Int)} {R : Int → Int → Bool} (hR : IsR n L R) {u v : Nat} (hu : u < n) (hv : v < n) : R u v = true ↔ Path L u v := by
  rw [hR]
  unfold reached
  rw [isV_of hu, isV_of hv]
  simp
theorem rB_refl {n : Nat} {L : List (List Int)} {R : Int → Int → Bool} (hR : IsR n L R) {u : Nat} (hu : u < n) : R u u = true := (rB_nat hR hu hu).2 (.refl u)
theorem rB_trans {n : Nat} {L : List (List Int)} {R : Int → Int → Bool} (hR : IsR n L R) {u v w : Nat} (hu : u < n) (hv : v < n) (hw : w < n) (h1 : R u v = true) (h2 : R v w = true) : R u w = true :=
  (rB_nat hR hu hw).2 (((rB_nat hR hu hv).1 h1).trans ((rB_nat hR hv hw).1 h2))
theorem Path.last {L : List (List Int)} {u v : Nat} (h : Path L u v) : u = v ∨ ∃ x, Path L u x ∧ E L x v := by
  induction h with
  | refl => exact .inl rfl
  | @step u x v he hp ih =>
    rcases ih with rfl | ⟨y, h1, h2⟩
    · exact .inr ⟨u, .refl u, he⟩
    · exact .inr ⟨y, .step he h1, h2⟩
/-- What is reached is reached by a first edge, and the rest. -/
theorem first_edge {n : Nat} {L : List (List Int)} {R : Int → Int → Bool} (hR : IsR n L R) (ok : OK n L) {u v : Nat} (hu : u < n) (hv : v < n) : (decide (u = v) || (outs L u).any fun x => R x v) = R u v := by
  rw [Bool.eq_iff_iff, Bool.or_eq_true, decide_eq_true_eq, List.any_eq_true, rB_nat hR hu hv]
  constructor
  · rintro (rfl | ⟨x, hx, hr⟩)
    · exact .refl u
    · obtain ⟨h1, h2⟩ := ok.ins _ x hx
      obtain ⟨k, rfl⟩ : ∃ k : Nat, x = k := ⟨x.toNat, by omega⟩
      exact .step hx ((rB_nat hR (by omega) hv).1 hr)
  · intro h
    cases h with
    | refl => exact .inl rfl
    | @step _ x _ he hp =>
      obtain ⟨h1, h2⟩ := ok.ins _ (x : Int) he
      exact .inr ⟨x, he, (rB_nat hR (by omega) hv).2 hp⟩
/-- And by a last one. -/
theorem last_edge {n : Nat} {L : List (List Int)} {R : Int → Int → Bool} (hR : IsR n L R) (ok : OK n L) {u v : Nat} (hu : u < n) (hv : v < n) : (decide (u = v) || (intos L v).any fun x => R u x) = R u v := by
  rw [Bool.eq_iff_iff, Bool.or_eq_true, decide_eq_true_eq, List.any_eq_true, rB_nat hR hu hv]
  constructor
  · rintro (rfl | ⟨x, hx, hr⟩)
    · exact .refl u
    · obtain ⟨h1, h2⟩ := ok.ins _ x hx
      obtain ⟨k, rfl⟩ : ∃ k : Nat, x = k := ⟨x.toNat, by omega⟩
      have hk : k < n := by omega
      exact ((rB_nat hR hu hk).1 hr).trans (.step ((ok.cons k v hk hv).2 hx) (.refl v))
  · intro h
    rcases h.last with e | ⟨x, h1, h2⟩
    · exact .inl e
    · by_cases hx : x < n
      · exact .inr ⟨x, (ok.cons x v hx hv).1 h2, (rB_nat hR hu hx).2 h1⟩
      · have : outs L x = [] := by
          unfold outs
          simp only [List.getD]
          rw [List.getElem?_eq_none (by have := ok.len; omega)]; rfl
        unfold E at h2
        unfold outs at this
        rw [this] at h2
        simp at h2
end Go.Proofs.Ytclbpohhmaojcaa.Gr
namespace Go.Proofs.Ytclbpohhmaojcaa.GrW
set_option linter.unusedVariables false
open Go Go.RowKit Go.Proofs Go.Proofs.Ytclbpohhmaojcaa Go.Proofs.Ytclbpohhmaojcaa.Wd
open Go.Proofs.Ytclbpohhmaojcaa.Gr (putL OK ofE ofL IsR outs intos)
theorem reach_b {w : World} {base g n : Nat} {F : Nat → Prop} {L : List (List Int)} (h : GAt w base F g n L) (ok : OK n L) (hn : n ≤ 30000) {R : Int → Int → Bool} (hR : IsR n L R) (x y : Int) : Calls Try.prog 10 #[.pointer (some ⟨g, 0, none⟩), .int .i64 x, .int .i64 y] w fun e w' => e = .returned (.bool (R x y)) ∧ Below w.heap.size w w' := reach_c h ok hn x y _ (hR x y)
/-- A graph that lies, and all below as it was. -/
structure Lg (w wr : World) (g n : Nat) (L : List (List Int)) : Prop where
  at_ : GAt wr w.heap.size (fun k => w.heap.size ≤ k) g n L
  low : Below w.heap.size w wr
theorem Lg.next {w wr w' : World} {g n : Nat} {L : List (List Int)} (h : Lg w wr g n L) (hb : Below wr.heap.size wr w') : Lg w w' g n L := ⟨h.at_.below hb, h.low.trans (hb.mono h.low.size)⟩
theorem outE_nat {n : Nat} {L : List (List Int)} {u : Nat} (h : u < n) : outE n L (u : Int) = outs L u := by unfold outE outs; rw [if_pos (Gr.isV_of h), Int.toNat_natCast]
theorem intoE_nat {n : Nat} {L : List (List Int)} {u : Nat} (h : u < n) : intoE n L (u : Int) = intos L u := by unfold intoE intos; rw [if_pos (Gr.isV_of h), Int.toNat_natCast]
set_option maxRecDepth 100000 in
set_option maxHeartbeats 8000000 in
theorem reaches_walk (nb : Nat) (hnb : nb < 256) (A : Option Addr) (c : Nat) (l : List (Int × Int)) (n : Nat) (hn : n = l.length) (hnc : n ≤ c) (hcm : c ≤ maxLen) (a0 a1 a2 : Nat) (ha0 : a0 < 256) (ha1 : a1 < 256) (ha2 : a2 < 256) (w : World) (hI : EdgesAt w w.heap.size A l) :
    Calls Try.prog 3 #[.int .u8 nb, .slice A n c, .int .u8 a0, .int .u8 a1, .int .u8 a2] w fun e w' => e = .returned (.bool true) ∧ Below w.heap.size w w' := by
  have HOF := Lib.hid (of_any nb hnb A c l n hn hnc hcm w hI)
  have hok0 := OK.ofL (many := manyOf nb) (by unfold manyOf; omega) (l.take 80)
  have hM0 : manyOf nb ≤ 31 ∧ 2 ≤ manyOf nb := by unfold manyOf; omega
  generalize ofL (manyOf nb) (l.take 80) = L at *
  generalize manyOf nb = M at *
  obtain ⟨hM31, hM2⟩ := hM0
  have HOK := Lib.hid hok0
  obtain ⟨R, hR⟩ := Gr.isR M L
  have HR := Lib.hid hR
  clear hR
  clear hok0 hI hn hnc hcm
  have wa0 : wrap64 (a0 : Int) = a0 := IntWalk.wrap64_in _ (by omega)
  have wa1 : wrap64 (a1 : Int) = a1 := IntWalk.wrap64_in _ (by omega)
  have wa2 : wrap64 (a2 : Int) = a2 := IntWalk.wrap64_in _ (by omega)
  obtain ⟨u, hu⟩ : ∃ u, u = a0 % M := ⟨_, rfl⟩
  obtain ⟨v, hv⟩ : ∃ v, v = a1 % M := ⟨_, rfl⟩
  obtain ⟨x, hx⟩ : ∃ x, x = a2 % M := ⟨_, rfl⟩
  have t0 : (a0 : Int).tmod (M : Int) = (u : Int) := by rw [Int.tmod_eq_emod_of_nonneg (Int.natCast_nonneg _), hu]; exact (Int.natCast_emod _ _).symm
  have t1 : (a1 : Int).tmod (M : Int) = (v : Int) := by rw [Int.tmod_eq_emod_of_nonneg (Int.natCast_nonneg _), hv]; exact (Int.natCast_emod _ _).symm
  have t2 : (a2 : Int).tmod (M : Int) = (x : Int) := by rw [Int.tmod_eq_emod_of_nonneg (Int.natCast_nonneg _), hx]; exact (Int.natCast_emod _ _).symm
  have huM : u < M := by rw [hu]; exact Nat.mod_lt _ (by omega)
  have hvM : v < M := by rw [hv]; exact Nat.mod_lt _ (by omega)
  have hxM : x < M := by rw [hx]; exact Nat.mod_lt _ (by omega)
  have m1 : ((M : Int) == 0) = false := by rw [beq_eq_false_iff_ne]; omega
  have m2 : ¬ (M : Int) = 0 := by omega
  clear hu hv hx
  go_enter Try.func3, Try.ntmps3
  go_wp2_with fail
  refine Calls.mono HOF.out ?_
  rintro e w1 ⟨g, rfl, G1, B1⟩
  have HG := Lib.hid (show Lg w w1 g M L from ⟨G1, B1⟩)
  clear HOF G1 B1
  go_wp2_with fail
  go_quiet (fail)
  have HGq := Lib.hid (HG.out.next (bdrewN (Below.refl _ w1) nq))
  clear HG
  go_upto_region 3 with fail
  go_cut [63] (fun v63 wx => v63 = .bool false ∧ Hid (Lg w wx g M L))
  case first =>
    cases h1 : R (u : Int) (v : Int)
    · have HX := Lib.hid (Gr.rB_refl HR.out huM)
      have H1 := Lib.hid h1
      clear h1
      go_wp2_with fail
      refine Calls.mono (reach_b HGq.out.at_ HOK.out (by omega) HR.out (u : Int) (v : Int)) ?_
      rintro e w2 ⟨rfl, B2⟩
      have HG2 := Lib.hid (HGq.out.next B2)
      clear HGq B2
      rw [H1.out]
      go_wp2_with fail
      refine Calls.mono (reach_b HG2.out.at_ HOK.out (by omega) HR.out (u : Int) (u : Int)) ?_
      rintro e w3 ⟨rfl, B2⟩
      have HG3 := Lib.hid (HG2.out.next B2)
      clear HG2 B2
      rw [HX.out]
      go_wp2_with fail
      go_meet
      exact ⟨rfl, HG3⟩
    · have H1 := Lib.hid h1
      clear h1
      cases h2 : R (v : Int) (x : Int)
      · have HX := Lib.hid (Gr.rB_refl HR.out huM)
        have H2 := Lib.hid h2
        clear h2
        go_wp2_with fail
        refine Calls.mono (reach_b HGq.out.at_ HOK.out (by omega) HR.out (u : Int) (v : Int)) ?_
        rintro e w2 ⟨rfl, B2⟩
        have HG2 := Lib.hid (HGq.out.next B2)
        clear HGq B2
        rw [H1.out]
        go_wp2_with fail
        refine Calls.mono (reach_b HG2.out.at_ HOK.out (by omega) HR.out (v : Int) (x : Int)) ?_
        rintro e w3 ⟨rfl, B2⟩
        have HG3 := Lib.hid (HG2.out.next B2)
        clear HG2 B2
        rw [H2.out]
        go_wp2_with fail
        refine Calls.mono (reach_b HG3.out.at_ HOK.out (by omega) HR.out (u : Int) (u : Int)) ?_
        rintro e w4 ⟨rfl, B2⟩
        have HG4 := Lib.hid (HG3.out.next B2)
        clear HG3 B2
        rw [HX.out]
        go_wp2_with fail
        go_meet
        exact ⟨rfl, HG4⟩
      · have HX := Lib.hid (Gr.rB_refl HR.out huM)
        have HY := Lib.hid (Gr.rB_trans HR.out huM hvM hxM H1.out h2)
        have H2 := Lib.hid h2
        clear h2
        go_wp2_with fail
        refine Calls.mono (reach_b HGq.out.at_ HOK.out (by omega) HR.out (u : Int) (v : Int)) ?_
        rintro e w2 ⟨rfl, B2⟩
        have HG2 := Lib.hid (HGq.out.next B2)
        clear HGq B2
        rw [H1.out]
        go_wp2_with fail
        refine Calls.mono (reach_b HG2.out.at_ HOK.out (by omega) HR.out (v : Int) (x : Int)) ?_
        rintro e w3 ⟨rfl, B2⟩
        have HG3 := Lib.hid (HG2.out.next B2)
        clear HG2 B2
        rw [H2.out]
        go_wp2_with fail
        refine Calls.mono (reach_b HG3.out.at_ HOK.out (by omega) HR.out (u : Int) (x : Int)) ?_
        rintro e w4 ⟨rfl, B2⟩
        have HG4 := Lib.hid (HG3.out.next B2)
        clear HG3 B2
        rw [HY.out]
        go_wp2_with fail
        refine Calls.mono (reach_b HG4.out.at_ HOK.out (by omega) HR.out (u : Int) (u : Int)) ?_
        rintro e w5 ⟨rfl, B2⟩
        have HG5 := Lib.hid (HG4.out.next B2)
        clear HG4 B2
        rw [HX.out]
        go_wp2_with fail
        go_meet
        exact ⟨rfl, HG5⟩
  case rest =>
  obtain ⟨rfl, HG2⟩ := hcut
  clear HGq
  obtain ⟨b0, hb0⟩ : ∃ b0, b0 = decide (u = v) := ⟨_, rfl⟩
  have e0 : ((u : Int) == (v : Int)) = b0 := by rw [hb0, Bool.eq_iff_iff, beq_iff_eq, decide_eq_true_eq]; omega
  have HB0 := Lib.hid hb0
  clear hb0
  have HL := Lib.hid (show (outs L u).length ≤ M from HOK.out.many (2 * u))
  have HL' := Lib.hid (show (intos L v).length ≤ M from HOK.out.many (2 * v + 1))
  obtain ⟨m, hm⟩ : ∃ m, m = (outs L u).length := ⟨_, rfl⟩
  obtain ⟨m', hm'⟩ : ∃ m, m = (intos L v).length := ⟨_, rfl⟩
  have hmM : m ≤ M := by rw [hm]; exact HL.out
  have hmM' : m' ≤ M := by rw [hm']; exact HL'.out
  have HM := Lib.hid hm
  have HM' := Lib.hid hm'
  clear hm hm' HL HL'
  go_wp2_with fail
  refine Calls.mono (out_c HG2.out.at_ (HOK.out.rises (by omega)) (u : Int) _ (outE_nat huM) m HM.out) ?_
  rintro e w3 ⟨Ao, co, rfl, O3, B3⟩
  have HG3 := Lib.hid (HG2.out.next B3)
  have HO3 := Lib.hid (Nums.of_own O3)
  clear HG2 O3 B3
  go_wp2_with fail
  go_loopw [16, 71] (fun v16 i wr => ∃ (j : Nat) (b : Bool), j ≤ m ∧ i = .int .i64 j ∧ v16 = .bool b ∧ Hid (b = (b0 || ((outs L u).take j).any fun x => R x v) ∧ Lg w wr g M L ∧ Below w3.heap.size w3 wr)) (fun _ i _ => m - (intOf i).toNat)
  case atStart => exact ⟨0, b0, Nat.zero_le _, rfl, rfl, Lib.hid ⟨by simp, HG3.out, Below.refl _ _⟩⟩
  case round =>
    obtain ⟨j, b, hj, rfl, rfl, HS⟩ := hrel
    by_cases hlt : j < m
    · have hjl : j < (outs L u).length := by have := HM.out; omega
      obtain ⟨bb, off, rfl, hbl, hc0⟩ := HO3.out.1.at_ hjl
      have hce := (HS.out.2.2.cell (p := ⟨bb, _, none⟩) hbl).trans hc0
      have HX : Hid (((outs L u).take (j + 1)).any (fun x => R x v) = (((outs L u).take j).any (fun x => R x v) || R (outs L u)[j] v)) := Lib.hid (by rw [List.take_succ_eq_append_getElem hjl, List.any_append]; simp)
      generalize (outs L u)[j] = y at *
      have i1 : (0 : Int) ≤ (j : Int) := by omega
      have i2 : (j : Int) < (m : Int) := by omega
      clear hc0 hbl hjl
      cases b
      · go_wp2_with fail
        refine Calls.mono (reach_b HS.out.2.1.at_ HOK.out (by omega) HR.out y (v : Int)) ?_
        rintro e w4 ⟨rfl, B4⟩
        have HN : Hid (R y v = (b0 || ((outs L u).take (j + 1)).any fun x => R x v) ∧ Lg w w4 g M L ∧ Below w3.heap.size w3 w4) := Lib.hid ⟨by rw [HX.out, ← Bool.or_assoc, ← HS.out.1]; rfl, HS.out.2.1.next B4, HS.out.2.2.trans (B4.mono HS.out.2.2.size)⟩
        clear B4 HS hce HX
        generalize R y v = b2 at *
        go_wp2_with fail
        go_roundw
        case rel => exact ⟨j + 1, b2, by omega, by go_num, rfl, HN⟩
        case measure => simp [intOf]; omega
      · have HN : Hid (true = (b0 || ((outs L u).take (j + 1)).any fun x => R x v) ∧ Lg w wr g M L ∧ Below w3.heap.size w3 wr) := Lib.hid ⟨by rw [HX.out, ← Bool.or_assoc, ← HS.out.1]; rfl, HS.out.2.1, HS.out.2.2⟩
        clear HS HX
        go_wp2_with fail
        go_roundw
        case rel => exact ⟨j + 1, true, by omega, by go_num, rfl, HN⟩
        case measure => simp [intOf]; omega
    · have HB : Hid (b = R u v) := Lib.hid (by
        rw [HS.out.1, List.take_of_length_le (by have := HM.out; omega), HB0.out]
        exact Gr.first_edge HR.out HOK.out huM hvM)
      have HG4 := Lib.hid HS.out.2.1
      clear HS HG3 HO3
      obtain rfl := HB.out
      clear HB
      go_wp2_with fail
      refine Calls.mono (into_c HG4.out.at_ (HOK.out.rises (by omega)) (v : Int) _ (intoE_nat hvM) m' HM'.out) ?_
      rintro e w5 ⟨Ai, ci, rfl, O5, B5⟩
      have HG5 := Lib.hid (HG4.out.next B5)
      have HO5 := Lib.hid (Nums.of_own O5)
      clear HG4 O5 B5
      go_wp2_with fail
      go_loopw [19, 90] (fun v16 i wr => ∃ (j : Nat) (b : Bool), j ≤ m' ∧ i = .int .i64 j ∧ v16 = .bool b ∧ Hid (b = (b0 || ((intos L v).take j).any fun x => R u x) ∧ Lg w wr g M L ∧ Below w5.heap.size w5 wr)) (fun _ i _ => m' - (intOf i).toNat)
      case atStart => exact ⟨0, b0, Nat.zero_le _, rfl, rfl, Lib.hid ⟨by simp, HG5.out, Below.refl _ _⟩⟩
      case round =>
        obtain ⟨j, b, hj, rfl, rfl, HS⟩ := hrel
        by_cases hlt : j < m'
        · have hjl : j < (intos L v).length := by have := HM'.out; omega
          obtain ⟨bb, off, rfl, hbl, hc0⟩ := HO5.out.1.at_ hjl
          have hce := (HS.out.2.2.cell (p := ⟨bb, _, none⟩) hbl).trans hc0
          have HX : Hid (((intos L v).take (j + 1)).any (fun x => R u x) = (((intos L v).take j).any (fun x => R u x) || R u (intos L v)[j])) := Lib.hid (by rw [List.take_succ_eq_append_getElem hjl, List.any_append]; simp)
          generalize (intos L v)[j] = y at *
          have i1 : (0 : Int) ≤ (j : Int) := by omega
          have i2 : (j : Int) < (m' : Int) := by omega
          clear hc0 hbl hjl
          cases b
          · go_wp2_with fail
            refine Calls.mono (reach_b HS.out.2.1.at_ HOK.out (by omega) HR.out (u : Int) y) ?_
            rintro e w6 ⟨rfl, B6⟩
            have HN : Hid (R u y = (b0 || ((intos L v).take (j + 1)).any fun x => R u x) ∧ Lg w w6 g M L ∧ Below w5.heap.size w5 w6) := Lib.hid ⟨by rw [HX.out, ← Bool.or_assoc, ← HS.out.1]; rfl, HS.out.2.1.next B6, HS.out.2.2.trans (B6.mono HS.out.2.2.size)⟩
            clear B6 HS hce HX
            generalize R u y = b2 at *
            go_wp2_with fail
            go_roundw
            case rel => exact ⟨j + 1, b2, by omega, by go_num, rfl, HN⟩
            case measure => simp [intOf]; omega
          · have HN : Hid (true = (b0 || ((intos L v).take (j + 1)).any fun x => R u x) ∧ Lg w wr g M L ∧ Below w5.heap.size w5 wr) := Lib.hid ⟨by rw [HX.out, ← Bool.or_assoc, ← HS.out.1]; rfl, HS.out.2.1, HS.out.2.2⟩
            clear HS HX
            go_wp2_with fail
            go_roundw
            case rel => exact ⟨j + 1, true, by omega, by go_num, rfl, HN⟩
            case measure => simp [intOf]; omega
        · have HB : Hid (b = R u v) := Lib.hid (by
            rw [HS.out.1, List.take_of_length_le (by have := HM'.out; omega), HB0.out]
            exact Gr.last_edge HR.out HOK.out huM hvM)
          have HG6 := Lib.hid HS.out.2.1
          clear HS HG5 HO5
          obtain rfl := HB.out
          clear HB
          go_wp2_with fail
          refine Calls.mono (reach_b HG6.out.at_ HOK.out (by omega) HR.out (u : Int) (v : Int)) ?_
          rintro e w7 ⟨rfl, B7⟩
          have HG7 := Lib.hid (HG6.out.next B7)
          clear HG6 B7
          generalize R u v = b at *
          have e1 : (b == b) = true := by simp
          cases b
          all_goals
            go_wp2_with fail
            refine Calls.mono (awake_any w7) ?_
            rintro e w8 ⟨rfl, B8⟩
            have HB8 := Lib.hid (HG7.out.low.trans (B8.mono HG7.out.low.size))
            clear HG7 B8
            go_wp2_with fail
            go_ret
            exact ⟨rfl, HB8.out⟩
end Go.Proofs.Ytclbpohhmaojcaa.GrW
