/-
  A bundle's Put: all, or none.
-/
import Derived.Test.YtelplccbcbegkaaBundleFits
namespace Go.Proofs.Ytelplccbcbegkaa.Ord
set_option linter.unusedVariables false
open Go.Proofs.Ytelplccbcbegkaa.Gr (E Path Inside OK outs intos Cyc putL)
/-- How many of the first places hold a vertex that is elsewhere. -/
def bch (A P' : List Nat) (i : Nat) : Nat := (List.range i).countP fun p => decide (P'.getD (A.getD p 0) 0 ≠ p)
theorem bch_succ (A P' : List Nat) (i : Nat) : bch A P' (i + 1) = if P'.getD (A.getD i 0) 0 ≠ i then bch A P' i + 1 else bch A P' i := by
  unfold bch
  rw [List.range_succ, List.countP_append]
  generalize hd : (fun p => decide (P'.getD (A.getD p 0) 0 ≠ p)) = d
  by_cases h : P'.getD (A.getD i 0) 0 ≠ i
  · have e : d i = true := by rw [← hd]; exact decide_eq_true h
    rw [if_pos h]; simp [e]
  · have e : d i = false := by rw [← hd]; exact decide_eq_false h
    rw [if_neg h]; simp [e]
end Go.Proofs.Ytelplccbcbegkaa.Ord
namespace Go.Proofs.Ytelplccbcbegkaa.OrW
set_option linter.unusedVariables false
open Go Go.RowKit Go.Proofs Go.Proofs.Ytelplccbcbegkaa Go.Proofs.Ytelplccbcbegkaa.Wd Go.Proofs.Ytelplccbcbegkaa.GrW Go.Proofs.Ytelplccbcbegkaa.Ord
open Go.Proofs.Ytelplccbcbegkaa.Gr (OK putL outs intos Path edgesTo ev)

theorem place_w {w : World} {base o n : Nat} {F : Nat → Prop} {L : List (List Int)} {P A : List Nat} (h : OAt w base F o n L P A) (hP : Perm n P A) (v : Nat) (hv : v < n) : Calls Try.prog 22 #[.pointer (some ⟨o, 0, none⟩), .int .i64 (v : Nat)] w fun e w' => e = .returned (.tuple #[.int .i64 (P.getD v 0 : Nat), .bool true]) ∧ w = w' := by
  have e : isV n (v : Int) = true := by unfold isV; simp; omega
  refine (place_o h hP (v : Nat)).mono ?_
  rintro e' w' ⟨rfl, rfl⟩
  rw [e, if_pos rfl, Int.toNat_natCast]
  exact ⟨rfl, rfl⟩
/-- What Put answers. -/
def BPutOut (base : Nat) (F : Nat → Prop) (o n : Nat) (L : List (List Int)) (P A : List Nat) (more : Int) (es : List (Int × Int)) (w : World) (e : Ending) (w' : World) : Prop :=
  ∃ k : Nat, FitsC n L P A more es k ∧ ((k ≠ 0 ∧ e = .returned (.tuple #[.int .i64 0, .int .i64 (k : Nat)]) ∧ Below w.heap.size w w') ∨
    (k = 0 ∧ canGrow n more = true ∧ ∃ L' P' A', Ran (n + more.toNat) (growL L more.toNat) (gro P n more.toNat) (gro A n more.toNat) es L' P' A' ∧ e = .returned (.tuple #[.int .i64 (bch A P' n : Nat), .int .i64 0]) ∧ OUpd base F o (n + more.toNat) L' P' A' w w'))
set_option maxRecDepth 100000 in
set_option maxHeartbeats 8000000 in
theorem bput_any' (w : World) (base o n : Nat) (F : Nat → Prop) (L : List (List Int)) (P A : List Nat) (h : OAt w base F o n L P A) (hs : OSt n L P A) (hn : n ≤ 10000) (more : Int) (hok : ∀ m, OK (n + m) (growL L m)) (Ae : Option Addr) (q c : Nat) (es : List (Int × Int)) (hq : q = es.length) (hqm : q ≤ 1000000) (hE : EdgesAt w w.heap.size Ae es) (hAe : ∀ b off, Ae = some ⟨b, off, none⟩ → es ≠ [] → b < w.heap.size) (hA : ∀ b off, Ae = some ⟨b, off, none⟩ → es ≠ [] → ¬ F b) :
    Calls Try.prog 19 #[.pointer (some ⟨o, 0, none⟩), .int .i64 more, .slice Ae q c] w (BPutOut base F o n L P A more es w) := by
  have HO := Lib.hid h.exist
  have HS := Lib.hid hs
  have HOK := Lib.hid hok
  have HQ := Lib.hid hq
  have HE := Lib.hid hE
  have HA := Lib.hid hA
  have HFI := Lib.hid (fits_any' w base o n F L P A h hs hn more hok Ae q c es hq hqm hE hAe)
  clear h hs hok hq hE hA hAe
  go_enter Try.func19, Try.ntmps19
  go_wp2_with fail
  refine Calls.mono HFI.out ?_
  rintro e w1 ⟨k, rfl, hfc, b1⟩
  have HFC := Lib.hid hfc
  have HB1 := Lib.hid b1
  clear HFI hfc b1
  by_cases hk0 : k = 0
  · subst hk0
    have hla : (zs A).length = n := by rw [zs_length, HS.out.perm.la]
    go_wp2_with fail
    refine Calls.mono (list_o (HO.out.below HB1.out) HS.out.perm (by omega)) ?_
    rintro e w2 ⟨v2, rfl, o2, b2⟩
    rw [hla] at o2
    obtain ⟨A2, c2, rfl⟩ := own_form o2
    have HO2 := Lib.hid o2
    have HB2 := Lib.hid (HB1.out.trans (b2.mono HB1.out.size))
    have HS1 := Lib.hid HB1.out.size
    clear o2 b2 hla
    go_wp2_with fail
    refine Calls.mono (bgrow_any' w2 base o n _ L P A (HO.out.below HB2.out) HS.out hn more HOK.out Ae q c es HQ.out hqm ((EdgesAt.below HE.out HB2.out).more' HB2.out.size) (fun b off e hne e2 => HA.out b off e hne e2.1)) ?_
    intro e w3 h3
    unfold BGrowOut at h3
    have hfc := HFC.out
    unfold FitsC at hfc
    by_cases hc : canGrow n more = true
    · rw [if_pos hc] at h3 hfc
      obtain ⟨i, k, L', P', A', rfl, hw, hu⟩ := h3
      obtain ⟨i0, L0, P0, A0, hw0⟩ := hfc
      have hkk := (hw.det hw0).2.1
      subst hkk
      have hran : Ran (n + more.toNat) (growL L more.toNat) (gro P n more.toNat) (gro A n more.toNat) es L' P' A' := by
        rcases hw with ⟨-, -, h⟩ | ⟨h, -⟩
        · exact h
        · exact absurd rfl h
      have hst := hran.st (HS.out.gro' more.toNat (HOK.out _))
      obtain ⟨F3, q1, q2, q3⟩ := hu
      have HO3 := Lib.hid q1
      have HW3 := Lib.hid (own_fr HO2.out q2 (fun j e => (show _ ∧ j < w.heap.size from e).2) HS1.out)
      have HST := Lib.hid hst
      have HRAN := Lib.hid hran
      have HU : Hid (OUpd base F o (n + more.toNat) L' P' A' w w3) := Lib.hid ⟨F3, q1, (Fr.of_below (F := F) HB2.out).trans q2 (fun j _ e => e.1), fun j e => by
        rcases q3 j e with e | e
        · exact .inl e.1
        · exact .inr (Nat.le_trans HB2.out.size e)⟩
      have HCG := Lib.hid hc
      clear hw hw0 hran hst q1 q2 q3 HO2 hc
      generalize hN : n + more.toNat = N at *
      have HNN := Lib.hid hN
      have HnN : Hid (n ≤ N) := Lib.hid (by omega)
      clear hN
      go_wp2_with fail
      go_loop [10, 30] (fun v ix => ∃ j d : Nat, j ≤ n ∧ d ≤ j ∧ ix = .int .i64 j ∧ v = .int .i64 d ∧ Hid (d = bch A P' j)) (fun _ ix => n - (intOf ix).toNat)
      case atStart => exact ⟨0, 0, Nat.zero_le _, Nat.le_refl _, rfl, rfl, Lib.hid rfl⟩
      case round =>
        obtain ⟨j, d, hj, hd, rfl, rfl, HD⟩ := hrel
        by_cases hlt : j < n
        · have hjl : j < A.length := by rw [HS.out.perm.la]; exact hlt
          obtain ⟨b, off, rfl, hb, hcc⟩ := (IRow.of_own (l := zs A) (by rw [show (zs A).length = n by rw [zs_length, HS.out.perm.la]]; exact HW3.out)).at_ (i := j) (by rw [zs_length]; exact hjl)
          rw [zs_getD hjl] at hcc
          have hav := (HS.out.perm.ap j hlt).1
          have HBS := Lib.hid (bch_succ A P' j)
          have HPL := Lib.hid (place_w HO3.out HST.out.perm (A.getD j 0) (Nat.lt_of_lt_of_le hav HnN.out))
          generalize A.getD j 0 = av at *
          generalize P'.getD av 0 = pv at *
          have i1 : (0 : Int) ≤ (j : Int) := by omega
          have i2 : (j : Int) < (n : Int) := by omega
          have HLT := Lib.hid hlt
          clear hb hjl hav hlt
          by_cases he : pv = j
          · have hbe : ((pv : Int) == (j : Int)) = true := by rw [beq_iff_eq, he]
            have HN : Hid (d = bch A P' (j + 1)) := Lib.hid (by rw [HBS.out, if_neg (by simpa using he)]; exact HD.out)
            clear HBS HD he
            go_wp2_with fail
            refine Calls.mono HPL.out ?_
            rintro e w' ⟨rfl, rfl⟩
            clear HPL
            go_wp2_with fail
            go_round
            case rel => exact ⟨j + 1, d, by have := HLT.out; omega, by omega, by go_num, rfl, HN⟩
            case measure => simp [intOf]; have := HLT.out; omega
          · have hbe : ((pv : Int) == (j : Int)) = false := by rw [beq_eq_false_iff_ne]; omega
            have HN : Hid (d + 1 = bch A P' (j + 1)) := Lib.hid (by rw [HBS.out, if_pos he, HD.out])
            clear HBS HD he
            go_wp2_with fail
            refine Calls.mono HPL.out ?_
            rintro e w' ⟨rfl, rfl⟩
            clear HPL
            go_wp2_with fail
            go_round
            case rel => exact ⟨j + 1, d + 1, by have := HLT.out; omega, by omega, by go_num, by go_num, HN⟩
            case measure => simp [intOf]; have := HLT.out; omega
        · have i2 : ¬ (j : Int) < (n : Int) := by omega
          have hjn : j = n := by omega
          have HF : Hid (BPutOut base F o n L P A more es w (.returned (.tuple #[.int .i64 (d : Nat), .int .i64 0])) w3) := Lib.hid (by
            have hd2 := HD.out
            rw [hjn] at hd2
            refine ⟨0, HFC.out, .inr ⟨rfl, HCG.out, L', P', A', by rw [HNN.out]; exact HRAN.out, by rw [hd2], by rw [HNN.out]; exact HU.out⟩⟩)
          clear HD hjn
          go_wp2_with fail
          go_ret2
          exact HF.out
    · rw [if_neg hc] at hfc
      omega
  · have hkb : ((k : Int) == 0) = false := by rw [beq_eq_false_iff_ne]; omega
    have HF : Hid (BPutOut base F o n L P A more es w (.returned (.tuple #[.int .i64 0, .int .i64 (k : Nat)])) w1) := Lib.hid ⟨k, HFC.out, .inl ⟨hk0, rfl, HB1.out⟩⟩
    clear hk0
    go_wp2_with fail
    go_ret2
    exact HF.out
theorem bput_any (w : World) (base o n : Nat) (F : Nat → Prop) (L : List (List Int)) (P A : List Nat) (h : OAt w base F o n L P A) (hs : OSt n L P A) (hn : n ≤ 10000) (more : Int) (hok : ∀ m, OK (n + m) (growL L m)) (Ae : Option Addr) (q c : Nat) (es : List (Int × Int)) (hq : q = es.length) (hqm : q ≤ 1000000) (hE : EdgesAt w w.heap.size Ae es) (hAe : ∀ b off, Ae = some ⟨b, off, none⟩ → b < w.heap.size) (hA : ∀ b off, Ae = some ⟨b, off, none⟩ → ¬ F b) :
    Calls Try.prog 19 #[.pointer (some ⟨o, 0, none⟩), .int .i64 more, .slice Ae q c] w (BPutOut base F o n L P A more es w) :=
  bput_any' w base o n F L P A h hs hn more hok Ae q c es hq hqm hE (fun b off e _ => hAe b off e) (fun b off e _ => hA b off e)
end Go.Proofs.Ytelplccbcbegkaa.OrW
