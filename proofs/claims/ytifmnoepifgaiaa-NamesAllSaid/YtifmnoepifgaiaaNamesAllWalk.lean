/-
  The walk of NamesAll.
-/
import Derived.Test.YtifmnoepifgaiaaNameAllPl
import Derived.Test.YtifmnoepifgaiaaNameArg
namespace Go.Proofs.Ytifmnoepifgaiaa.NmW
set_option linter.unusedVariables false
open Go Go.RowKit Go.Maps Go.Sort Go.Shelf Go.Proofs Go.Proofs.Ytifmnoepifgaiaa Go.Proofs.Ytifmnoepifgaiaa.Wd Go.Proofs.Ytifmnoepifgaiaa.ScW Go.Proofs.Ytifmnoepifgaiaa.Nm Go.Proofs.Ytifmnoepifgaiaa.NmL
open Go.Proofs.Ytifmnoepifgaiaa.Sc (N own flow rightAt right chain place chainI deep over below owned)

theorem bytesLess_str (x y : List UInt8) : Op.bytesLess (ByteArray.toList ⟨x.toArray⟩) (ByteArray.toList ⟨y.toArray⟩) = decide (x < y) := by
  rw [bytesLess_eq, Lib.toList_data, Lib.toList_data]
set_option maxRecDepth 100000 in
set_option maxHeartbeats 16000000 in
theorem namesall_any (A : Option Addr) (c : Nat) (l : List Int) (n : Nat) (hn : n = l.length) (hnc : n ≤ c) (hcm : c ≤ maxLen) (a : Nat) (ha : a ≤ 255) (w : World) (hI : Nums w w.heap.size A l) :
    Calls Try.prog 3 #[.slice A n c, .int .u8 (a : Int)] w fun e w' => e = .returned (.bool true) ∧ Below w.heap.size w w' := by
  have HF := Lib.hid (named_any A c l n hn hnc hcm w hI)
  have hmm := @run_makeMap Try.prog
  clear hI hn hnc hcm
  go_enter Try.func3, Try.ntmps3
  go_wp2_with fail
  refine HF.out.mono ?_
  rintro e w1 ⟨A1, c1, m, ns, ss, rfl, hm, h60, hmn, hmc, hc1, hr, hg, hN1, hB1, -⟩
  have HM := Lib.hid hm
  have HR := Lib.hid hr
  have HG := Lib.hid hg
  have HN1 := Lib.hid hN1
  have HB1 := Lib.hid hB1
  have HC1 := Lib.hid hc1
  unfold maxLen at hc1
  clear HF hm hr hg hN1 hB1
  by_cases hm0 : m = 0
  · subst hm0
    have HE : Hid (∀ x, ¬ namesN ns ss 0 x) := Lib.hid (fun x h => by
      have h1 := h.1
      unfold place at h1
      rw [← HM.out] at h1
      simp at h1)
    go_wp2_with fail
    refine (all_any A1 c1 ns ss 0 HM.out hmc HC1.out (by omega) HR.out HG.out 0 w1 HN1.out).mono ?_
    rintro e w2 ⟨A2, c2, ls, rfl, B2, O2, -, m2⟩
    have hls : ls = [] := List.eq_nil_iff_forall_not_mem.2 fun x hx => HE.out x ((m2 x).1 hx)
    subst hls
    have HB2 := Lib.hid (HB1.out.trans (B2.mono HB1.out.size))
    clear O2 m2 B2
    go_wp2_with fail
    refine (nawake_any w2).mono ?_
    rintro e w3 ⟨rfl, B3⟩
    have HB3 := Lib.hid (HB2.out.trans (B3.mono HB2.out.size))
    clear B3
    go_wp2_with fail
    go_ret
    exact ⟨rfl, HB3.out⟩
  · have hmi : ((a : Int).tmod (m : Int)) = ((a % m : Nat) : Int) := by
      rw [Int.tmod_eq_emod_of_nonneg (Int.natCast_nonneg _)]; simp
    have hmp : ¬ (m : Int) = 0 := by omega
    have him : a % m < m := Nat.mod_lt _ (by omega)
    generalize hai : a % m = i at *
    clear hai
    go_wp2_with fail
    refine (all_any A1 c1 ns ss m HM.out hmc HC1.out (by omega) HR.out HG.out (i : Int) w1 HN1.out).mono ?_
    rintro e w2 ⟨A2, c2, ls, rfl, B2, O2, h2, m2⟩
    have hq := own_cap' O2
    have hqc := own_le O2
    have HQM := Lib.hid (Nat.le_trans hqc hq)
    unfold maxLen at hq
    have hrow := own_rowW O2
    have HROW := Lib.hid hrow
    have HLS := Lib.hid m2
    have HLT := Lib.hid h2
    have HSZ : Hid (∀ x ∈ ls, (⟨x.toArray⟩ : ByteArray).size ≤ maxLen) := Lib.hid (fun x hx => names_size (fun k hk => HG.out k (by rw [HM.out]; exact hk)) ((m2 x).1 hx))
    have HNE : Hid (∀ x ∈ ls, x ≠ []) := Lib.hid (fun x hx => names_ne ((m2 x).1 hx))
    have HB2 := Lib.hid (HB1.out.trans (B2.mono HB1.out.size))
    have HN2 := Lib.hid (HN1.out.grow B2)
    generalize hqq : ls.length = q at *
    have HQ := Lib.hid hqq
    clear hqq hrow O2 h2 m2 B2
    go_wp2_with fail
    have HO0 : Hid (OO (w2.alloc (.map #[] 0)) w2.heap.size 0 (ls.take 0)) := Lib.hid (OO.made w2)
    have HL0 : Hid (Below w2.heap.size w2 (w2.alloc (.map #[] 0))) := Lib.hid ((Below.refl _ w2).alloc (Nat.le_refl _) _)
    generalize hmb : w2.heap.size = mb at *
    clear hmm
    go_loopw [41] (fun ix wr => ∃ p : Nat, p ≤ q ∧ ix = .int .i64 p ∧ Hid (OO wr mb p (ls.take p) ∧ Below mb w2 wr)) (fun ix _ => q - (intOf ix).toNat)
    case atStart => exact ⟨0, Nat.zero_le _, rfl, Lib.hid ⟨HO0.out, HL0.out⟩⟩
    case round =>
      obtain ⟨p, hp, rfl, HS⟩ := hrel
      clear HO0 HL0
      by_cases hlt : p < q
      · have hpl : p < ls.length := by have := HQ.out; omega
        obtain ⟨b, off, rfl, hb, hc⟩ := HROW.out p (by rw [List.length_map]; exact hpl)
        rw [List.getElem_map] at hc
        have q1 := (HS.out.2.cell (p := ⟨b, _, none⟩) hb).trans hc
        have HX := Lib.hid (List.getElem_mem hpl)
        have htk : ls.take (p + 1) = ls.take p ++ [ls[p]] := List.take_succ_eq_append_getElem hpl
        have HTK := Lib.hid htk
        have hxe : (ls[p]).isEmpty = false := by
          cases h : ls[p] with
          | nil => exact absurd h (HNE.out _ HX.out)
          | cons a b => rfl
        have i1 : (0 : Int) ≤ (p : Int) := by omega
        have i2 : (p : Int) < (q : Int) := by omega
        have HPM : Hid (p < maxLen) := Lib.hid (Nat.lt_of_lt_of_le hlt HQM.out)
        have HSX := Lib.hid (HSZ.out _ HX.out)
        clear htk hc
        unfold encStr at q1
        by_cases hp0 : p = 0
        · have u1 : ¬ (0 : Int) < (p : Int) := by omega
          clear hp0
          generalize ls[p] = x at *
          clear hpl hb
          go_wp2_with (first | (at_mapUpdate; refine wpList_update_oo _ rfl _ _ _ rfl mb p _ rfl HS.out.1 HPM.out ⟨x.toArray⟩ rfl HSX.out rfl ?_; intro wu hku hgu) | fail)
          have HNN : Hid (OO wu mb (p + 1) (ls.take (p + 1)) ∧ Below mb w2 wu) := Lib.hid ⟨by rw [HTK.out]; exact hku, HS.out.2.grown hgu (Nat.le_of_lt HS.out.1.lt) (fun j hj => by cases hj; exact Nat.le_refl _)⟩
          clear hku hgu
          go_wp2_with fail
          go_roundw
          case rel => exact ⟨p + 1, by omega, by go_num, HNN⟩
          case measure => simp [intOf]; omega
        · have u1 : (0 : Int) < (p : Int) := by omega
          have hpl' : p - 1 < ls.length := by omega
          obtain ⟨b5, off5, hA5, hb5, hc5⟩ := HROW.out (p - 1) (by rw [List.length_map]; exact hpl')
          have hA6 : b = b5 ∧ off = off5 := by
            simp only [Option.some.injEq, Addr.mk.injEq, and_true] at hA5
            exact hA5
          obtain ⟨rfl, rfl⟩ := hA6
          rw [List.getElem_map] at hc5
          have HC5 : Hid (∀ W, Below mb w2 W → W.cell? ⟨b, off + (p - 1), none⟩ = some (.string ⟨(ls[p - 1]).toArray⟩)) := Lib.hid (fun W hW => by
            exact (hW.cell (p := ⟨b, _, none⟩) hb).trans hc5)
          have hlt5 : Op.bytesLess ls[p - 1] ls[p] = true := by
            rw [bytesLess_eq]
            exact decide_eq_true (List.pairwise_iff_getElem.1 HLT.out (p - 1) p hpl' hpl (by omega))
          have i3 : (0 : Int) ≤ (p : Int) - 1 := by omega
          have i4 : (p : Int) - 1 < (q : Int) := by omega
          generalize ls[p - 1] = x' at *
          generalize ls[p] = x at *
          clear hp0 hA5 hb5 hc5 hpl' hpl hb
          go_wp2_with (first | (at_mapUpdate; refine wpList_update_oo _ rfl _ _ _ rfl mb p _ rfl HS.out.1 HPM.out ⟨x.toArray⟩ rfl HSX.out rfl ?_; intro wu hku hgu; have q5 := HC5.out wu (HS.out.2.grown hgu (Nat.le_of_lt HS.out.1.lt) (fun j hj => by cases hj; exact Nat.le_refl _))) | fail)
          have HNN : Hid (OO wu mb (p + 1) (ls.take (p + 1)) ∧ Below mb w2 wu) := Lib.hid ⟨by rw [HTK.out]; exact hku, HS.out.2.grown hgu (Nat.le_of_lt HS.out.1.lt) (fun j hj => by cases hj; exact Nat.le_refl _)⟩
          clear hku hgu
          go_wp2_with fail
          go_roundw
          case rel => exact ⟨p + 1, by omega, by go_num, HNN⟩
          case measure => simp [intOf]; omega
      · obtain rfl : p = q := by omega
        have HS1 := Lib.hid HS.out
        have hta : ls.take p = ls := List.take_of_length_le (Nat.le_of_eq HQ.out)
        have HMP : Hid (OO wr mb p ls) := Lib.hid (by have := HS.out.1; rw [hta] at this; exact this)
        clear HS hta
        generalize hwx : wr = wx at *
        clear hwx
        go_wp2_with fail
        go_loopw [64] (fun ix wr => ∃ t : Nat, t ≤ 7 ∧ ix = .int .i64 t ∧ Hid (OO wr mb p ls ∧ Below mb w2 wr)) (fun ix _ => 7 - (intOf ix).toNat)
        case atStart => exact ⟨0, Nat.zero_le _, rfl, Lib.hid ⟨HMP.out, HS1.out.2⟩⟩
        case round =>
          obtain ⟨t, ht, rfl, HT⟩ := hrel
          by_cases hlt7 : t < 7
          · generalize hwy : wr = wy at *
            clear hwy
            have hsel : t = 0 ∨ t = 1 ∨ t = 2 ∨ t = 3 ∨ t = 4 ∨ t = 5 ∨ t = 6 := by omega
            have HNY : Hid (NNodes wy wy.heap.size A1 ns ss) := Lib.hid ((HN2.out.below HT.out.2).more (by rw [← hmb]; exact HT.out.2.size))
            clear hlt7 ht
            rcases hsel with rfl | rfl | rfl | rfl | rfl | rfl | rfl
            · go_wp2_with fail
              refine (seen_any A1 c1 ns ss m HM.out hmc HC1.out (by omega) HR.out HG.out (i : Int) (Utf8.encode 97) (by decide) wy HNY.out).mono ?_
              rintro e w5 ⟨rfl, B5⟩
              have HM5 : Hid (OO w5 mb p ls ∧ Below mb w2 w5) := Lib.hid ⟨HT.out.1.below B5 HT.out.1.lt, HT.out.2.trans (B5.mono (Nat.le_of_lt HT.out.1.lt))⟩
              have hlk := HM5.out.1.look (Utf8.encode 97) (by decide)
              have hin : (seenN ns ss (i : Int) (Utf8.encode 97)).isSome = decide ((Utf8.encode 97).data.toList ∈ ls) := by
                rw [Bool.eq_iff_iff, decide_eq_true_eq, HLS.out]
                exact seen_names (x := (Utf8.encode 97).data.toList) (by decide)
              rw [hin]
              generalize ((seenN ns ss (i : Int) (Utf8.encode 97)).getD 0) = r at *
              clear B5 hin
              by_cases hmem : (Utf8.encode 97).data.toList ∈ ls
              · rw [if_pos hmem] at hlk
                rw [decide_eq_true hmem]
                clear hmem
                go_wp2_with fail
                go_roundw
                case rel => exact ⟨0 + 1, by omega, by go_num, HM5⟩
                case measure => simp [intOf]
              · rw [if_neg hmem] at hlk
                rw [decide_eq_false hmem]
                clear hmem
                go_wp2_with fail
                go_roundw
                case rel => exact ⟨0 + 1, by omega, by go_num, HM5⟩
                case measure => simp [intOf]
            · go_wp2_with fail
              refine (seen_any A1 c1 ns ss m HM.out hmc HC1.out (by omega) HR.out HG.out (i : Int) (Utf8.encode 98) (by decide) wy HNY.out).mono ?_
              rintro e w5 ⟨rfl, B5⟩
              have HM5 : Hid (OO w5 mb p ls ∧ Below mb w2 w5) := Lib.hid ⟨HT.out.1.below B5 HT.out.1.lt, HT.out.2.trans (B5.mono (Nat.le_of_lt HT.out.1.lt))⟩
              have hlk := HM5.out.1.look (Utf8.encode 98) (by decide)
              have hin : (seenN ns ss (i : Int) (Utf8.encode 98)).isSome = decide ((Utf8.encode 98).data.toList ∈ ls) := by
                rw [Bool.eq_iff_iff, decide_eq_true_eq, HLS.out]
                exact seen_names (x := (Utf8.encode 98).data.toList) (by decide)
              rw [hin]
              generalize ((seenN ns ss (i : Int) (Utf8.encode 98)).getD 0) = r at *
              clear B5 hin
              by_cases hmem : (Utf8.encode 98).data.toList ∈ ls
              · rw [if_pos hmem] at hlk
                rw [decide_eq_true hmem]
                clear hmem
                go_wp2_with fail
                go_roundw
                case rel => exact ⟨1 + 1, by omega, by go_num, HM5⟩
                case measure => simp [intOf]
              · rw [if_neg hmem] at hlk
                rw [decide_eq_false hmem]
                clear hmem
                go_wp2_with fail
                go_roundw
                case rel => exact ⟨1 + 1, by omega, by go_num, HM5⟩
                case measure => simp [intOf]
            · go_wp2_with fail
              refine (seen_any A1 c1 ns ss m HM.out hmc HC1.out (by omega) HR.out HG.out (i : Int) (Utf8.encode 99) (by decide) wy HNY.out).mono ?_
              rintro e w5 ⟨rfl, B5⟩
              have HM5 : Hid (OO w5 mb p ls ∧ Below mb w2 w5) := Lib.hid ⟨HT.out.1.below B5 HT.out.1.lt, HT.out.2.trans (B5.mono (Nat.le_of_lt HT.out.1.lt))⟩
              have hlk := HM5.out.1.look (Utf8.encode 99) (by decide)
              have hin : (seenN ns ss (i : Int) (Utf8.encode 99)).isSome = decide ((Utf8.encode 99).data.toList ∈ ls) := by
                rw [Bool.eq_iff_iff, decide_eq_true_eq, HLS.out]
                exact seen_names (x := (Utf8.encode 99).data.toList) (by decide)
              rw [hin]
              generalize ((seenN ns ss (i : Int) (Utf8.encode 99)).getD 0) = r at *
              clear B5 hin
              by_cases hmem : (Utf8.encode 99).data.toList ∈ ls
              · rw [if_pos hmem] at hlk
                rw [decide_eq_true hmem]
                clear hmem
                go_wp2_with fail
                go_roundw
                case rel => exact ⟨2 + 1, by omega, by go_num, HM5⟩
                case measure => simp [intOf]
              · rw [if_neg hmem] at hlk
                rw [decide_eq_false hmem]
                clear hmem
                go_wp2_with fail
                go_roundw
                case rel => exact ⟨2 + 1, by omega, by go_num, HM5⟩
                case measure => simp [intOf]
            · go_wp2_with fail
              refine (seen_any A1 c1 ns ss m HM.out hmc HC1.out (by omega) HR.out HG.out (i : Int) (Utf8.encode 100) (by decide) wy HNY.out).mono ?_
              rintro e w5 ⟨rfl, B5⟩
              have HM5 : Hid (OO w5 mb p ls ∧ Below mb w2 w5) := Lib.hid ⟨HT.out.1.below B5 HT.out.1.lt, HT.out.2.trans (B5.mono (Nat.le_of_lt HT.out.1.lt))⟩
              have hlk := HM5.out.1.look (Utf8.encode 100) (by decide)
              have hin : (seenN ns ss (i : Int) (Utf8.encode 100)).isSome = decide ((Utf8.encode 100).data.toList ∈ ls) := by
                rw [Bool.eq_iff_iff, decide_eq_true_eq, HLS.out]
                exact seen_names (x := (Utf8.encode 100).data.toList) (by decide)
              rw [hin]
              generalize ((seenN ns ss (i : Int) (Utf8.encode 100)).getD 0) = r at *
              clear B5 hin
              by_cases hmem : (Utf8.encode 100).data.toList ∈ ls
              · rw [if_pos hmem] at hlk
                rw [decide_eq_true hmem]
                clear hmem
                go_wp2_with fail
                go_roundw
                case rel => exact ⟨3 + 1, by omega, by go_num, HM5⟩
                case measure => simp [intOf]
              · rw [if_neg hmem] at hlk
                rw [decide_eq_false hmem]
                clear hmem
                go_wp2_with fail
                go_roundw
                case rel => exact ⟨3 + 1, by omega, by go_num, HM5⟩
                case measure => simp [intOf]
            · go_wp2_with fail
              refine (seen_any A1 c1 ns ss m HM.out hmc HC1.out (by omega) HR.out HG.out (i : Int) (Utf8.encode 101) (by decide) wy HNY.out).mono ?_
              rintro e w5 ⟨rfl, B5⟩
              have HM5 : Hid (OO w5 mb p ls ∧ Below mb w2 w5) := Lib.hid ⟨HT.out.1.below B5 HT.out.1.lt, HT.out.2.trans (B5.mono (Nat.le_of_lt HT.out.1.lt))⟩
              have hlk := HM5.out.1.look (Utf8.encode 101) (by decide)
              have hin : (seenN ns ss (i : Int) (Utf8.encode 101)).isSome = decide ((Utf8.encode 101).data.toList ∈ ls) := by
                rw [Bool.eq_iff_iff, decide_eq_true_eq, HLS.out]
                exact seen_names (x := (Utf8.encode 101).data.toList) (by decide)
              rw [hin]
              generalize ((seenN ns ss (i : Int) (Utf8.encode 101)).getD 0) = r at *
              clear B5 hin
              by_cases hmem : (Utf8.encode 101).data.toList ∈ ls
              · rw [if_pos hmem] at hlk
                rw [decide_eq_true hmem]
                clear hmem
                go_wp2_with fail
                go_roundw
                case rel => exact ⟨4 + 1, by omega, by go_num, HM5⟩
                case measure => simp [intOf]
              · rw [if_neg hmem] at hlk
                rw [decide_eq_false hmem]
                clear hmem
                go_wp2_with fail
                go_roundw
                case rel => exact ⟨4 + 1, by omega, by go_num, HM5⟩
                case measure => simp [intOf]
            · go_wp2_with fail
              refine (seen_any A1 c1 ns ss m HM.out hmc HC1.out (by omega) HR.out HG.out (i : Int) (Utf8.encode 102) (by decide) wy HNY.out).mono ?_
              rintro e w5 ⟨rfl, B5⟩
              have HM5 : Hid (OO w5 mb p ls ∧ Below mb w2 w5) := Lib.hid ⟨HT.out.1.below B5 HT.out.1.lt, HT.out.2.trans (B5.mono (Nat.le_of_lt HT.out.1.lt))⟩
              have hlk := HM5.out.1.look (Utf8.encode 102) (by decide)
              have hin : (seenN ns ss (i : Int) (Utf8.encode 102)).isSome = decide ((Utf8.encode 102).data.toList ∈ ls) := by
                rw [Bool.eq_iff_iff, decide_eq_true_eq, HLS.out]
                exact seen_names (x := (Utf8.encode 102).data.toList) (by decide)
              rw [hin]
              generalize ((seenN ns ss (i : Int) (Utf8.encode 102)).getD 0) = r at *
              clear B5 hin
              by_cases hmem : (Utf8.encode 102).data.toList ∈ ls
              · rw [if_pos hmem] at hlk
                rw [decide_eq_true hmem]
                clear hmem
                go_wp2_with fail
                go_roundw
                case rel => exact ⟨5 + 1, by omega, by go_num, HM5⟩
                case measure => simp [intOf]
              · rw [if_neg hmem] at hlk
                rw [decide_eq_false hmem]
                clear hmem
                go_wp2_with fail
                go_roundw
                case rel => exact ⟨5 + 1, by omega, by go_num, HM5⟩
                case measure => simp [intOf]
            · go_wp2_with fail
              refine (seen_any A1 c1 ns ss m HM.out hmc HC1.out (by omega) HR.out HG.out (i : Int) (Utf8.encode 103) (by decide) wy HNY.out).mono ?_
              rintro e w5 ⟨rfl, B5⟩
              have HM5 : Hid (OO w5 mb p ls ∧ Below mb w2 w5) := Lib.hid ⟨HT.out.1.below B5 HT.out.1.lt, HT.out.2.trans (B5.mono (Nat.le_of_lt HT.out.1.lt))⟩
              have hlk := HM5.out.1.look (Utf8.encode 103) (by decide)
              have hin : (seenN ns ss (i : Int) (Utf8.encode 103)).isSome = decide ((Utf8.encode 103).data.toList ∈ ls) := by
                rw [Bool.eq_iff_iff, decide_eq_true_eq, HLS.out]
                exact seen_names (x := (Utf8.encode 103).data.toList) (by decide)
              rw [hin]
              generalize ((seenN ns ss (i : Int) (Utf8.encode 103)).getD 0) = r at *
              clear B5 hin
              by_cases hmem : (Utf8.encode 103).data.toList ∈ ls
              · rw [if_pos hmem] at hlk
                rw [decide_eq_true hmem]
                clear hmem
                go_wp2_with fail
                go_roundw
                case rel => exact ⟨6 + 1, by omega, by go_num, HM5⟩
                case measure => simp [intOf]
              · rw [if_neg hmem] at hlk
                rw [decide_eq_false hmem]
                clear hmem
                go_wp2_with fail
                go_roundw
                case rel => exact ⟨6 + 1, by omega, by go_num, HM5⟩
                case measure => simp [intOf]
          · obtain rfl : t = 7 := by omega
            have HT1 := Lib.hid HT.out
            clear HT HS1 HMP
            generalize hwy : wr = wy at *
            clear hwy
            have HNY : Hid (NNodes wy wy.heap.size A1 ns ss) := Lib.hid ((HN2.out.below HT1.out.2).more (by rw [← hmb]; exact HT1.out.2.size))
            have hbsz := HB2.out.size
            have HBY : Hid (Below w.heap.size w wy) := Lib.hid (HB2.out.trans (HT1.out.2.mono (by rw [← hmb]; exact hbsz)))
            clear hbsz
            obtain ⟨bA, oA, hAA, hbA, hcA⟩ := HNY.out.1.own_at (show i < ns.length by have := HM.out; omega)
            subst hAA
            have i5 : (0 : Int) ≤ (i : Int) := by omega
            have i6 : (i : Int) < (m : Int) := by omega
            have HOW : Hid (0 ≤ own ns i → ∀ x, namesN ns ss (own ns i) x → x ∈ ls) := Lib.hid (fun h x hx => (HLS.out x).2 (names_own HR.out (by have := HM.out; omega) h hx))
            generalize own ns i = o at *
            clear hbA
            by_cases ho : (0 : Int) ≤ o
            · have HIN := Lib.hid (HOW.out ho)
              clear HOW
              go_wp2_with fail
              refine (all_any _ c1 ns ss m HM.out hmc HC1.out (by omega) HR.out HG.out o wy HNY.out).mono ?_
              rintro e w6 ⟨A6, c6, l6, rfl, B6, O6, -, m6⟩
              have HS6 : Hid (OO w6 mb p ls ∧ Below w.heap.size w w6) := Lib.hid ⟨HT1.out.1.below B6 HT1.out.1.lt, HBY.out.trans (B6.mono HBY.out.size)⟩
              have HR6 := Lib.hid (own_rowW O6)
              have hc6 := Nat.le_trans (own_le O6) (own_cap' O6)
              have hc6b := own_cap' O6
              unfold maxLen at hc6 hc6b
              have hc6a := own_le O6
              have HI6 : Hid (∀ x ∈ l6, x ∈ ls) := Lib.hid (fun x hx => HIN.out x ((m6 x).1 hx))
              generalize hq6 : l6.length = q6 at *
              have HQ6 := Lib.hid hq6
              clear hq6 O6 m6 B6 HIN
              go_wp2_with fail
              go_loop [96] (fun ix => ∃ r : Nat, r ≤ q6 ∧ ix = .int .i64 r) (fun ix => q6 - (intOf ix).toNat)
              case atStart => exact ⟨0, Nat.zero_le _, rfl⟩
              case round =>
                obtain ⟨r, hr6, rfl⟩ := hrel
                by_cases hlr : r < q6
                · have hrl : r < l6.length := by have := HQ6.out; omega
                  obtain ⟨b7, off7, rfl, hb7, hc7⟩ := HR6.out r (by rw [List.length_map]; exact hrl)
                  rw [List.getElem_map] at hc7
                  have hmem := HI6.out _ (List.getElem_mem hrl)
                  generalize l6[r] = x at *
                  have hlk := HS6.out.1.look ⟨x.toArray⟩ (HSZ.out x hmem)
                  rw [if_pos (by simpa using hmem)] at hlk
                  unfold encStr at hc7
                  have i7 : (0 : Int) ≤ (r : Int) := by omega
                  have i8 : (r : Int) < (q6 : Int) := by omega
                  clear hb7 hmem
                  go_wp2_with fail
                  go_round
                  case rel => exact ⟨r + 1, by omega, by go_num⟩
                  case measure => simp [intOf]; omega
                · obtain rfl : r = q6 := by omega
                  go_wp2_with fail
                  refine (nawake_any w6).mono ?_
                  rintro e w9 ⟨rfl, B9⟩
                  have HB9 : Hid (Below w.heap.size w w9) := Lib.hid (HS6.out.2.trans (B9.mono HS6.out.2.size))
                  clear B9
                  go_wp2_with fail
                  go_ret
                  exact ⟨rfl, HB9.out⟩
            · go_wp2_with fail
              refine (nawake_any wy).mono ?_
              rintro e w9 ⟨rfl, B9⟩
              have HB9 : Hid (Below w.heap.size w w9) := Lib.hid (HBY.out.trans (B9.mono HBY.out.size))
              clear B9
              go_wp2_with fail
              go_ret
              exact ⟨rfl, HB9.out⟩
end Go.Proofs.Ytifmnoepifgaiaa.NmW
