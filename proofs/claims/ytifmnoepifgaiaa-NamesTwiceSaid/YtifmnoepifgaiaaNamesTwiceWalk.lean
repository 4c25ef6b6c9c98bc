/-
  The walk of NamesTwice.
-/
import Derived.Test.YtifmnoepifgaiaaNameRep
import Derived.Test.YtifmnoepifgaiaaNameArg
namespace Go.Proofs.Ytifmnoepifgaiaa.NmW
set_option linter.unusedVariables false
open Go Go.RowKit Go.Maps Go.Sort Go.Shelf Go.Proofs Go.Proofs.Ytifmnoepifgaiaa Go.Proofs.Ytifmnoepifgaiaa.Wd Go.Proofs.Ytifmnoepifgaiaa.ScW Go.Proofs.Ytifmnoepifgaiaa.Nm Go.Proofs.Ytifmnoepifgaiaa.NmL
open Go.Proofs.Ytifmnoepifgaiaa.Sc (N own flow rightAt right chain place chainI deep over below owned)

theorem cat_new (k : Nat) : ({ data := #[110] } : ByteArray) ++ ({ data := Array.replicate k 105 } : ByteArray) = newName k := by
  unfold newName
  apply ByteArray.ext
  rw [ByteArray.data_append]
  simp
theorem NF.grow {w wr w' : World} {g m c : Nat} {ns : List N} {ss : List Str} (h : NF w wr g m c ns ss) (hb : Below wr.heap.size wr w') : NF w w' g m c ns ss := by
  obtain ⟨cs, h1, h2, h3⟩ := h.lay
  exact ⟨h.len, h.cap, h.max, h.names, h.low, h.below.trans (hb.mono h.below.size), cs, h1.below hb h1.lt, h2, h3⟩
theorem any_range_succ (f : Nat → Bool) (k : Nat) : (List.range (k + 1)).any f = ((List.range k).any f || f k) := by
  rw [List.range_succ, List.any_append]
  simp
theorem any_take_succ {l : List Nat} (f : Nat → Bool) {p : Nat} (hp : p < l.length) : (l.take (p + 1)).any f = ((l.take p).any f || f l[p]) := by
  rw [List.take_succ_eq_append_getElem hp, List.any_append]
  simp
set_option maxRecDepth 100000 in
set_option maxHeartbeats 16000000 in
theorem namestwice_any (A : Option Addr) (c : Nat) (l : List Int) (n : Nat) (hn : n = l.length) (hnc : n ≤ c) (hcm : c ≤ maxLen) (w : World) (hI : Nums w w.heap.size A l) :
    Calls Try.prog 5 #[.slice A n c] w fun e w' => e = .returned (.bool true) ∧ Below w.heap.size w w' := by
  have HF := Lib.hid (named_any A c l n hn hnc hcm w hI)
  clear hI hn hnc hcm
  go_enter Try.func5, Try.ntmps5
  go_wp2_with fail
  refine HF.out.mono ?_
  rintro e w1 ⟨A1, c1, m, ns, ss, rfl, hm, h60, hmn, hmc, hc1, hr, hg, hN1, hB1, hNF⟩
  have HM := Lib.hid hm
  have HR := Lib.hid hr
  have HG := Lib.hid hg
  have HN1 := Lib.hid hN1
  have HB1 := Lib.hid hB1
  have HC1 := Lib.hid hc1
  have HNF := Lib.hid hNF
  have HTW : Hid (twiceTo ns ss m = (List.range m).any (twI ns ss)) := Lib.hid (by rw [hm]; exact twice_iff ns ss)
  unfold maxLen at hc1
  clear HF hm hr hg hN1 hB1 hNF
  go_wp2_with fail
  go_loopw [4, 16] (fun t ix wr => ∃ k : Nat, k ≤ m ∧ ix = .int .i64 k ∧ t = .bool ((List.range k).any (twI ns ss)) ∧ Hid (Below w1.heap.size w1 wr)) (fun _ ix _ => m - (intOf ix).toNat)
  case atStart => exact ⟨0, Nat.zero_le _, rfl, rfl, Lib.hid (Below.refl _ _)⟩
  case round =>
    obtain ⟨i, hi, rfl, rfl, HS⟩ := hrel
    by_cases hlt : i < m
    · have HNX : Hid (NNodes wr wr.heap.size A1 ns ss) := Lib.hid (HN1.out.grow HS.out)
      have hts := any_range_succ (twI ns ss) i
      have hsn := scopeN_nat (ns := ns) (i := i) (by have := HM.out; omega)
      have HTS : Hid ((List.range (i + 1)).any (twI ns ss) = ((List.range i).any (twI ns ss) || (scopeN ns (i : Int)).any (tw1 ss i))) := Lib.hid hts
      clear hts
      generalize hwx : wr = wx at *
      generalize (List.range i).any (twI ns ss) = t0 at *
      clear hwx
      go_wp2_with fail
      refine (nscope_any A1 c1 ns ss m HM.out hmc HC1.out (by omega) (i : Int) wx HNX.out).mono ?_
      rintro e w5 ⟨A5, c5, rfl, B5, O5⟩
      rw [toI_length] at O5 ⊢
      have HRL : Hid (∀ x ∈ scopeN ns (i : Int), x < m) := Lib.hid (fun x hx => by
        rw [hsn] at hx
        rw [HM.out]; exact (mem_owned.1 hx).1)
      have HB5 := Lib.hid B5
      have h5c := own_le O5
      have h5m := own_cap' O5
      unfold maxLen at h5m
      have HR5 := Lib.hid (own_rowW O5)
      generalize hrk : scopeN ns (i : Int) = rk at *
      generalize hqk : rk.length = qk at *
      have HQK := Lib.hid hqk
      clear hrk hqk O5 B5 hsn
      go_wp2_with fail
      go_loopw [4, 23] (fun t ix wi => ∃ p : Nat, p ≤ qk ∧ ix = .int .i64 p ∧ t = .bool (t0 || (rk.take p).any (tw1 ss i)) ∧ Hid (Below w5.heap.size w5 wi)) (fun _ ix _ => qk - (intOf ix).toNat)
      case atStart => exact ⟨0, Nat.zero_le _, rfl, by simp, Lib.hid (Below.refl _ _)⟩
      case round =>
        obtain ⟨p, hp, rfl, rfl, HT⟩ := hrel
        by_cases hlp : p < qk
        · have hpl : p < rk.length := by have := HQK.out; omega
          obtain ⟨b3, off3, rfl, hb3, p3⟩ := HR5.out p (by simp [iv, toI]; exact hpl)
          have e3 : (iv (toI rk))[p]'(by simp [iv, toI]; exact hpl) = .int .i64 ((rk[p] : Nat) : Int) := by simp [iv, toI]
          rw [e3] at p3
          have q3 := (HT.out.cell (p := ⟨b3, _, none⟩) hb3).trans p3
          have g1 := HRL.out _ (List.getElem_mem hpl)
          have htp : (t0 || (rk.take (p + 1)).any (tw1 ss i)) = ((t0 || (rk.take p).any (tw1 ss i)) || tw1 ss i rk[p]) := by rw [any_take_succ _ hpl, Bool.or_assoc]
          have HTP0 := Lib.hid htp
          clear e3 htp p3
          generalize rk[p] = x at *
          clear hpl hb3
          have HBI : Hid (Below wx.heap.size wx wr) := Lib.hid (HB5.out.trans (HT.out.mono HB5.out.size))
          generalize hwi : wr = wi at *
          have HNI : Hid (NNodes wi wi.heap.size A1 ns ss) := Lib.hid (HNX.out.grow HBI.out)
          clear hwi
          obtain ⟨bA, oA, hAA, hbA, cA1⟩ := HNI.out.2 x (by have := HM.out; omega)
          obtain ⟨bA2, oA2, hAA2, hbA2, cA2⟩ := HNI.out.2 i (by have := HM.out; omega)
          subst hAA
          have eA2 : bA = bA2 ∧ oA = oA2 := by
            simp only [Option.some.injEq, Addr.mk.injEq, and_true] at hAA2
            exact hAA2
          obtain ⟨rfl, rfl⟩ := eA2
          have HCL : Hid (∀ W, Below wi.heap.size wi W → W.cell? ⟨bA, oA + x * 16 + 1, none⟩ = some (.string (nm ss x)) ∧ W.cell? ⟨bA, oA + i * 16 + 1, none⟩ = some (.string (nm ss i))) := Lib.hid (fun W hW => ⟨(hW.cell (p := ⟨bA, _, none⟩) hbA).trans cA1, (hW.cell (p := ⟨bA, _, none⟩) hbA).trans cA2⟩)
          have i5 : (0 : Int) ≤ (p : Int) := by omega
          have i6 : (p : Int) < (qk : Int) := by omega
          have i7 : (0 : Int) ≤ (x : Int) := by omega
          have i8 : (x : Int) < (m : Int) := by omega
          have i9 : (0 : Int) ≤ (i : Int) := by omega
          have i10 : (i : Int) < (m : Int) := by omega
          clear hAA2 hbA hbA2 cA1 cA2
          have HT9 := Lib.hid HT.out
          clear HT
          generalize (t0 || (rk.take p).any (tw1 ss i)) = tv at *
          by_cases htv : tv = true
          · have HTP : Hid ((t0 || (rk.take (p + 1)).any (tw1 ss i)) = true) := Lib.hid (by rw [HTP0.out, htv, Bool.true_or])
            subst htv
            clear HTP0
            go_wp2_with fail
            have hS : Below wi.heap.size wi wi.drew := (Below.refl _ wi).drew
            refine wp_region_heldG [] (fun _ W => Below wi.heap.size wi W) (by kernel_rfl) ?_
            change wpAnyG _ _ _ _ _ _ 28 _ _ wi.drew
            refine g_take (i := 0) rfl rfl (by kernel_rfl) (by kernel_rfl) (by kernel_rfl) (by kernel_rfl) (by kernel_rfl) (fun _ _ _ h => h) hS (fun L' W hL hW => by go_simp; rfl) ?_
            refine g_take (i := 1) rfl rfl (by kernel_rfl) (by kernel_rfl) (by kernel_rfl) (by kernel_rfl) (by kernel_rfl) (fun _ _ _ h => h) hS (fun L' W hL hW => by go_simp; rfl) ?_
            refine g_skip (i := 2) rfl (by simp only [Region.wanted, yielded]; first | (go_simp; done) | (go_simp; simp [undef]; done) | (go_simp; unfold undef; decide)) (by kernel_rfl) (by kernel_rfl) (by kernel_rfl) (by kernel_rfl) (by kernel_rfl) (fun _ _ _ h => h) hS ?_
            refine g_skip (i := 3) rfl (by simp only [Region.wanted, yielded]; first | (go_simp; done) | (go_simp; simp [undef]; done) | (go_simp; unfold undef; decide)) (by kernel_rfl) (by kernel_rfl) (by kernel_rfl) (by kernel_rfl) (by kernel_rfl) (fun _ _ _ h => h) hS ?_
            refine g_skip (i := 4) rfl (by simp only [Region.wanted, yielded]; first | (go_simp; done) | (go_simp; simp [undef]; done) | (go_simp; unfold undef; decide)) (by kernel_rfl) (by kernel_rfl) (by kernel_rfl) (by kernel_rfl) (by kernel_rfl) (fun _ _ _ h => h) hS ?_
            refine g_skip (i := 5) rfl (by simp only [Region.wanted, yielded]; first | (go_simp; done) | (go_simp; simp [undef]; done) | (go_simp; unfold undef; decide)) (by kernel_rfl) (by kernel_rfl) (by kernel_rfl) (by kernel_rfl) (by kernel_rfl) (fun _ _ _ h => h) hS ?_
            refine g_skip (i := 6) rfl (by simp only [Region.wanted, yielded]; first | (go_simp; done) | (go_simp; simp [undef]; done) | (go_simp; unfold undef; decide)) (by kernel_rfl) (by kernel_rfl) (by kernel_rfl) (by kernel_rfl) (by kernel_rfl) (fun _ _ _ h => h) hS ?_
            refine g_skip (i := 7) rfl (by simp only [Region.wanted, yielded]; first | (go_simp; done) | (go_simp; simp [undef]; done) | (go_simp; unfold undef; decide)) (by kernel_rfl) (by kernel_rfl) (by kernel_rfl) (by kernel_rfl) (by kernel_rfl) (fun _ _ _ h => h) hS ?_
            refine g_skip (i := 8) rfl (by simp only [Region.wanted, yielded]; first | (go_simp; done) | (go_simp; simp [undef]; done) | (go_simp; unfold undef; decide)) (by kernel_rfl) (by kernel_rfl) (by kernel_rfl) (by kernel_rfl) (by kernel_rfl) (fun _ _ _ h => h) hS ?_
            refine g_skip (i := 9) rfl (by simp only [Region.wanted, yielded]; first | (go_simp; done) | (go_simp; simp [undef]; done) | (go_simp; unfold undef; decide)) (by kernel_rfl) (by kernel_rfl) (by kernel_rfl) (by kernel_rfl) (by kernel_rfl) (fun _ _ _ h => h) hS ?_
            refine g_skip (i := 10) rfl (by simp only [Region.wanted, yielded]; first | (go_simp; done) | (go_simp; simp [undef]; done) | (go_simp; unfold undef; decide)) (by kernel_rfl) (by kernel_rfl) (by kernel_rfl) (by kernel_rfl) (by kernel_rfl) (fun _ _ _ h => h) hS ?_
            refine g_skip (i := 11) rfl (by simp only [Region.wanted, yielded]; first | (go_simp; done) | (go_simp; simp [undef]; done) | (go_simp; unfold undef; decide)) (by kernel_rfl) (by kernel_rfl) (by kernel_rfl) (by kernel_rfl) (by kernel_rfl) (fun _ _ _ h => h) hS ?_
            refine g_skip (i := 12) rfl (by simp only [Region.wanted, yielded]; first | (go_simp; done) | (go_simp; simp [undef]; done) | (go_simp; unfold undef; decide)) (by kernel_rfl) (by kernel_rfl) (by kernel_rfl) (by kernel_rfl) (by kernel_rfl) (fun _ _ _ h => h) hS ?_
            refine g_skip (i := 13) rfl (by simp only [Region.wanted, yielded]; first | (go_simp; done) | (go_simp; simp [undef]; done) | (go_simp; unfold undef; decide)) (by kernel_rfl) (by kernel_rfl) (by kernel_rfl) (by kernel_rfl) (by kernel_rfl) (fun _ _ _ h => h) hS ?_
            refine g_skip (i := 14) rfl (by simp only [Region.wanted, yielded]; first | (go_simp; done) | (go_simp; simp [undef]; done) | (go_simp; unfold undef; decide)) (by kernel_rfl) (by kernel_rfl) (by kernel_rfl) (by kernel_rfl) (by kernel_rfl) (fun _ _ _ h => h) hS ?_
            refine g_skip (i := 15) rfl (by simp only [Region.wanted, yielded]; first | (go_simp; done) | (go_simp; simp [undef]; done) | (go_simp; unfold undef; decide)) (by kernel_rfl) (by kernel_rfl) (by kernel_rfl) (by kernel_rfl) (by kernel_rfl) (fun _ _ _ h => h) hS ?_
            refine g_skip (i := 16) rfl (by simp only [Region.wanted, yielded]; first | (go_simp; done) | (go_simp; simp [undef]; done) | (go_simp; unfold undef; decide)) (by kernel_rfl) (by kernel_rfl) (by kernel_rfl) (by kernel_rfl) (by kernel_rfl) (fun _ _ _ h => h) hS ?_
            refine g_skip (i := 17) rfl (by simp only [Region.wanted, yielded]; first | (go_simp; done) | (go_simp; simp [undef]; done) | (go_simp; unfold undef; decide)) (by kernel_rfl) (by kernel_rfl) (by kernel_rfl) (by kernel_rfl) (by kernel_rfl) (fun _ _ _ h => h) hS ?_
            refine g_skip (i := 18) rfl (by simp only [Region.wanted, yielded]; first | (go_simp; done) | (go_simp; simp [undef]; done) | (go_simp; unfold undef; decide)) (by kernel_rfl) (by kernel_rfl) (by kernel_rfl) (by kernel_rfl) (by kernel_rfl) (fun _ _ _ h => h) hS ?_
            refine g_skip (i := 19) rfl (by simp only [Region.wanted, yielded]; first | (go_simp; done) | (go_simp; simp [undef]; done) | (go_simp; unfold undef; decide)) (by kernel_rfl) (by kernel_rfl) (by kernel_rfl) (by kernel_rfl) (by kernel_rfl) (fun _ _ _ h => h) hS ?_
            refine g_skip (i := 20) rfl (by simp only [Region.wanted, yielded]; first | (go_simp; done) | (go_simp; simp [undef]; done) | (go_simp; unfold undef; decide)) (by kernel_rfl) (by kernel_rfl) (by kernel_rfl) (by kernel_rfl) (by kernel_rfl) (fun _ _ _ h => h) hS ?_
            refine g_skip (i := 21) rfl (by simp only [Region.wanted, yielded]; first | (go_simp; done) | (go_simp; simp [undef]; done) | (go_simp; unfold undef; decide)) (by kernel_rfl) (by kernel_rfl) (by kernel_rfl) (by kernel_rfl) (by kernel_rfl) (fun _ _ _ h => h) hS ?_
            refine g_skip (i := 22) rfl (by simp only [Region.wanted, yielded]; first | (go_simp; done) | (go_simp; simp [undef]; done) | (go_simp; unfold undef; decide)) (by kernel_rfl) (by kernel_rfl) (by kernel_rfl) (by kernel_rfl) (by kernel_rfl) (fun _ _ _ h => h) hS ?_
            refine g_skip (i := 23) rfl (by simp only [Region.wanted, yielded]; first | (go_simp; done) | (go_simp; simp [undef]; done) | (go_simp; unfold undef; decide)) (by kernel_rfl) (by kernel_rfl) (by kernel_rfl) (by kernel_rfl) (by kernel_rfl) (fun _ _ _ h => h) hS ?_
            refine g_skip (i := 24) rfl (by simp only [Region.wanted, yielded]; first | (go_simp; done) | (go_simp; simp [undef]; done) | (go_simp; unfold undef; decide)) (by kernel_rfl) (by kernel_rfl) (by kernel_rfl) (by kernel_rfl) (by kernel_rfl) (fun _ _ _ h => h) hS ?_
            refine g_skip (i := 25) rfl (by simp only [Region.wanted, yielded]; first | (go_simp; done) | (go_simp; simp [undef]; done) | (go_simp; unfold undef; decide)) (by kernel_rfl) (by kernel_rfl) (by kernel_rfl) (by kernel_rfl) (by kernel_rfl) (fun _ _ _ h => h) hS ?_
            refine g_take (i := 26) rfl rfl (by kernel_rfl) (by kernel_rfl) (by kernel_rfl) (by kernel_rfl) (by kernel_rfl) (fun _ _ _ h => h) hS (fun L' W hL hW => by go_simp; rfl) ?_
            refine g_take (i := 27) rfl rfl (by kernel_rfl) (by kernel_rfl) (by kernel_rfl) (by kernel_rfl) (by kernel_rfl) (fun _ _ _ h => h) hS (fun L' W hL hW => by go_simp; rfl) ?_
            refine wpAnyG_done (by kernel_rfl) ?_ _
            have HB9 : Hid (Below w5.heap.size w5 wi.drew) := Lib.hid HT9.out.drew
            clear hS HCL
            go_simp
            go_wp2_with fail
            go_roundw
            case rel => exact ⟨p + 1, by omega, by go_num, by first | (rw [HTP.out]; done) | (rw [HTP.out]; simp [hxn]), HB9⟩
            case measure => simp [intOf]; omega
          · have htv : tv = false := by simpa using htv
            have HTP1 : Hid ((t0 || (rk.take (p + 1)).any (tw1 ss i)) = tw1 ss i x) := Lib.hid (by rw [HTP0.out, htv, Bool.false_or])
            subst htv
            clear HTP0
            by_cases hxi : x = i
            · have HTP : Hid ((t0 || (rk.take (p + 1)).any (tw1 ss i)) = false) := Lib.hid (by rw [HTP1.out]; unfold tw1; rw [decide_eq_false (fun h => h hxi)]; rfl)
              clear HTP1
              obtain rfl : i = x := hxi.symm
              go_wp2_with fail
              have hS : Below wi.heap.size wi wi.drew := (Below.refl _ wi).drew
              refine wp_region_heldG [] (fun _ W => Below wi.heap.size wi W) (by kernel_rfl) ?_
              change wpAnyG _ _ _ _ _ _ 28 _ _ wi.drew
              refine g_take (i := 0) rfl rfl (by kernel_rfl) (by kernel_rfl) (by kernel_rfl) (by kernel_rfl) (by kernel_rfl) (fun _ _ _ h => h) hS (fun L' W hL hW => by go_simp; rfl) ?_
              refine g_take (i := 1) rfl rfl (by kernel_rfl) (by kernel_rfl) (by kernel_rfl) (by kernel_rfl) (by kernel_rfl) (fun _ _ _ h => h) hS (fun L' W hL hW => by go_simp; rfl) ?_
              refine g_takeG (i := 2) rfl (by simp only [Region.wanted, yielded]; go_simp) (by kernel_rfl) (by kernel_rfl) (by kernel_rfl) (by kernel_rfl) (by kernel_rfl) (fun _ _ _ h => h) hS (fun L' W hL hW => by go_simp; rfl) ?_
              refine g_takeG (i := 3) rfl (by simp only [Region.wanted, yielded]; go_simp) (by kernel_rfl) (by kernel_rfl) (by kernel_rfl) (by kernel_rfl) (by kernel_rfl) (fun _ _ _ h => h) hS (fun L' W hL hW => by go_simp; rfl) ?_
              refine g_takeG (i := 4) rfl (by simp only [Region.wanted, yielded]; go_simp) (by kernel_rfl) (by kernel_rfl) (by kernel_rfl) (by kernel_rfl) (by kernel_rfl) (fun _ _ _ h => h) hS (fun L' W hL hW => by go_simp; rfl) ?_
              refine g_takeG (i := 5) rfl (by simp only [Region.wanted, yielded]; go_simp) (by kernel_rfl) (by kernel_rfl) (by kernel_rfl) (by kernel_rfl) (by kernel_rfl) (fun _ _ _ h => h) hS (fun L' W hL hW => by go_simp; rfl) ?_
              refine g_skip (i := 6) rfl (by simp only [Region.wanted, yielded]; first | (go_simp; done) | (go_simp; simp [undef]; done) | (go_simp; unfold undef; decide)) (by kernel_rfl) (by kernel_rfl) (by kernel_rfl) (by kernel_rfl) (by kernel_rfl) (fun _ _ _ h => h) hS ?_
              refine g_skip (i := 7) rfl (by simp only [Region.wanted, yielded]; first | (go_simp; done) | (go_simp; simp [undef]; done) | (go_simp; unfold undef; decide)) (by kernel_rfl) (by kernel_rfl) (by kernel_rfl) (by kernel_rfl) (by kernel_rfl) (fun _ _ _ h => h) hS ?_
              refine g_skip (i := 8) rfl (by simp only [Region.wanted, yielded]; first | (go_simp; done) | (go_simp; simp [undef]; done) | (go_simp; unfold undef; decide)) (by kernel_rfl) (by kernel_rfl) (by kernel_rfl) (by kernel_rfl) (by kernel_rfl) (fun _ _ _ h => h) hS ?_
              refine g_skip (i := 9) rfl (by simp only [Region.wanted, yielded]; first | (go_simp; done) | (go_simp; simp [undef]; done) | (go_simp; unfold undef; decide)) (by kernel_rfl) (by kernel_rfl) (by kernel_rfl) (by kernel_rfl) (by kernel_rfl) (fun _ _ _ h => h) hS ?_
              refine g_skip (i := 10) rfl (by simp only [Region.wanted, yielded]; first | (go_simp; done) | (go_simp; simp [undef]; done) | (go_simp; unfold undef; decide)) (by kernel_rfl) (by kernel_rfl) (by kernel_rfl) (by kernel_rfl) (by kernel_rfl) (fun _ _ _ h => h) hS ?_
              refine g_skip (i := 11) rfl (by simp only [Region.wanted, yielded]; first | (go_simp; done) | (go_simp; simp [undef]; done) | (go_simp; unfold undef; decide)) (by kernel_rfl) (by kernel_rfl) (by kernel_rfl) (by kernel_rfl) (by kernel_rfl) (fun _ _ _ h => h) hS ?_
              refine g_skip (i := 12) rfl (by simp only [Region.wanted, yielded]; first | (go_simp; done) | (go_simp; simp [undef]; done) | (go_simp; unfold undef; decide)) (by kernel_rfl) (by kernel_rfl) (by kernel_rfl) (by kernel_rfl) (by kernel_rfl) (fun _ _ _ h => h) hS ?_
              refine g_skip (i := 13) rfl (by simp only [Region.wanted, yielded]; first | (go_simp; done) | (go_simp; simp [undef]; done) | (go_simp; unfold undef; decide)) (by kernel_rfl) (by kernel_rfl) (by kernel_rfl) (by kernel_rfl) (by kernel_rfl) (fun _ _ _ h => h) hS ?_
              refine g_skip (i := 14) rfl (by simp only [Region.wanted, yielded]; first | (go_simp; done) | (go_simp; simp [undef]; done) | (go_simp; unfold undef; decide)) (by kernel_rfl) (by kernel_rfl) (by kernel_rfl) (by kernel_rfl) (by kernel_rfl) (fun _ _ _ h => h) hS ?_
              refine g_skip (i := 15) rfl (by simp only [Region.wanted, yielded]; first | (go_simp; done) | (go_simp; simp [undef]; done) | (go_simp; unfold undef; decide)) (by kernel_rfl) (by kernel_rfl) (by kernel_rfl) (by kernel_rfl) (by kernel_rfl) (fun _ _ _ h => h) hS ?_
              refine g_skip (i := 16) rfl (by simp only [Region.wanted, yielded]; first | (go_simp; done) | (go_simp; simp [undef]; done) | (go_simp; unfold undef; decide)) (by kernel_rfl) (by kernel_rfl) (by kernel_rfl) (by kernel_rfl) (by kernel_rfl) (fun _ _ _ h => h) hS ?_
              refine g_takeG (i := 17) rfl (by simp only [Region.wanted, yielded]; go_simp) (by kernel_rfl) (by kernel_rfl) (by kernel_rfl) (by kernel_rfl) (by kernel_rfl) (fun _ _ _ h => h) hS (fun L' W hL hW => by go_simp; rfl) ?_
              refine g_takeG (i := 18) rfl (by simp only [Region.wanted, yielded]; go_simp) (by kernel_rfl) (by kernel_rfl) (by kernel_rfl) (by kernel_rfl) (by kernel_rfl) (fun _ _ _ h => h) hS (fun L' W hL hW => by go_simp; rfl) ?_
              refine g_skip (i := 19) rfl (by simp only [Region.wanted, yielded]; first | (go_simp; done) | (go_simp; simp [undef]; done) | (go_simp; unfold undef; decide)) (by kernel_rfl) (by kernel_rfl) (by kernel_rfl) (by kernel_rfl) (by kernel_rfl) (fun _ _ _ h => h) hS ?_
              refine g_skip (i := 20) rfl (by simp only [Region.wanted, yielded]; first | (go_simp; done) | (go_simp; simp [undef]; done) | (go_simp; unfold undef; decide)) (by kernel_rfl) (by kernel_rfl) (by kernel_rfl) (by kernel_rfl) (by kernel_rfl) (fun _ _ _ h => h) hS ?_
              refine g_skip (i := 21) rfl (by simp only [Region.wanted, yielded]; first | (go_simp; done) | (go_simp; simp [undef]; done) | (go_simp; unfold undef; decide)) (by kernel_rfl) (by kernel_rfl) (by kernel_rfl) (by kernel_rfl) (by kernel_rfl) (fun _ _ _ h => h) hS ?_
              refine g_skip (i := 22) rfl (by simp only [Region.wanted, yielded]; first | (go_simp; done) | (go_simp; simp [undef]; done) | (go_simp; unfold undef; decide)) (by kernel_rfl) (by kernel_rfl) (by kernel_rfl) (by kernel_rfl) (by kernel_rfl) (fun _ _ _ h => h) hS ?_
              refine g_skip (i := 23) rfl (by simp only [Region.wanted, yielded]; first | (go_simp; done) | (go_simp; simp [undef]; done) | (go_simp; unfold undef; decide)) (by kernel_rfl) (by kernel_rfl) (by kernel_rfl) (by kernel_rfl) (by kernel_rfl) (fun _ _ _ h => h) hS ?_
              refine g_skip (i := 24) rfl (by simp only [Region.wanted, yielded]; first | (go_simp; done) | (go_simp; simp [undef]; done) | (go_simp; unfold undef; decide)) (by kernel_rfl) (by kernel_rfl) (by kernel_rfl) (by kernel_rfl) (by kernel_rfl) (fun _ _ _ h => h) hS ?_
              refine g_takeG (i := 25) rfl (by simp only [Region.wanted, yielded]; go_simp) (by kernel_rfl) (by kernel_rfl) (by kernel_rfl) (by kernel_rfl) (by kernel_rfl) (fun _ _ _ h => h) hS (fun L' W hL hW => by go_simp; rfl) ?_
              refine g_take (i := 26) rfl rfl (by kernel_rfl) (by kernel_rfl) (by kernel_rfl) (by kernel_rfl) (by kernel_rfl) (fun _ _ _ h => h) hS (fun L' W hL hW => by go_simp; rfl) ?_
              refine g_take (i := 27) rfl rfl (by kernel_rfl) (by kernel_rfl) (by kernel_rfl) (by kernel_rfl) (by kernel_rfl) (fun _ _ _ h => h) hS (fun L' W hL hW => by go_simp; rfl) ?_
              refine wpAnyG_done (by kernel_rfl) ?_ _
              have HB9 : Hid (Below w5.heap.size w5 wi.drew) := Lib.hid HT9.out.drew
              clear hS HCL
              go_simp
              go_wp2_with fail
              go_roundw
              case rel => exact ⟨p + 1, by omega, by go_num, by first | (rw [HTP.out]; done) | (rw [HTP.out]; simp [hxn]), HB9⟩
              case measure => simp [intOf]; omega
            · have hxn : ¬ (x : Int) = (i : Int) := by omega
              by_cases hnn : nm ss x = nm ss i
              · have hl1 : (ByteArray.toList (nm ss x) == ByteArray.toList (nm ss i)) = true := by rw [beq_iff_eq, hnn]
                by_cases hne : nm ss i = none_
                · have HTP : Hid ((t0 || (rk.take (p + 1)).any (tw1 ss i)) = false) := Lib.hid (by rw [HTP1.out]; unfold tw1; rw [decide_eq_false (p := nm ss i ≠ none_) (fun h => h hne), Bool.and_false])
                  have hie : (ByteArray.toList (nm ss i)).isEmpty = true := by rw [hne]; exact none_isEmpty
                  clear hxi hnn hne HTP1
                  generalize nm ss x = sx at *
                  generalize nm ss i = si at *
                  go_wp2_with fail
                  have hS : Below wi.heap.size wi wi.drew := (Below.refl _ wi).drew
                  refine wp_region_heldG [] (fun _ W => Below wi.heap.size wi W) (by kernel_rfl) ?_
                  change wpAnyG _ _ _ _ _ _ 28 _ _ wi.drew
                  refine g_take (i := 0) rfl rfl (by kernel_rfl) (by kernel_rfl) (by kernel_rfl) (by kernel_rfl) (by kernel_rfl) (fun _ _ _ h => h) hS (fun L' W hL hW => by go_simp; rfl) ?_
                  refine g_take (i := 1) rfl rfl (by kernel_rfl) (by kernel_rfl) (by kernel_rfl) (by kernel_rfl) (by kernel_rfl) (fun _ _ _ h => h) hS (fun L' W hL hW => by go_simp; rfl) ?_
                  refine g_takeG (i := 2) rfl (by simp only [Region.wanted, yielded]; go_simp) (by kernel_rfl) (by kernel_rfl) (by kernel_rfl) (by kernel_rfl) (by kernel_rfl) (fun _ _ _ h => h) hS (fun L' W hL hW => by go_simp; rfl) ?_
                  refine g_takeG (i := 3) rfl (by simp only [Region.wanted, yielded]; go_simp) (by kernel_rfl) (by kernel_rfl) (by kernel_rfl) (by kernel_rfl) (by kernel_rfl) (fun _ _ _ h => h) hS (fun L' W hL hW => by go_simp; rfl) ?_
                  refine g_takeG (i := 4) rfl (by simp only [Region.wanted, yielded]; go_simp) (by kernel_rfl) (by kernel_rfl) (by kernel_rfl) (by kernel_rfl) (by kernel_rfl) (fun _ _ _ h => h) hS (fun L' W hL hW => by go_simp; rfl) ?_
                  refine g_takeG (i := 5) rfl (by simp only [Region.wanted, yielded]; go_simp) (by kernel_rfl) (by kernel_rfl) (by kernel_rfl) (by kernel_rfl) (by kernel_rfl) (fun _ _ _ h => h) hS (fun L' W hL hW => by go_simp; rfl) ?_
                  refine g_takeG (i := 6) rfl (by simp only [Region.wanted, yielded]; go_simp) (by kernel_rfl) (by kernel_rfl) (by kernel_rfl) (by kernel_rfl) (by kernel_rfl) (fun _ _ _ h => h) hS (fun L' W hL hW => by go_simp; rfl) ?_
                  refine g_takeG (i := 7) rfl (by simp only [Region.wanted, yielded]; go_simp) (by kernel_rfl) (by kernel_rfl) (by kernel_rfl) (by kernel_rfl) (by kernel_rfl) (fun _ _ _ h => h) hS (fun L' W hL hW => by go_simp; rfl) ?_
                  refine g_takeG (i := 8) rfl (by simp only [Region.wanted, yielded]; go_simp) (by kernel_rfl) (by kernel_rfl) (by kernel_rfl) (by kernel_rfl) (by kernel_rfl) (fun _ _ _ h => h) hS (fun L' W hL hW => by go_simp; rfl) ?_
                  refine g_takeG (i := 9) rfl (by simp only [Region.wanted, yielded]; go_simp) (by kernel_rfl) (by kernel_rfl) (by kernel_rfl) (by kernel_rfl) (by kernel_rfl) (fun _ _ _ h => h) hS (fun L' W hL hW => by go_simp; rfl) ?_
                  refine g_takeG (i := 10) rfl (by simp only [Region.wanted, yielded]; go_simp) (by kernel_rfl) (by kernel_rfl) (by kernel_rfl) (by kernel_rfl) (by kernel_rfl) (fun _ _ _ h => h) hS (fun L' W hL hW => by obtain ⟨k1, k2⟩ := HCL.out _ hW; go_simp; rfl) ?_
                  refine g_takeG (i := 11) rfl (by simp only [Region.wanted, yielded]; go_simp) (by kernel_rfl) (by kernel_rfl) (by kernel_rfl) (by kernel_rfl) (by kernel_rfl) (fun _ _ _ h => h) hS (fun L' W hL hW => by go_simp; rfl) ?_
                  refine g_takeG (i := 12) rfl (by simp only [Region.wanted, yielded]; go_simp) (by kernel_rfl) (by kernel_rfl) (by kernel_rfl) (by kernel_rfl) (by kernel_rfl) (fun _ _ _ h => h) hS (fun L' W hL hW => by go_simp; rfl) ?_
                  refine g_takeG (i := 13) rfl (by simp only [Region.wanted, yielded]; go_simp) (by kernel_rfl) (by kernel_rfl) (by kernel_rfl) (by kernel_rfl) (by kernel_rfl) (fun _ _ _ h => h) hS (fun L' W hL hW => by go_simp; rfl) ?_
                  refine g_takeG (i := 14) rfl (by simp only [Region.wanted, yielded]; go_simp) (by kernel_rfl) (by kernel_rfl) (by kernel_rfl) (by kernel_rfl) (by kernel_rfl) (fun _ _ _ h => h) hS (fun L' W hL hW => by go_simp; rfl) ?_
                  refine g_takeG (i := 15) rfl (by simp only [Region.wanted, yielded]; go_simp) (by kernel_rfl) (by kernel_rfl) (by kernel_rfl) (by kernel_rfl) (by kernel_rfl) (fun _ _ _ h => h) hS (fun L' W hL hW => by obtain ⟨k1, k2⟩ := HCL.out _ hW; go_simp; rfl) ?_
                  refine g_takeG (i := 16) rfl (by simp only [Region.wanted, yielded]; go_simp) (by kernel_rfl) (by kernel_rfl) (by kernel_rfl) (by kernel_rfl) (by kernel_rfl) (fun _ _ _ h => h) hS (fun L' W hL hW => by go_simp; rfl) ?_
                  refine g_takeG (i := 17) rfl (by simp only [Region.wanted, yielded]; go_simp) (by kernel_rfl) (by kernel_rfl) (by kernel_rfl) (by kernel_rfl) (by kernel_rfl) (fun _ _ _ h => h) hS (fun L' W hL hW => by go_simp; rfl) ?_
                  refine g_takeG (i := 18) rfl (by simp only [Region.wanted, yielded]; go_simp) (by kernel_rfl) (by kernel_rfl) (by kernel_rfl) (by kernel_rfl) (by kernel_rfl) (fun _ _ _ h => h) hS (fun L' W hL hW => by go_simp; rfl) ?_
                  refine g_takeG (i := 19) rfl (by simp only [Region.wanted, yielded]; go_simp) (by kernel_rfl) (by kernel_rfl) (by kernel_rfl) (by kernel_rfl) (by kernel_rfl) (fun _ _ _ h => h) hS (fun L' W hL hW => by go_simp; rfl) ?_
                  refine g_takeG (i := 20) rfl (by simp only [Region.wanted, yielded]; go_simp) (by kernel_rfl) (by kernel_rfl) (by kernel_rfl) (by kernel_rfl) (by kernel_rfl) (fun _ _ _ h => h) hS (fun L' W hL hW => by go_simp; rfl) ?_
                  refine g_takeG (i := 21) rfl (by simp only [Region.wanted, yielded]; go_simp) (by kernel_rfl) (by kernel_rfl) (by kernel_rfl) (by kernel_rfl) (by kernel_rfl) (fun _ _ _ h => h) hS (fun L' W hL hW => by go_simp; rfl) ?_
                  refine g_takeG (i := 22) rfl (by simp only [Region.wanted, yielded]; go_simp) (by kernel_rfl) (by kernel_rfl) (by kernel_rfl) (by kernel_rfl) (by kernel_rfl) (fun _ _ _ h => h) hS (fun L' W hL hW => by go_simp; rfl) ?_
                  refine g_takeG (i := 23) rfl (by simp only [Region.wanted, yielded]; go_simp) (by kernel_rfl) (by kernel_rfl) (by kernel_rfl) (by kernel_rfl) (by kernel_rfl) (fun _ _ _ h => h) hS (fun L' W hL hW => by obtain ⟨k1, k2⟩ := HCL.out _ hW; go_simp; rfl) ?_
                  refine g_takeG (i := 24) rfl (by simp only [Region.wanted, yielded]; go_simp) (by kernel_rfl) (by kernel_rfl) (by kernel_rfl) (by kernel_rfl) (by kernel_rfl) (fun _ _ _ h => h) hS (fun L' W hL hW => by go_simp; rfl) ?_
                  refine g_takeG (i := 25) rfl (by simp only [Region.wanted, yielded]; go_simp) (by kernel_rfl) (by kernel_rfl) (by kernel_rfl) (by kernel_rfl) (by kernel_rfl) (fun _ _ _ h => h) hS (fun L' W hL hW => by go_simp; rfl) ?_
                  refine g_take (i := 26) rfl rfl (by kernel_rfl) (by kernel_rfl) (by kernel_rfl) (by kernel_rfl) (by kernel_rfl) (fun _ _ _ h => h) hS (fun L' W hL hW => by go_simp; rfl) ?_
                  refine g_take (i := 27) rfl rfl (by kernel_rfl) (by kernel_rfl) (by kernel_rfl) (by kernel_rfl) (by kernel_rfl) (fun _ _ _ h => h) hS (fun L' W hL hW => by go_simp; rfl) ?_
                  refine wpAnyG_done (by kernel_rfl) ?_ _
                  have HB9 : Hid (Below w5.heap.size w5 wi.drew) := Lib.hid HT9.out.drew
                  clear hS HCL
                  go_simp
                  go_wp2_with fail
                  go_roundw
                  case rel => exact ⟨p + 1, by omega, by go_num, by first | (rw [HTP.out]; done) | (rw [HTP.out]; simp [hxn]), HB9⟩
                  case measure => simp [intOf]; omega
                · have HTP : Hid ((t0 || (rk.take (p + 1)).any (tw1 ss i)) = true) := Lib.hid (by rw [HTP1.out]; unfold tw1; rw [decide_eq_true hxi, decide_eq_true hnn, decide_eq_true hne]; rfl)
                  have hie := (isEmpty_iff (nm ss i)).2 hne
                  clear hxi hnn hne HTP1
                  generalize nm ss x = sx at *
                  generalize nm ss i = si at *
                  go_wp2_with fail
                  have hS : Below wi.heap.size wi wi.drew := (Below.refl _ wi).drew
                  refine wp_region_heldG [] (fun _ W => Below wi.heap.size wi W) (by kernel_rfl) ?_
                  change wpAnyG _ _ _ _ _ _ 28 _ _ wi.drew
                  refine g_take (i := 0) rfl rfl (by kernel_rfl) (by kernel_rfl) (by kernel_rfl) (by kernel_rfl) (by kernel_rfl) (fun _ _ _ h => h) hS (fun L' W hL hW => by go_simp; rfl) ?_
                  refine g_take (i := 1) rfl rfl (by kernel_rfl) (by kernel_rfl) (by kernel_rfl) (by kernel_rfl) (by kernel_rfl) (fun _ _ _ h => h) hS (fun L' W hL hW => by go_simp; rfl) ?_
                  refine g_takeG (i := 2) rfl (by simp only [Region.wanted, yielded]; go_simp) (by kernel_rfl) (by kernel_rfl) (by kernel_rfl) (by kernel_rfl) (by kernel_rfl) (fun _ _ _ h => h) hS (fun L' W hL hW => by go_simp; rfl) ?_
                  refine g_takeG (i := 3) rfl (by simp only [Region.wanted, yielded]; go_simp) (by kernel_rfl) (by kernel_rfl) (by kernel_rfl) (by kernel_rfl) (by kernel_rfl) (fun _ _ _ h => h) hS (fun L' W hL hW => by go_simp; rfl) ?_
                  refine g_takeG (i := 4) rfl (by simp only [Region.wanted, yielded]; go_simp) (by kernel_rfl) (by kernel_rfl) (by kernel_rfl) (by kernel_rfl) (by kernel_rfl) (fun _ _ _ h => h) hS (fun L' W hL hW => by go_simp; rfl) ?_
                  refine g_takeG (i := 5) rfl (by simp only [Region.wanted, yielded]; go_simp) (by kernel_rfl) (by kernel_rfl) (by kernel_rfl) (by kernel_rfl) (by kernel_rfl) (fun _ _ _ h => h) hS (fun L' W hL hW => by go_simp; rfl) ?_
                  refine g_takeG (i := 6) rfl (by simp only [Region.wanted, yielded]; go_simp) (by kernel_rfl) (by kernel_rfl) (by kernel_rfl) (by kernel_rfl) (by kernel_rfl) (fun _ _ _ h => h) hS (fun L' W hL hW => by go_simp; rfl) ?_
                  refine g_takeG (i := 7) rfl (by simp only [Region.wanted, yielded]; go_simp) (by kernel_rfl) (by kernel_rfl) (by kernel_rfl) (by kernel_rfl) (by kernel_rfl) (fun _ _ _ h => h) hS (fun L' W hL hW => by go_simp; rfl) ?_
                  refine g_takeG (i := 8) rfl (by simp only [Region.wanted, yielded]; go_simp) (by kernel_rfl) (by kernel_rfl) (by kernel_rfl) (by kernel_rfl) (by kernel_rfl) (fun _ _ _ h => h) hS (fun L' W hL hW => by go_simp; rfl) ?_
                  refine g_takeG (i := 9) rfl (by simp only [Region.wanted, yielded]; go_simp) (by kernel_rfl) (by kernel_rfl) (by kernel_rfl) (by kernel_rfl) (by kernel_rfl) (fun _ _ _ h => h) hS (fun L' W hL hW => by go_simp; rfl) ?_
                  refine g_takeG (i := 10) rfl (by simp only [Region.wanted, yielded]; go_simp) (by kernel_rfl) (by kernel_rfl) (by kernel_rfl) (by kernel_rfl) (by kernel_rfl) (fun _ _ _ h => h) hS (fun L' W hL hW => by obtain ⟨k1, k2⟩ := HCL.out _ hW; go_simp; rfl) ?_
                  refine g_takeG (i := 11) rfl (by simp only [Region.wanted, yielded]; go_simp) (by kernel_rfl) (by kernel_rfl) (by kernel_rfl) (by kernel_rfl) (by kernel_rfl) (fun _ _ _ h => h) hS (fun L' W hL hW => by go_simp; rfl) ?_
                  refine g_takeG (i := 12) rfl (by simp only [Region.wanted, yielded]; go_simp) (by kernel_rfl) (by kernel_rfl) (by kernel_rfl) (by kernel_rfl) (by kernel_rfl) (fun _ _ _ h => h) hS (fun L' W hL hW => by go_simp; rfl) ?_
                  refine g_takeG (i := 13) rfl (by simp only [Region.wanted, yielded]; go_simp) (by kernel_rfl) (by kernel_rfl) (by kernel_rfl) (by kernel_rfl) (by kernel_rfl) (fun _ _ _ h => h) hS (fun L' W hL hW => by go_simp; rfl) ?_
                  refine g_takeG (i := 14) rfl (by simp only [Region.wanted, yielded]; go_simp) (by kernel_rfl) (by kernel_rfl) (by kernel_rfl) (by kernel_rfl) (by kernel_rfl) (fun _ _ _ h => h) hS (fun L' W hL hW => by go_simp; rfl) ?_
                  refine g_takeG (i := 15) rfl (by simp only [Region.wanted, yielded]; go_simp) (by kernel_rfl) (by kernel_rfl) (by kernel_rfl) (by kernel_rfl) (by kernel_rfl) (fun _ _ _ h => h) hS (fun L' W hL hW => by obtain ⟨k1, k2⟩ := HCL.out _ hW; go_simp; rfl) ?_
                  refine g_takeG (i := 16) rfl (by simp only [Region.wanted, yielded]; go_simp) (by kernel_rfl) (by kernel_rfl) (by kernel_rfl) (by kernel_rfl) (by kernel_rfl) (fun _ _ _ h => h) hS (fun L' W hL hW => by go_simp; rfl) ?_
                  refine g_takeG (i := 17) rfl (by simp only [Region.wanted, yielded]; go_simp) (by kernel_rfl) (by kernel_rfl) (by kernel_rfl) (by kernel_rfl) (by kernel_rfl) (fun _ _ _ h => h) hS (fun L' W hL hW => by go_simp; rfl) ?_
                  refine g_takeG (i := 18) rfl (by simp only [Region.wanted, yielded]; go_simp) (by kernel_rfl) (by kernel_rfl) (by kernel_rfl) (by kernel_rfl) (by kernel_rfl) (fun _ _ _ h => h) hS (fun L' W hL hW => by go_simp; rfl) ?_
                  refine g_takeG (i := 19) rfl (by simp only [Region.wanted, yielded]; go_simp) (by kernel_rfl) (by kernel_rfl) (by kernel_rfl) (by kernel_rfl) (by kernel_rfl) (fun _ _ _ h => h) hS (fun L' W hL hW => by go_simp; rfl) ?_
                  refine g_takeG (i := 20) rfl (by simp only [Region.wanted, yielded]; go_simp) (by kernel_rfl) (by kernel_rfl) (by kernel_rfl) (by kernel_rfl) (by kernel_rfl) (fun _ _ _ h => h) hS (fun L' W hL hW => by go_simp; rfl) ?_
                  refine g_takeG (i := 21) rfl (by simp only [Region.wanted, yielded]; go_simp) (by kernel_rfl) (by kernel_rfl) (by kernel_rfl) (by kernel_rfl) (by kernel_rfl) (fun _ _ _ h => h) hS (fun L' W hL hW => by go_simp; rfl) ?_
                  refine g_takeG (i := 22) rfl (by simp only [Region.wanted, yielded]; go_simp) (by kernel_rfl) (by kernel_rfl) (by kernel_rfl) (by kernel_rfl) (by kernel_rfl) (fun _ _ _ h => h) hS (fun L' W hL hW => by go_simp; rfl) ?_
                  refine g_takeG (i := 23) rfl (by simp only [Region.wanted, yielded]; go_simp) (by kernel_rfl) (by kernel_rfl) (by kernel_rfl) (by kernel_rfl) (by kernel_rfl) (fun _ _ _ h => h) hS (fun L' W hL hW => by obtain ⟨k1, k2⟩ := HCL.out _ hW; go_simp; rfl) ?_
                  refine g_takeG (i := 24) rfl (by simp only [Region.wanted, yielded]; go_simp) (by kernel_rfl) (by kernel_rfl) (by kernel_rfl) (by kernel_rfl) (by kernel_rfl) (fun _ _ _ h => h) hS (fun L' W hL hW => by go_simp; rfl) ?_
                  refine g_takeG (i := 25) rfl (by simp only [Region.wanted, yielded]; go_simp) (by kernel_rfl) (by kernel_rfl) (by kernel_rfl) (by kernel_rfl) (by kernel_rfl) (fun _ _ _ h => h) hS (fun L' W hL hW => by go_simp; rfl) ?_
                  refine g_take (i := 26) rfl rfl (by kernel_rfl) (by kernel_rfl) (by kernel_rfl) (by kernel_rfl) (by kernel_rfl) (fun _ _ _ h => h) hS (fun L' W hL hW => by go_simp; rfl) ?_
                  refine g_take (i := 27) rfl rfl (by kernel_rfl) (by kernel_rfl) (by kernel_rfl) (by kernel_rfl) (by kernel_rfl) (fun _ _ _ h => h) hS (fun L' W hL hW => by go_simp; rfl) ?_
                  refine wpAnyG_done (by kernel_rfl) ?_ _
                  have HB9 : Hid (Below w5.heap.size w5 wi.drew) := Lib.hid HT9.out.drew
                  clear hS HCL
                  go_simp
                  go_wp2_with fail
                  go_roundw
                  case rel => exact ⟨p + 1, by omega, by go_num, by first | (rw [HTP.out]; done) | (rw [HTP.out]; simp [hxn]), HB9⟩
                  case measure => simp [intOf]; omega
              · have HTP : Hid ((t0 || (rk.take (p + 1)).any (tw1 ss i)) = false) := Lib.hid (by rw [HTP1.out]; unfold tw1; rw [decide_eq_false hnn, Bool.and_false, Bool.false_and])
                have hl1 : (ByteArray.toList (nm ss x) == ByteArray.toList (nm ss i)) = false := by
                  rw [beq_eq_false_iff_ne]
                  intro e
                  rw [Lib.toList_data, Lib.toList_data] at e
                  exact hnn (by rw [str_eq.1 e])
                clear hxi hnn HTP1
                generalize nm ss x = sx at *
                generalize nm ss i = si at *
                go_wp2_with fail
                have hS : Below wi.heap.size wi wi.drew := (Below.refl _ wi).drew
                refine wp_region_heldG [] (fun _ W => Below wi.heap.size wi W) (by kernel_rfl) ?_
                change wpAnyG _ _ _ _ _ _ 28 _ _ wi.drew
                refine g_take (i := 0) rfl rfl (by kernel_rfl) (by kernel_rfl) (by kernel_rfl) (by kernel_rfl) (by kernel_rfl) (fun _ _ _ h => h) hS (fun L' W hL hW => by go_simp; rfl) ?_
                refine g_take (i := 1) rfl rfl (by kernel_rfl) (by kernel_rfl) (by kernel_rfl) (by kernel_rfl) (by kernel_rfl) (fun _ _ _ h => h) hS (fun L' W hL hW => by go_simp; rfl) ?_
                refine g_takeG (i := 2) rfl (by simp only [Region.wanted, yielded]; go_simp) (by kernel_rfl) (by kernel_rfl) (by kernel_rfl) (by kernel_rfl) (by kernel_rfl) (fun _ _ _ h => h) hS (fun L' W hL hW => by go_simp; rfl) ?_
                refine g_takeG (i := 3) rfl (by simp only [Region.wanted, yielded]; go_simp) (by kernel_rfl) (by kernel_rfl) (by kernel_rfl) (by kernel_rfl) (by kernel_rfl) (fun _ _ _ h => h) hS (fun L' W hL hW => by go_simp; rfl) ?_
                refine g_takeG (i := 4) rfl (by simp only [Region.wanted, yielded]; go_simp) (by kernel_rfl) (by kernel_rfl) (by kernel_rfl) (by kernel_rfl) (by kernel_rfl) (fun _ _ _ h => h) hS (fun L' W hL hW => by go_simp; rfl) ?_
                refine g_takeG (i := 5) rfl (by simp only [Region.wanted, yielded]; go_simp) (by kernel_rfl) (by kernel_rfl) (by kernel_rfl) (by kernel_rfl) (by kernel_rfl) (fun _ _ _ h => h) hS (fun L' W hL hW => by go_simp; rfl) ?_
                refine g_takeG (i := 6) rfl (by simp only [Region.wanted, yielded]; go_simp) (by kernel_rfl) (by kernel_rfl) (by kernel_rfl) (by kernel_rfl) (by kernel_rfl) (fun _ _ _ h => h) hS (fun L' W hL hW => by go_simp; rfl) ?_
                refine g_takeG (i := 7) rfl (by simp only [Region.wanted, yielded]; go_simp) (by kernel_rfl) (by kernel_rfl) (by kernel_rfl) (by kernel_rfl) (by kernel_rfl) (fun _ _ _ h => h) hS (fun L' W hL hW => by go_simp; rfl) ?_
                refine g_takeG (i := 8) rfl (by simp only [Region.wanted, yielded]; go_simp) (by kernel_rfl) (by kernel_rfl) (by kernel_rfl) (by kernel_rfl) (by kernel_rfl) (fun _ _ _ h => h) hS (fun L' W hL hW => by go_simp; rfl) ?_
                refine g_takeG (i := 9) rfl (by simp only [Region.wanted, yielded]; go_simp) (by kernel_rfl) (by kernel_rfl) (by kernel_rfl) (by kernel_rfl) (by kernel_rfl) (fun _ _ _ h => h) hS (fun L' W hL hW => by go_simp; rfl) ?_
                refine g_takeG (i := 10) rfl (by simp only [Region.wanted, yielded]; go_simp) (by kernel_rfl) (by kernel_rfl) (by kernel_rfl) (by kernel_rfl) (by kernel_rfl) (fun _ _ _ h => h) hS (fun L' W hL hW => by obtain ⟨k1, k2⟩ := HCL.out _ hW; go_simp; rfl) ?_
                refine g_takeG (i := 11) rfl (by simp only [Region.wanted, yielded]; go_simp) (by kernel_rfl) (by kernel_rfl) (by kernel_rfl) (by kernel_rfl) (by kernel_rfl) (fun _ _ _ h => h) hS (fun L' W hL hW => by go_simp; rfl) ?_
                refine g_takeG (i := 12) rfl (by simp only [Region.wanted, yielded]; go_simp) (by kernel_rfl) (by kernel_rfl) (by kernel_rfl) (by kernel_rfl) (by kernel_rfl) (fun _ _ _ h => h) hS (fun L' W hL hW => by go_simp; rfl) ?_
                refine g_takeG (i := 13) rfl (by simp only [Region.wanted, yielded]; go_simp) (by kernel_rfl) (by kernel_rfl) (by kernel_rfl) (by kernel_rfl) (by kernel_rfl) (fun _ _ _ h => h) hS (fun L' W hL hW => by go_simp; rfl) ?_
                refine g_takeG (i := 14) rfl (by simp only [Region.wanted, yielded]; go_simp) (by kernel_rfl) (by kernel_rfl) (by kernel_rfl) (by kernel_rfl) (by kernel_rfl) (fun _ _ _ h => h) hS (fun L' W hL hW => by go_simp; rfl) ?_
                refine g_takeG (i := 15) rfl (by simp only [Region.wanted, yielded]; go_simp) (by kernel_rfl) (by kernel_rfl) (by kernel_rfl) (by kernel_rfl) (by kernel_rfl) (fun _ _ _ h => h) hS (fun L' W hL hW => by obtain ⟨k1, k2⟩ := HCL.out _ hW; go_simp; rfl) ?_
                refine g_takeG (i := 16) rfl (by simp only [Region.wanted, yielded]; go_simp) (by kernel_rfl) (by kernel_rfl) (by kernel_rfl) (by kernel_rfl) (by kernel_rfl) (fun _ _ _ h => h) hS (fun L' W hL hW => by go_simp; rfl) ?_
                refine g_takeG (i := 17) rfl (by simp only [Region.wanted, yielded]; go_simp) (by kernel_rfl) (by kernel_rfl) (by kernel_rfl) (by kernel_rfl) (by kernel_rfl) (fun _ _ _ h => h) hS (fun L' W hL hW => by go_simp; rfl) ?_
                refine g_takeG (i := 18) rfl (by simp only [Region.wanted, yielded]; go_simp) (by kernel_rfl) (by kernel_rfl) (by kernel_rfl) (by kernel_rfl) (by kernel_rfl) (fun _ _ _ h => h) hS (fun L' W hL hW => by go_simp; rfl) ?_
                refine g_skip (i := 19) rfl (by simp only [Region.wanted, yielded]; first | (go_simp; done) | (go_simp; simp [undef]; done) | (go_simp; unfold undef; decide)) (by kernel_rfl) (by kernel_rfl) (by kernel_rfl) (by kernel_rfl) (by kernel_rfl) (fun _ _ _ h => h) hS ?_
                refine g_skip (i := 20) rfl (by simp only [Region.wanted, yielded]; first | (go_simp; done) | (go_simp; simp [undef]; done) | (go_simp; unfold undef; decide)) (by kernel_rfl) (by kernel_rfl) (by kernel_rfl) (by kernel_rfl) (by kernel_rfl) (fun _ _ _ h => h) hS ?_
                refine g_skip (i := 21) rfl (by simp only [Region.wanted, yielded]; first | (go_simp; done) | (go_simp; simp [undef]; done) | (go_simp; unfold undef; decide)) (by kernel_rfl) (by kernel_rfl) (by kernel_rfl) (by kernel_rfl) (by kernel_rfl) (fun _ _ _ h => h) hS ?_
                refine g_skip (i := 22) rfl (by simp only [Region.wanted, yielded]; first | (go_simp; done) | (go_simp; simp [undef]; done) | (go_simp; unfold undef; decide)) (by kernel_rfl) (by kernel_rfl) (by kernel_rfl) (by kernel_rfl) (by kernel_rfl) (fun _ _ _ h => h) hS ?_
                refine g_skip (i := 23) rfl (by simp only [Region.wanted, yielded]; first | (go_simp; done) | (go_simp; simp [undef]; done) | (go_simp; unfold undef; decide)) (by kernel_rfl) (by kernel_rfl) (by kernel_rfl) (by kernel_rfl) (by kernel_rfl) (fun _ _ _ h => h) hS ?_
                refine g_skip (i := 24) rfl (by simp only [Region.wanted, yielded]; first | (go_simp; done) | (go_simp; simp [undef]; done) | (go_simp; unfold undef; decide)) (by kernel_rfl) (by kernel_rfl) (by kernel_rfl) (by kernel_rfl) (by kernel_rfl) (fun _ _ _ h => h) hS ?_
                refine g_takeG (i := 25) rfl (by simp only [Region.wanted, yielded]; go_simp) (by kernel_rfl) (by kernel_rfl) (by kernel_rfl) (by kernel_rfl) (by kernel_rfl) (fun _ _ _ h => h) hS (fun L' W hL hW => by go_simp; rfl) ?_
                refine g_take (i := 26) rfl rfl (by kernel_rfl) (by kernel_rfl) (by kernel_rfl) (by kernel_rfl) (by kernel_rfl) (fun _ _ _ h => h) hS (fun L' W hL hW => by go_simp; rfl) ?_
                refine g_take (i := 27) rfl rfl (by kernel_rfl) (by kernel_rfl) (by kernel_rfl) (by kernel_rfl) (by kernel_rfl) (fun _ _ _ h => h) hS (fun L' W hL hW => by go_simp; rfl) ?_
                refine wpAnyG_done (by kernel_rfl) ?_ _
                have HB9 : Hid (Below w5.heap.size w5 wi.drew) := Lib.hid HT9.out.drew
                clear hS HCL
                go_simp
                go_wp2_with fail
                go_roundw
                case rel => exact ⟨p + 1, by omega, by go_num, by first | (rw [HTP.out]; done) | (rw [HTP.out]; simp [hxn]), HB9⟩
                case measure => simp [intOf]; omega
        · obtain rfl : p = qk := by omega
          have HTL : Hid ((List.range (i + 1)).any (twI ns ss) = (t0 || (rk.take p).any (tw1 ss i))) := Lib.hid (by rw [HTS.out, List.take_of_length_le (Nat.le_of_eq HQK.out)])
          have HB9 : Hid (Below w1.heap.size w1 wr) := Lib.hid ((HS.out.trans (HB5.out.mono HS.out.size)).trans (HT.out.mono (by have := HS.out.size; have := HB5.out.size; omega)))
          clear HT
          go_wp2_with fail
          go_roundw
          case rel => exact ⟨i + 1, by omega, by go_num, by rw [HTL.out], HB9⟩
          case measure => simp [intOf]; omega
    · obtain rfl : i = m := by omega
      have HBW : Hid (Below w.heap.size w wr) := Lib.hid (HB1.out.trans (HS.out.mono HB1.out.size))
      have HNW : Hid (NNodes wr wr.heap.size A1 ns ss) := Lib.hid (HN1.out.grow HS.out)
      have HFW : Hid (0 < i → ∃ g, A1 = some ⟨g, 0, none⟩ ∧ NF w wr g i c1 ns ss) := Lib.hid (fun h => by
        obtain ⟨g, e, h2⟩ := HNF.out h
        exact ⟨g, e, h2.grow HS.out⟩)
      clear HS
      generalize hwx : wr = wx at *
      clear hwx
      go_wp2_with fail
      refine (twice_any A1 c1 ns ss i HM.out hmc HC1.out (by omega) HG.out wx HNW.out).mono ?_
      rintro e w2 ⟨rfl, B2⟩
      rw [HTW.out]
      have HB2 := Lib.hid (HBW.out.trans (B2.mono HBW.out.size))
      have HN2 := Lib.hid (HNW.out.grow B2)
      have HF2 : Hid (0 < i → ∃ g, A1 = some ⟨g, 0, none⟩ ∧ NF w w2 g i c1 ns ss) := Lib.hid (fun h => by
        obtain ⟨g, e, h2⟩ := HFW.out h
        exact ⟨g, e, h2.grow B2⟩)
      clear B2 HFW HNW HBW HNF HTW HN1
      generalize (List.range i).any (twI ns ss) = tb at *
      have etb : (tb != tb) = false := by simp
      go_wp2_with fail
      clear etb
      go_loopw [62] (fun ix wr => ∃ k : Nat, k ≤ i ∧ ix = .int .i64 k ∧ Hid (Below w.heap.size w wr ∧ (0 < i → ∃ g ss', A1 = some ⟨g, 0, none⟩ ∧ NF w wr g i c1 ns ss' ∧ ∀ j, j < k → nm ss' j = newName j))) (fun ix _ => i - (intOf ix).toNat)
      case atStart => exact ⟨0, Nat.zero_le _, rfl, Lib.hid ⟨HB2.out, fun h => by
        obtain ⟨g, e, h2⟩ := HF2.out h
        exact ⟨g, ss, e, h2, fun j hj => absurd hj (Nat.not_lt_zero _)⟩⟩⟩
      case round =>
        obtain ⟨k, hk, rfl, HS⟩ := hrel
        by_cases hlk : k < i
        · obtain ⟨g, ss', hA, hNF', hnn⟩ := HS.out.2 (by omega)
          subst hA
          have HNF' := Lib.hid hNF'
          have HNN' := Lib.hid hnn
          have HBS := Lib.hid HS.out.1
          have i5 : (0 : Int) ≤ (k : Int) := by omega
          have i6 : (k : Int) < (i : Int) := by omega
          clear hNF' hnn HS HF2 HB2 HN2
          generalize hwy : wr = wy at *
          clear hwy
          go_wp2_with fail
          refine (rep_any k (by omega) wy).mono ?_
          rintro e w4 ⟨rfl, B4⟩
          have HNF4 := Lib.hid (HNF'.out.grow B4)
          have HB4 := Lib.hid (HBS.out.trans (B4.mono HBS.out.size))
          obtain ⟨c3, c4⟩ := HNF4.out.cell hlk
          clear B4
          go_wp2_with fail
          go_roundw
          case rel => exact ⟨k + 1, by omega, by go_num, Lib.hid ⟨HB4.out.setCell (p := ⟨g, k * 16 + 1, none⟩) HNF4.out.low _, fun _ => ⟨g, ss'.set k (newName k), rfl, by rw [cat_new]; exact HNF4.out.set_ hlk (newName k), fun j hj => by
            by_cases hjk : k = j
            · subst hjk
              rw [nm_set_eq _ (by rw [HNF4.out.names, ← HM.out]; exact hlk)]
            · rw [nm_set_ne _ hjk]
              exact HNN'.out j (by omega)⟩⟩⟩
          case measure => simp [intOf]; omega
        · obtain rfl : k = i := by omega
          have HAN : Hid (∃ ss' : List Str, NNodes wr wr.heap.size A1 ns ss' ∧ Anew ns ss') := Lib.hid (by
            rcases Nat.eq_zero_or_pos k with h0 | h0
            · have hns : ns = [] := List.eq_nil_of_length_eq_zero (by have := HM.out; omega)
              exact ⟨[], by rw [hns]; exact NNodes.nil, fun j hj => by rw [hns] at hj; exact absurd hj (Nat.not_lt_zero _)⟩
            · obtain ⟨g, ss', e, h2, h3⟩ := HS.out.2 h0
              exact ⟨ss', by rw [e]; exact h2.nodes, fun j hj => h3 j (by rw [HM.out]; exact hj)⟩)
          obtain ⟨ss', hA1, hA2⟩ := HAN.out
          have HA1 := Lib.hid hA1
          have HA2 := Lib.hid hA2
          have HBS := Lib.hid HS.out.1
          have HG2 : Hid (∀ j, j < k → KOk (key ns ss' j)) := Lib.hid (fun j hj => by
            obtain ⟨u1, u2, -⟩ := HG.out j hj
            refine ⟨u1, u2, ?_⟩
            show (nm ss' j).size ≤ maxLen
            rw [hA2 j (by rw [← HM.out]; exact hj), newName_size]
            unfold maxLen
            omega)
          clear hA1 hA2 HAN HS HF2 HB2 HN2
          generalize hwy : wr = wy at *
          clear hwy
          go_wp2_with fail
          go_loopw [75] (fun ix wr => ∃ q : Nat, q ≤ k ∧ ix = .int .i64 q ∧ Hid (Below wy.heap.size wy wr)) (fun ix _ => k - (intOf ix).toNat)
          case atStart => exact ⟨0, Nat.zero_le _, rfl, Lib.hid (Below.refl _ _)⟩
          case round =>
            obtain ⟨q, hq, rfl, HT⟩ := hrel
            by_cases hlq : q < k
            · have HNZ := Lib.hid (HA1.out.grow HT.out)
              generalize hwz : wr = wz at *
              clear hwz
              have hql : q < ns.length := by have := HM.out; omega
              obtain ⟨bA, oA, hAA, hbA, cA1⟩ := HNZ.out.2 q hql
              subst hAA
              have HCA := Lib.hid cA1
              have HBA := Lib.hid hbA
              have hsz : (nm ss' q).size ≤ maxLen := (HG2.out q hlq).2.2
              have HSZ := Lib.hid hsz
              have HSB : Hid (seenB ns ss' (q : Int) (nm ss' q) (q : Int) = true) := Lib.hid (seenB_new HR.out HA2.out hql List.mem_cons_self)
              have HSK : Hid (∀ x ∈ below ns (q : Int), x < k ∧ seenB ns ss' (x : Int) (nm ss' q) (q : Int) = true) := Lib.hid (fun x hx => by
                obtain ⟨h1, h2⟩ := below_fs hql hx
                exact ⟨by rw [HM.out]; exact h1, seenB_new HR.out HA2.out h1 h2⟩)
              have i5 : (0 : Int) ≤ (q : Int) := by omega
              have i6 : (q : Int) < (k : Int) := by omega
              generalize nm ss' q = sq at *
              clear hsz hbA
              go_wp2_with fail
              refine (lseen_any _ c1 ns ss' k HM.out hmc HC1.out (by omega) HR.out HG2.out (q : Int) sq HSZ.out (q : Int) wz HNZ.out).mono ?_
              rintro e w5 ⟨rfl, B5⟩
              rw [HSB.out]
              have HB5 := Lib.hid B5
              have HN5 := Lib.hid (HNZ.out.grow B5)
              clear B5
              go_wp2_with fail
              refine (below_any _ c1 ns k HM.out hmc (by omega) HR.out (q : Int) w5 HN5.out.1).mono ?_
              rintro e w6 ⟨A6, c6, rfl, B6, O6⟩
              rw [toI_length] at O6 ⊢
              have h6c := own_le O6
              have h6m := own_cap' O6
              unfold maxLen at h6m
              have HR6 := Lib.hid (own_rowW O6)
              have HB6 : Hid (Below wz.heap.size wz w6) := Lib.hid (HB5.out.trans (B6.mono HB5.out.size))
              generalize below ns (q : Int) = rk at *
              generalize hqk : rk.length = qk at *
              have HQK := Lib.hid hqk
              clear hqk O6 B6 cA1
              go_wp2_with fail
              go_loopw [92] (fun ix wi => ∃ p : Nat, p ≤ qk ∧ ix = .int .i64 p ∧ Hid (Below w6.heap.size w6 wi)) (fun ix _ => qk - (intOf ix).toNat)
              case atStart => exact ⟨0, Nat.zero_le _, rfl, Lib.hid (Below.refl _ _)⟩
              case round =>
                obtain ⟨p, hp, rfl, HV⟩ := hrel
                by_cases hlp : p < qk
                · have hpl : p < rk.length := by have := HQK.out; omega
                  obtain ⟨b3, off3, rfl, hb3, p3⟩ := HR6.out p (by simp [iv, toI]; exact hpl)
                  have e3 : (iv (toI rk))[p]'(by simp [iv, toI]; exact hpl) = .int .i64 ((rk[p] : Nat) : Int) := by simp [iv, toI]
                  rw [e3] at p3
                  have q3 := (HV.out.cell (p := ⟨b3, _, none⟩) hb3).trans p3
                  obtain ⟨g1, g2⟩ := HSK.out _ (List.getElem_mem hpl)
                  have HG22 := Lib.hid g2
                  clear e3 p3 g2
                  generalize rk[p] = x at *
                  clear hpl hb3
                  have HBI : Hid (Below wz.heap.size wz wr) := Lib.hid (HB6.out.trans (HV.out.mono HB6.out.size))
                  have q4 := (HBI.out.cell (p := ⟨bA, _, none⟩) HBA.out).trans HCA.out
                  have HNI := Lib.hid (HNZ.out.grow HBI.out)
                  generalize hwi : wr = wi at *
                  clear hwi
                  have j5 : (0 : Int) ≤ (p : Int) := by omega
                  have j6 : (p : Int) < (qk : Int) := by omega
                  go_wp2_with fail
                  refine (lseen_any _ c1 ns ss' k HM.out hmc HC1.out (by omega) HR.out HG2.out (x : Int) sq HSZ.out (q : Int) wi HNI.out).mono ?_
                  rintro e w7 ⟨rfl, B7⟩
                  rw [HG22.out]
                  have HN7 : Hid (Below w6.heap.size w6 w7) := Lib.hid (HV.out.trans (B7.mono HV.out.size))
                  clear B7 HV q3 q4
                  go_wp2_with fail
                  go_roundw
                  case rel => exact ⟨p + 1, by omega, by go_num, HN7⟩
                  case measure => simp [intOf]; omega
                · obtain rfl : p = qk := by omega
                  have HN7 : Hid (Below wy.heap.size wy wr) := Lib.hid (HT.out.trans ((HB6.out.trans (HV.out.mono HB6.out.size)).mono HT.out.size))
                  clear HV
                  go_wp2_with fail
                  go_roundw
                  case rel => exact ⟨q + 1, by omega, by go_num, HN7⟩
                  case measure => simp [intOf]; omega
            · obtain rfl : q = k := by omega
              have HNZ := Lib.hid (HA1.out.grow HT.out)
              have HBZ : Hid (Below w.heap.size w wr) := Lib.hid (HBS.out.trans (HT.out.mono HBS.out.size))
              have HTN : Hid (twiceTo ns ss' q = false) := Lib.hid (by rw [HM.out]; exact twice_new HA2.out)
              clear HT
              generalize hwz : wr = wz at *
              clear hwz
              go_wp2_with fail
              refine (twice_any A1 c1 ns ss' q HM.out hmc HC1.out (by omega) HG2.out wz HNZ.out).mono ?_
              rintro e w8 ⟨rfl, B8⟩
              rw [HTN.out]
              have HB8 : Hid (Below w.heap.size w w8) := Lib.hid (HBZ.out.trans (B8.mono HBZ.out.size))
              clear B8
              go_wp2_with fail
              refine (nawake_any w8).mono ?_
              rintro e w9 ⟨rfl, B9⟩
              have HB9 : Hid (Below w.heap.size w w9) := Lib.hid (HB8.out.trans (B9.mono HB8.out.size))
              clear B9
              go_wp2_with fail
              go_ret
              exact ⟨rfl, HB9.out⟩
end Go.Proofs.Ytifmnoepifgaiaa.NmW
