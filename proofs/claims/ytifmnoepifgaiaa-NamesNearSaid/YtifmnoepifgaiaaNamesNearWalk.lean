/-
  The walk of NamesNear.
-/
import Derived.Test.YtifmnoepifgaiaaNameNearPl
import Derived.Test.YtifmnoepifgaiaaNameArg
namespace Go.Proofs.Ytifmnoepifgaiaa.NmW
set_option linter.unusedVariables false
open Go Go.RowKit Go.Maps Go.Sort Go.Shelf Go.Proofs Go.Proofs.Ytifmnoepifgaiaa Go.Proofs.Ytifmnoepifgaiaa.Wd Go.Proofs.Ytifmnoepifgaiaa.ScW Go.Proofs.Ytifmnoepifgaiaa.Nm Go.Proofs.Ytifmnoepifgaiaa.NmL
open Go.Proofs.Ytifmnoepifgaiaa.Sc (N own flow rightAt right chain place chainI deep over below owned)

set_option maxRecDepth 100000 in
set_option maxHeartbeats 16000000 in
theorem namesnear_any (A : Option Addr) (c : Nat) (l : List Int) (n : Nat) (hn : n = l.length) (hnc : n ≤ c) (hcm : c ≤ maxLen) (a : Nat) (ha : a ≤ 255) (b : Nat) (hb : b ≤ 255) (w : World) (hI : Nums w w.heap.size A l) :
    Calls Try.prog 4 #[.slice A n c, .int .u8 (a : Int), .int .u8 (b : Int)] w fun e w' => e = .returned (.bool true) ∧ Below w.heap.size w w' := by
  have HF := Lib.hid (named_any A c l n hn hnc hcm w hI)
  obtain ⟨i0, hi0, hz0, hz1, hz2⟩ := info_parts infoInt
  clear hI hn hnc hcm
  go_enter Try.func4, Try.ntmps4
  go_wp2_with fail
  refine HF.out.mono ?_
  rintro e w1 ⟨A1, c1, m, ns, ss, rfl, hm, h60, hmn, hmc, hc1, hr, hg, hN1, hB1, -⟩
  have HM := Lib.hid hm
  have HR := Lib.hid hr
  have HG := Lib.hid hg
  have HN1 := Lib.hid hN1
  have HB1 := Lib.hid hB1
  have HC1 := Lib.hid hc1
  unfold maxLen at hc1
  clear HF hm hr hg hN1 hB1
  by_cases hm0 : m = 0
  · subst hm0
    go_wp2_with fail
    refine (nawake_any w1).mono ?_
    rintro e w9 ⟨rfl, B9⟩
    have HB9 : Hid (Below w.heap.size w w9) := Lib.hid (HB1.out.trans (B9.mono HB1.out.size))
    clear B9
    go_wp2_with fail
    go_ret
    exact ⟨rfl, HB9.out⟩
  · have hmi : ((a : Int).tmod (m : Int)) = ((a % m : Nat) : Int) := by
      rw [Int.tmod_eq_emod_of_nonneg (Int.natCast_nonneg _)]; simp
    have hmp : ¬ (m : Int) = 0 := by omega
    have him : a % m < m := Nat.mod_lt _ (by omega)
    generalize hai : a % m = i at *
    clear hai
    have hb5 : ((b : Int).tmod 5) = ((b % 5 : Nat) : Int) := by
      rw [Int.tmod_eq_emod_of_nonneg (Int.natCast_nonneg _)]; simp
    have hb5l : b % 5 < 5 := Nat.mod_lt _ (by decide)
    generalize b % 5 = rr at *
    have HSS := Lib.hid (enc_ok rr hb5l)
    go_wp2_with fail
    have HSS2 := Lib.hid HSS.out
    clear HSS
    generalize Utf8.encode (97 + (rr : Int)) = s at *
    refine (seen_any A1 c1 ns ss m HM.out hmc HC1.out (by omega) HR.out HG.out (i : Int) s HSS2.out.1 w1 HN1.out).mono ?_
    rintro e w2 ⟨rfl, B2⟩
    have HSE : Hid (seenN ns ss (i : Int) s = seenL ns ss (flow ns i) s ((fsN ns i).map (fun k => own ns k))) := Lib.hid (by
      rw [seen_eq (Sc.place_nat (by have := HM.out; omega)), Int.toNat_natCast, (fs_all HR.out i i (Nat.le_refl _) (by have := HM.out; omega)).1])
    have HFS := Lib.hid (fs_all HR.out i i (Nat.le_refl _) (by have := HM.out; omega)).2
    generalize hr0 : seenN ns ss (i : Int) s = r at *
    have HB2 := Lib.hid (HB1.out.trans (B2.mono HB1.out.size))
    have HN2 := Lib.hid (HN1.out.grow B2)
    clear B2 hr0
    have z2 := Blk.new_ w2 3 #[.int .i64 (i : Int)] rfl
    have hBa := (Below.refl w2.heap.size w2).alloc (Nat.le_refl _) (.cells #[.int .i64 (i : Int)] 3)
    have hsz : (w2.alloc (.cells #[.int .i64 (i : Int)] 3)).heap.size = w2.heap.size + 1 := by simp
    have HC := Lib.hid (chain_any A1 c1 ns m HM.out hmc (by omega) HR.out (i : Int) (w2.alloc (.cells #[.int .i64 (i : Int)] 3)) (HN2.out.1.grow hBa))
    go_wp2_with fail
    refine HC.out.mono ?_
    rintro e w3 ⟨A3, c3, rfl, B3, O3⟩
    have hcl : (chainI ns (i : Int)).length ≤ m := by rw [HM.out]; exact chainI_length
    have hce : chainI ns (i : Int) = chain ns i := by
      unfold chainI
      rw [if_pos (Sc.place_nat (by have := HM.out; omega)), Int.toNat_natCast]
    rw [toI_length] at O3 ⊢
    rw [hce] at O3 hcl ⊢
    have z3 := z2.below B3 (by rw [hsz]; exact Nat.lt_succ_self _)
    have O1 : w3.ownsRow w2.heap.size 3 1 (.slice (some ⟨w2.heap.size, 0, none⟩) 1 1) 1 [.int .i64 (i : Int)] := ⟨rfl, .inr ⟨w2.heap.size, 1, _, rfl, Nat.le_refl _, z3, Nat.le_refl _, by decide, rfl, rfl⟩⟩
    have hB3 : Below w2.heap.size w2 w3 := hBa.trans (B3.mono (by rw [hsz]; omega))
    have hb3s := hB3.size
    have HFE : Hid (.int .i64 (i : Int) :: iv (toI (chain ns i)) = iv (toI (fsN ns i)) ∧ 1 + (chain ns i).length = (fsN ns i).length) := Lib.hid ⟨rfl, by unfold fsN; rw [List.length_cons]; omega⟩
    generalize hqq : (chain ns i).length = q at *
    have HB3 := Lib.hid hB3
    clear HC z2 z3 hBa hsz hce B3 hB3
    go_wp2_with (first | (at_builtin; refine wpList_plain rfl fun _ hK => wp_append_own2 _ (.tmp 40) (.tmp 43) 22 rfl w2.heap.size _ 3 i0 _ 1 8 Try.underlying22 hi0 hz0 hz1 hz2 rfl (by omega) _ 1 _ rfl O1 A3 q c3 _ rfl O3 (by intro u hu; simp [iv] at hu; obtain ⟨z, _, rfl⟩ := hu; rfl) (by unfold maxLen; omega) (by omega) (by omega) ?_; intro v4 w4 hO4 hg4 hb4; obtain ⟨A4, c4, rfl⟩ := own_form hO4; generalize 1 + q = q4 at *; refine hK _ _ ?_; clear hK) | fail)
    have hO5 : w4.ownsRow w2.heap.size 3 1 (.slice A4 q4 c4) q4 (iv (toI (fsN ns i))) := by rw [← HFE.out.1]; exact hO4
    have hB24 : Below w2.heap.size w2 w4 := HB3.out.grown hg4 (by omega) (fun j hj => by cases hj; exact Nat.le_refl _)
    have HB4 := Lib.hid (HB2.out.trans (hB24.mono HB2.out.size))
    have HN4 := Lib.hid (HN2.out.grow hB24)
    have HROW := Lib.hid (own_rowW hO5)
    have h4c := own_le hO5
    have h4m := own_cap' hO5
    unfold maxLen at h4m
    have HQ4 := Lib.hid HFE.out.2
    have hq4m : q4 ≤ 61 := by
      have hf : (fsN ns i).length = (chain ns i).length + 1 := rfl
      have := HQ4.out
      omega
    clear hO4 hO5 hB24 hg4 hb4 O1 O3 HFE hqq hcl hb3s
    have HHEAD : Hid True := Lib.hid trivial
    go_wp2_with fail
    go_loopw [46] (fun ix wr => ∃ j : Nat, j ≤ q4 ∧ ix = .int .i64 j ∧ Hid (Below w4.heap.size w4 wr ∧ seenL ns ss (flow ns i) s (((fsN ns i).map (fun k => own ns k)).take j) = none)) (fun ix _ => q4 - (intOf ix).toNat)
    case atStart => exact ⟨0, Nat.zero_le _, rfl, Lib.hid ⟨Below.refl _ _, rfl⟩⟩
    case round =>
      obtain ⟨j, hj, rfl, HS⟩ := hrel
      by_cases hlt : j < q4
      · have hjl : j < (fsN ns i).length := by have := HQ4.out; omega
        obtain ⟨b2, off2, rfl, hb2, p2⟩ := HROW.out j (by simp [iv, toI]; exact hjl)
        have e2 : (iv (toI (fsN ns i)))[j]'(by simp [iv, toI]; exact hjl) = .int .i64 (((fsN ns i)[j] : Nat) : Int) := by simp [iv, toI]
        rw [e2] at p2
        have q2 := (HS.out.1.cell (p := ⟨b2, _, none⟩) hb2).trans p2
        obtain ⟨f1, f2, f3⟩ := HFS.out _ (List.getElem_mem hjl)
        have hst := seenL_take (ns := ns) (ss := ss) (f := flow ns i) (s := s) (os := (fsN ns i).map (fun k => own ns k)) (j := j) (by rw [List.length_map]; exact hjl) HS.out.2
        rw [List.getElem_map] at hst
        have HST := Lib.hid hst
        have hsc : scopeN ns (((fsN ns i)[j] : Nat) : Int) = owned ns (flow ns i) (own ns (fsN ns i)[j]) := by
          unfold scopeN
          rw [if_pos (Sc.place_nat f1), Int.toNat_natCast, f2]
        have HSC := Lib.hid hsc
        have HF3 := Lib.hid f3
        clear p2 e2 hb2 hst hsc f3
        generalize (fsN ns i)[j] = k0 at *
        have i1 : (0 : Int) ≤ (j : Int) := by omega
        have i2 : (j : Int) < (q4 : Int) := by omega
        generalize hwx : wr = wx at *
        have HNX : Hid (NNodes wx wx.heap.size A1 ns ss) := Lib.hid (HN4.out.grow HS.out.1)
        have HBX : Hid (Below w.heap.size w wx) := Lib.hid (HB4.out.trans (HS.out.1.mono HB4.out.size))
        clear hwx hjl f1 f2
        go_wp2_with fail
        refine (nscope_any A1 c1 ns ss m HM.out hmc HC1.out (by omega) (k0 : Int) wx HNX.out).mono ?_
        rintro e w5 ⟨A5, c5, rfl, B5, O5⟩
        rw [toI_length] at O5 ⊢
        rw [HSC.out] at O5 ⊢
        have HS5 : Hid (Below w4.heap.size w4 w5) := Lib.hid (HS.out.1.trans (B5.mono HS.out.1.size))
        have HN5 := Lib.hid (HNX.out.grow B5)
        have HB5 := Lib.hid (HBX.out.trans (B5.mono HBX.out.size))
        have h5c := own_le O5
        have h5m := own_cap' O5
        unfold maxLen at h5m
        have HR5 := Lib.hid (own_rowW O5)
        have HRK : Hid (∃ rk, rk = owned ns (flow ns i) (own ns k0)) := Lib.hid ⟨_, rfl⟩
        generalize hrk : owned ns (flow ns i) (own ns k0) = rk at *
        have HRE := Lib.hid hrk
        generalize hqk : rk.length = qk at *
        have HQK := Lib.hid hqk
        have HRL : Hid (∀ x ∈ rk, x < m ∧ flow ns x = flow ns i ∧ own ns x = own ns k0) := Lib.hid (fun x hx => by
          rw [← HRE.out] at hx
          have := mem_owned.1 hx
          exact ⟨by rw [HM.out]; exact this.1, this.2⟩)
        clear hrk hqk O5 B5 HNX q2 HRK
        go_wp2_with fail
        go_loopw [54] (fun ix wi => ∃ p : Nat, p ≤ qk ∧ ix = .int .i64 p ∧ w5 = wi ∧ Hid (∀ x ∈ rk.take p, nm ss x ≠ s)) (fun ix _ => qk - (intOf ix).toNat)
        case atStart => exact ⟨0, Nat.zero_le _, rfl, rfl, Lib.hid (fun x hx => by simp at hx)⟩
        case round =>
          obtain ⟨p, hp, rfl, hwi, HT⟩ := hrel
          subst hwi
          by_cases hlp : p < qk
          · have hpl : p < rk.length := by have := HQK.out; omega
            obtain ⟨b3, off3, rfl, hb3, p3⟩ := HR5.out p (by simp [iv, toI]; exact hpl)
            have e3 : (iv (toI rk))[p]'(by simp [iv, toI]; exact hpl) = .int .i64 ((rk[p] : Nat) : Int) := by simp [iv, toI]
            rw [e3] at p3
            have htk : rk.take (p + 1) = rk.take p ++ [rk[p]] := List.take_succ_eq_append_getElem hpl
            have HTK := Lib.hid htk
            obtain ⟨g1, g2, g3⟩ := HRL.out _ (List.getElem_mem hpl)
            have HLF : Hid (nm ss rk[p] = s → r = some rk[p]) := Lib.hid (fun h => by
              have hpl2 : p < (owned ns (flow ns i) (own ns k0)).length := by rw [HRE.out]; exact hpl
              have := look_first (ns := ns) (ss := ss) (f := flow ns i) (o := own ns k0) (s := s) HSS2.out.2 (p := p) hpl2 (by simp only [HRE.out]; exact h) (fun x hx => HT.out x (by rw [HRE.out] at hx; exact hx))
              rw [HSE.out]
              refine seenL_some (j := j + 1) ?_
              rw [HST.out, this]
              simp only [HRE.out])
            clear e3 htk hb3 
            generalize rk[p] = x at *
            clear hpl
            obtain ⟨bA, oA, hAA, hbA, cA1⟩ := HN5.out.2 x (by have := HM.out; omega)
            obtain ⟨bA2, oA2, hAA2, hbA2, cA3⟩ := HN5.out.1.flow_at (j := x) (by have := HM.out; omega)
            obtain ⟨bA3, oA3, hAA3, hbA3, cA4⟩ := HN5.out.1.own_at (j := x) (by have := HM.out; omega)
            obtain ⟨bA4, oA4, hAA4, hbA4, cA5⟩ := HN5.out.1.flow_at (j := i) (by have := HM.out; omega)
            subst hAA
            have eA2 : bA = bA2 ∧ oA = oA2 := by
              simp only [Option.some.injEq, Addr.mk.injEq, and_true] at hAA2
              exact hAA2
            have eA3 : bA = bA3 ∧ oA = oA3 := by
              simp only [Option.some.injEq, Addr.mk.injEq, and_true] at hAA3
              exact hAA3
            have eA4 : bA = bA4 ∧ oA = oA4 := by
              simp only [Option.some.injEq, Addr.mk.injEq, and_true] at hAA4
              exact hAA4
            obtain ⟨rfl, rfl⟩ := eA2
            obtain ⟨rfl, rfl⟩ := eA3
            obtain ⟨rfl, rfl⟩ := eA4
            have HCA : Hid (bA < w5.heap.size ∧ w5.cell? ⟨bA, oA + x * 16 + 3, none⟩ = some (.int .i64 (flow ns x)) ∧ w5.cell? ⟨bA, oA + x * 16 + 4, none⟩ = some (.int .i64 (own ns x)) ∧ w5.cell? ⟨bA, oA + i * 16 + 3, none⟩ = some (.int .i64 (flow ns i))) := Lib.hid ⟨hbA, cA3, cA4, cA5⟩
            have HG23 := Lib.hid (And.intro g2 g3)
            have i5 : (0 : Int) ≤ (p : Int) := by omega
            have i6 : (p : Int) < (qk : Int) := by omega
            have i7 : (0 : Int) ≤ (x : Int) := by omega
            have i8 : (x : Int) < (m : Int) := by omega
            have i9 : (0 : Int) ≤ (i : Int) := by omega
            have i10 : (i : Int) < (m : Int) := by omega
            clear hAA2 hAA3 hAA4 hbA hbA2 hbA3 hbA4 cA3 cA4 cA5 g2 g3
            by_cases hnx : nm ss x = s
            · have HFO := Lib.hid (HLF.out hnx)
              rw [hnx] at cA1
              clear hnx HLF
              have hrx := HFO.out
              subst hrx
              have HOV : Hid (own ns x ≠ -1 → over ns (own ns x) (i : Int) = true) := Lib.hid (fun h => by
                rw [HG23.out.2] at h ⊢
                rcases HF3.out with h1 | ⟨h1, h2⟩
                · exact absurd h1 h
                · exact over_of (by have := HM.out; omega) h1 h2)
              have HCL : Hid (∀ W, Below w5.heap.size w5 W → W.cell? ⟨bA, oA + x * 16 + 3, none⟩ = some (.int .i64 (flow ns i)) ∧ W.cell? ⟨bA, oA + i * 16 + 3, none⟩ = some (.int .i64 (flow ns i)) ∧ W.cell? ⟨bA, oA + x * 16 + 4, none⟩ = some (.int .i64 (own ns x))) := Lib.hid (fun W hW => ⟨by rw [← HG23.out.1]; exact (hW.cell (p := ⟨bA, _, none⟩) HCA.out.1).trans HCA.out.2.1, (hW.cell (p := ⟨bA, _, none⟩) HCA.out.1).trans HCA.out.2.2.2, (hW.cell (p := ⟨bA, _, none⟩) HCA.out.1).trans HCA.out.2.2.1⟩)
              clear HCA HG23
              generalize own ns x = o at *
              generalize flow ns i = fl at *
              by_cases ho : o = -1
              · have hoo : (o == -1) = true := by rw [beq_iff_eq]; exact ho
                subst ho
                clear hoo HOV
                go_wp2_with fail
                have hS : Below w5.heap.size w5 w5.drew := (Below.refl _ w5).drew
                refine wp_region_heldG [] (fun _ W => Below w5.heap.size w5 W) (by kernel_rfl) ?_
                change wpAnyG _ _ _ _ _ _ 41 _ _ w5.drew
                refine g_take (i := 0) rfl rfl (by kernel_rfl) (by kernel_rfl) (by kernel_rfl) (by kernel_rfl) (by kernel_rfl) (fun _ _ _ h => h) hS (fun L' W hL hW => by go_simp; rfl) ?_
                refine g_take (i := 1) rfl rfl (by kernel_rfl) (by kernel_rfl) (by kernel_rfl) (by kernel_rfl) (by kernel_rfl) (fun _ _ _ h => h) hS (fun L' W hL hW => by go_simp; rfl) ?_
                refine g_takeG (i := 2) rfl (by simp only [Region.wanted, yielded]; go_simp) (by kernel_rfl) (by kernel_rfl) (by kernel_rfl) (by kernel_rfl) (by kernel_rfl) (fun _ _ _ h => h) hS (fun L' W hL hW => by go_simp; rfl) ?_
                refine g_takeG (i := 3) rfl (by simp only [Region.wanted, yielded]; go_simp) (by kernel_rfl) (by kernel_rfl) (by kernel_rfl) (by kernel_rfl) (by kernel_rfl) (fun _ _ _ h => h) hS (fun L' W hL hW => by go_simp; rfl) ?_
                refine g_takeG (i := 4) rfl (by simp only [Region.wanted, yielded]; go_simp) (by kernel_rfl) (by kernel_rfl) (by kernel_rfl) (by kernel_rfl) (by kernel_rfl) (fun _ _ _ h => h) hS (fun L' W hL hW => by go_simp; rfl) ?_
                refine g_take (i := 5) rfl rfl (by kernel_rfl) (by kernel_rfl) (by kernel_rfl) (by kernel_rfl) (by kernel_rfl) (fun _ _ _ h => h) hS (fun L' W hL hW => by go_simp; rfl) ?_
                refine g_take (i := 6) rfl rfl (by kernel_rfl) (by kernel_rfl) (by kernel_rfl) (by kernel_rfl) (by kernel_rfl) (fun _ _ _ h => h) hS (fun L' W hL hW => by go_simp; rfl) ?_
                refine g_takeG (i := 7) rfl (by simp only [Region.wanted, yielded]; go_simp) (by kernel_rfl) (by kernel_rfl) (by kernel_rfl) (by kernel_rfl) (by kernel_rfl) (fun _ _ _ h => h) hS (fun L' W hL hW => by go_simp; rfl) ?_
                refine g_takeG (i := 8) rfl (by simp only [Region.wanted, yielded]; go_simp) (by kernel_rfl) (by kernel_rfl) (by kernel_rfl) (by kernel_rfl) (by kernel_rfl) (fun _ _ _ h => h) hS (fun L' W hL hW => by go_simp; rfl) ?_
                refine g_takeG (i := 9) rfl (by simp only [Region.wanted, yielded]; go_simp) (by kernel_rfl) (by kernel_rfl) (by kernel_rfl) (by kernel_rfl) (by kernel_rfl) (fun _ _ _ h => h) hS (fun L' W hL hW => by go_simp; rfl) ?_
                refine g_takeG (i := 10) rfl (by simp only [Region.wanted, yielded]; go_simp) (by kernel_rfl) (by kernel_rfl) (by kernel_rfl) (by kernel_rfl) (by kernel_rfl) (fun _ _ _ h => h) hS (fun L' W hL hW => by go_simp; rfl) ?_
                refine g_takeG (i := 11) rfl (by simp only [Region.wanted, yielded]; go_simp) (by kernel_rfl) (by kernel_rfl) (by kernel_rfl) (by kernel_rfl) (by kernel_rfl) (fun _ _ _ h => h) hS (fun L' W hL hW => by obtain ⟨k0', k1, k2⟩ := HCL.out _ hW; go_simp; rfl) ?_
                refine g_takeG (i := 12) rfl (by simp only [Region.wanted, yielded]; go_simp) (by kernel_rfl) (by kernel_rfl) (by kernel_rfl) (by kernel_rfl) (by kernel_rfl) (fun _ _ _ h => h) hS (fun L' W hL hW => by go_simp; rfl) ?_
                refine g_takeG (i := 13) rfl (by simp only [Region.wanted, yielded]; go_simp) (by kernel_rfl) (by kernel_rfl) (by kernel_rfl) (by kernel_rfl) (by kernel_rfl) (fun _ _ _ h => h) hS (fun L' W hL hW => by go_simp; rfl) ?_
                refine g_takeG (i := 14) rfl (by simp only [Region.wanted, yielded]; go_simp) (by kernel_rfl) (by kernel_rfl) (by kernel_rfl) (by kernel_rfl) (by kernel_rfl) (fun _ _ _ h => h) hS (fun L' W hL hW => by go_simp; rfl) ?_
                refine g_takeG (i := 15) rfl (by simp only [Region.wanted, yielded]; go_simp) (by kernel_rfl) (by kernel_rfl) (by kernel_rfl) (by kernel_rfl) (by kernel_rfl) (fun _ _ _ h => h) hS (fun L' W hL hW => by go_simp; rfl) ?_
                refine g_takeG (i := 16) rfl (by simp only [Region.wanted, yielded]; go_simp) (by kernel_rfl) (by kernel_rfl) (by kernel_rfl) (by kernel_rfl) (by kernel_rfl) (fun _ _ _ h => h) hS (fun L' W hL hW => by obtain ⟨k0', k1, k2⟩ := HCL.out _ hW; go_simp; rfl) ?_
                refine g_takeG (i := 17) rfl (by simp only [Region.wanted, yielded]; go_simp) (by kernel_rfl) (by kernel_rfl) (by kernel_rfl) (by kernel_rfl) (by kernel_rfl) (fun _ _ _ h => h) hS (fun L' W hL hW => by go_simp; rfl) ?_
                refine g_take (i := 18) rfl rfl (by kernel_rfl) (by kernel_rfl) (by kernel_rfl) (by kernel_rfl) (by kernel_rfl) (fun _ _ _ h => h) hS (fun L' W hL hW => by go_simp; rfl) ?_
                refine g_take (i := 19) rfl rfl (by kernel_rfl) (by kernel_rfl) (by kernel_rfl) (by kernel_rfl) (by kernel_rfl) (fun _ _ _ h => h) hS (fun L' W hL hW => by go_simp; rfl) ?_
                refine g_takeG (i := 20) rfl (by simp only [Region.wanted, yielded]; go_simp) (by kernel_rfl) (by kernel_rfl) (by kernel_rfl) (by kernel_rfl) (by kernel_rfl) (fun _ _ _ h => h) hS (fun L' W hL hW => by go_simp; rfl) ?_
                refine g_takeG (i := 21) rfl (by simp only [Region.wanted, yielded]; go_simp) (by kernel_rfl) (by kernel_rfl) (by kernel_rfl) (by kernel_rfl) (by kernel_rfl) (fun _ _ _ h => h) hS (fun L' W hL hW => by go_simp; rfl) ?_
                refine g_takeG (i := 22) rfl (by simp only [Region.wanted, yielded]; go_simp) (by kernel_rfl) (by kernel_rfl) (by kernel_rfl) (by kernel_rfl) (by kernel_rfl) (fun _ _ _ h => h) hS (fun L' W hL hW => by go_simp; rfl) ?_
                refine g_takeG (i := 23) rfl (by simp only [Region.wanted, yielded]; go_simp) (by kernel_rfl) (by kernel_rfl) (by kernel_rfl) (by kernel_rfl) (by kernel_rfl) (fun _ _ _ h => h) hS (fun L' W hL hW => by go_simp; rfl) ?_
                refine g_takeG (i := 24) rfl (by simp only [Region.wanted, yielded]; go_simp) (by kernel_rfl) (by kernel_rfl) (by kernel_rfl) (by kernel_rfl) (by kernel_rfl) (fun _ _ _ h => h) hS (fun L' W hL hW => by obtain ⟨k0', k1, k2⟩ := HCL.out _ hW; go_simp; rfl) ?_
                refine g_takeG (i := 25) rfl (by simp only [Region.wanted, yielded]; go_simp) (by kernel_rfl) (by kernel_rfl) (by kernel_rfl) (by kernel_rfl) (by kernel_rfl) (fun _ _ _ h => h) hS (fun L' W hL hW => by go_simp; rfl) ?_
                refine g_takeG (i := 26) rfl (by simp only [Region.wanted, yielded]; go_simp) (by kernel_rfl) (by kernel_rfl) (by kernel_rfl) (by kernel_rfl) (by kernel_rfl) (fun _ _ _ h => h) hS (fun L' W hL hW => by go_simp; rfl) ?_
                refine g_skip (i := 27) rfl (by simp only [Region.wanted, yielded]; go_simp) (by kernel_rfl) (by kernel_rfl) (by kernel_rfl) (by kernel_rfl) (by kernel_rfl) (fun _ _ _ h => h) hS ?_
                refine g_skip (i := 28) rfl (by simp only [Region.wanted, yielded]; go_simp) (by kernel_rfl) (by kernel_rfl) (by kernel_rfl) (by kernel_rfl) (by kernel_rfl) (fun _ _ _ h => h) hS ?_
                refine g_skip (i := 29) rfl (by simp only [Region.wanted, yielded]; go_simp) (by kernel_rfl) (by kernel_rfl) (by kernel_rfl) (by kernel_rfl) (by kernel_rfl) (fun _ _ _ h => h) hS ?_
                refine g_skip (i := 30) rfl (by simp only [Region.wanted, yielded]; go_simp) (by kernel_rfl) (by kernel_rfl) (by kernel_rfl) (by kernel_rfl) (by kernel_rfl) (fun _ _ _ h => h) hS ?_
                refine g_skip (i := 31) rfl (by simp only [Region.wanted, yielded]; go_simp) (by kernel_rfl) (by kernel_rfl) (by kernel_rfl) (by kernel_rfl) (by kernel_rfl) (fun _ _ _ h => h) hS ?_
                refine g_skip (i := 32) rfl (by simp only [Region.wanted, yielded]; go_simp) (by kernel_rfl) (by kernel_rfl) (by kernel_rfl) (by kernel_rfl) (by kernel_rfl) (fun _ _ _ h => h) hS ?_
                refine g_skip (i := 33) rfl (by simp only [Region.wanted, yielded]; go_simp) (by kernel_rfl) (by kernel_rfl) (by kernel_rfl) (by kernel_rfl) (by kernel_rfl) (fun _ _ _ h => h) hS ?_
                refine g_skip (i := 34) rfl (by simp only [Region.wanted, yielded]; go_simp) (by kernel_rfl) (by kernel_rfl) (by kernel_rfl) (by kernel_rfl) (by kernel_rfl) (fun _ _ _ h => h) hS ?_
                refine g_takeG (i := 35) rfl (by simp only [Region.wanted, yielded]; go_simp) (by kernel_rfl) (by kernel_rfl) (by kernel_rfl) (by kernel_rfl) (by kernel_rfl) (fun _ _ _ h => h) hS (fun L' W hL hW => by go_simp; rfl) ?_
                refine g_take (i := 36) rfl rfl (by kernel_rfl) (by kernel_rfl) (by kernel_rfl) (by kernel_rfl) (by kernel_rfl) (fun _ _ _ h => h) hS (fun L' W hL hW => by go_simp; rfl) ?_
                refine g_take (i := 37) rfl rfl (by kernel_rfl) (by kernel_rfl) (by kernel_rfl) (by kernel_rfl) (by kernel_rfl) (fun _ _ _ h => h) hS (fun L' W hL hW => by go_simp; rfl) ?_
                refine g_one (i := 38) rfl (by simp only [Region.wanted, yielded]; go_simp) (by kernel_rfl) fun K hK => ?_
                go_simp
                refine (nawake_any w5.drew).mono ?_
                rintro e w7 ⟨rfl, B7⟩
                have hS2 : Below w5.heap.size w5 w7 := hS.trans (B7.mono hS.size)
                clear hS
                have hS := hS2
                clear hS2
                refine hK _ _ hS ?_
                clear hK K B7
                refine g_take (i := 39) rfl rfl (by kernel_rfl) (by kernel_rfl) (by kernel_rfl) (by kernel_rfl) (by kernel_rfl) (fun _ _ _ h => h) hS (fun L' W hL hW => by go_simp; rfl) ?_
                refine g_take (i := 40) rfl rfl (by kernel_rfl) (by kernel_rfl) (by kernel_rfl) (by kernel_rfl) (by kernel_rfl) (fun _ _ _ h => h) hS (fun L' W hL hW => by go_simp; rfl) ?_
                refine wpAnyG_done (by kernel_rfl) ?_ _
                have HB7 : Hid (Below w.heap.size w w7) := Lib.hid (HB5.out.trans (hS.mono HB5.out.size))
                clear hS HCL
                go_simp
                go_wp2_with fail
                try rw [Exit.noGoto_ret]
                go_ret
                exact ⟨rfl, HB7.out⟩
              · have HOV := Lib.hid (HOV.out ho)
                have hoo : (o == -1) = false := by rw [beq_eq_false_iff_ne]; exact ho
                clear ho
                go_wp2_with fail
                have hS : Below w5.heap.size w5 w5.drew := (Below.refl _ w5).drew
                refine wp_region_heldG [] (fun _ W => Below w5.heap.size w5 W) (by kernel_rfl) ?_
                change wpAnyG _ _ _ _ _ _ 41 _ _ w5.drew
                refine g_take (i := 0) rfl rfl (by kernel_rfl) (by kernel_rfl) (by kernel_rfl) (by kernel_rfl) (by kernel_rfl) (fun _ _ _ h => h) hS (fun L' W hL hW => by go_simp; rfl) ?_
                refine g_take (i := 1) rfl rfl (by kernel_rfl) (by kernel_rfl) (by kernel_rfl) (by kernel_rfl) (by kernel_rfl) (fun _ _ _ h => h) hS (fun L' W hL hW => by go_simp; rfl) ?_
                refine g_takeG (i := 2) rfl (by simp only [Region.wanted, yielded]; go_simp) (by kernel_rfl) (by kernel_rfl) (by kernel_rfl) (by kernel_rfl) (by kernel_rfl) (fun _ _ _ h => h) hS (fun L' W hL hW => by go_simp; rfl) ?_
                refine g_takeG (i := 3) rfl (by simp only [Region.wanted, yielded]; go_simp) (by kernel_rfl) (by kernel_rfl) (by kernel_rfl) (by kernel_rfl) (by kernel_rfl) (fun _ _ _ h => h) hS (fun L' W hL hW => by go_simp; rfl) ?_
                refine g_takeG (i := 4) rfl (by simp only [Region.wanted, yielded]; go_simp) (by kernel_rfl) (by kernel_rfl) (by kernel_rfl) (by kernel_rfl) (by kernel_rfl) (fun _ _ _ h => h) hS (fun L' W hL hW => by go_simp; rfl) ?_
                refine g_take (i := 5) rfl rfl (by kernel_rfl) (by kernel_rfl) (by kernel_rfl) (by kernel_rfl) (by kernel_rfl) (fun _ _ _ h => h) hS (fun L' W hL hW => by go_simp; rfl) ?_
                refine g_take (i := 6) rfl rfl (by kernel_rfl) (by kernel_rfl) (by kernel_rfl) (by kernel_rfl) (by kernel_rfl) (fun _ _ _ h => h) hS (fun L' W hL hW => by go_simp; rfl) ?_
                refine g_takeG (i := 7) rfl (by simp only [Region.wanted, yielded]; go_simp) (by kernel_rfl) (by kernel_rfl) (by kernel_rfl) (by kernel_rfl) (by kernel_rfl) (fun _ _ _ h => h) hS (fun L' W hL hW => by go_simp; rfl) ?_
                refine g_takeG (i := 8) rfl (by simp only [Region.wanted, yielded]; go_simp) (by kernel_rfl) (by kernel_rfl) (by kernel_rfl) (by kernel_rfl) (by kernel_rfl) (fun _ _ _ h => h) hS (fun L' W hL hW => by go_simp; rfl) ?_
                refine g_takeG (i := 9) rfl (by simp only [Region.wanted, yielded]; go_simp) (by kernel_rfl) (by kernel_rfl) (by kernel_rfl) (by kernel_rfl) (by kernel_rfl) (fun _ _ _ h => h) hS (fun L' W hL hW => by go_simp; rfl) ?_
                refine g_takeG (i := 10) rfl (by simp only [Region.wanted, yielded]; go_simp) (by kernel_rfl) (by kernel_rfl) (by kernel_rfl) (by kernel_rfl) (by kernel_rfl) (fun _ _ _ h => h) hS (fun L' W hL hW => by go_simp; rfl) ?_
                refine g_takeG (i := 11) rfl (by simp only [Region.wanted, yielded]; go_simp) (by kernel_rfl) (by kernel_rfl) (by kernel_rfl) (by kernel_rfl) (by kernel_rfl) (fun _ _ _ h => h) hS (fun L' W hL hW => by obtain ⟨k0', k1, k2⟩ := HCL.out _ hW; go_simp; rfl) ?_
                refine g_takeG (i := 12) rfl (by simp only [Region.wanted, yielded]; go_simp) (by kernel_rfl) (by kernel_rfl) (by kernel_rfl) (by kernel_rfl) (by kernel_rfl) (fun _ _ _ h => h) hS (fun L' W hL hW => by go_simp; rfl) ?_
                refine g_takeG (i := 13) rfl (by simp only [Region.wanted, yielded]; go_simp) (by kernel_rfl) (by kernel_rfl) (by kernel_rfl) (by kernel_rfl) (by kernel_rfl) (fun _ _ _ h => h) hS (fun L' W hL hW => by go_simp; rfl) ?_
                refine g_takeG (i := 14) rfl (by simp only [Region.wanted, yielded]; go_simp) (by kernel_rfl) (by kernel_rfl) (by kernel_rfl) (by kernel_rfl) (by kernel_rfl) (fun _ _ _ h => h) hS (fun L' W hL hW => by go_simp; rfl) ?_
                refine g_takeG (i := 15) rfl (by simp only [Region.wanted, yielded]; go_simp) (by kernel_rfl) (by kernel_rfl) (by kernel_rfl) (by kernel_rfl) (by kernel_rfl) (fun _ _ _ h => h) hS (fun L' W hL hW => by go_simp; rfl) ?_
                refine g_takeG (i := 16) rfl (by simp only [Region.wanted, yielded]; go_simp) (by kernel_rfl) (by kernel_rfl) (by kernel_rfl) (by kernel_rfl) (by kernel_rfl) (fun _ _ _ h => h) hS (fun L' W hL hW => by obtain ⟨k0', k1, k2⟩ := HCL.out _ hW; go_simp; rfl) ?_
                refine g_takeG (i := 17) rfl (by simp only [Region.wanted, yielded]; go_simp) (by kernel_rfl) (by kernel_rfl) (by kernel_rfl) (by kernel_rfl) (by kernel_rfl) (fun _ _ _ h => h) hS (fun L' W hL hW => by go_simp; rfl) ?_
                refine g_take (i := 18) rfl rfl (by kernel_rfl) (by kernel_rfl) (by kernel_rfl) (by kernel_rfl) (by kernel_rfl) (fun _ _ _ h => h) hS (fun L' W hL hW => by go_simp; rfl) ?_
                refine g_take (i := 19) rfl rfl (by kernel_rfl) (by kernel_rfl) (by kernel_rfl) (by kernel_rfl) (by kernel_rfl) (fun _ _ _ h => h) hS (fun L' W hL hW => by go_simp; rfl) ?_
                refine g_takeG (i := 20) rfl (by simp only [Region.wanted, yielded]; go_simp) (by kernel_rfl) (by kernel_rfl) (by kernel_rfl) (by kernel_rfl) (by kernel_rfl) (fun _ _ _ h => h) hS (fun L' W hL hW => by go_simp; rfl) ?_
                refine g_takeG (i := 21) rfl (by simp only [Region.wanted, yielded]; go_simp) (by kernel_rfl) (by kernel_rfl) (by kernel_rfl) (by kernel_rfl) (by kernel_rfl) (fun _ _ _ h => h) hS (fun L' W hL hW => by go_simp; rfl) ?_
                refine g_takeG (i := 22) rfl (by simp only [Region.wanted, yielded]; go_simp) (by kernel_rfl) (by kernel_rfl) (by kernel_rfl) (by kernel_rfl) (by kernel_rfl) (fun _ _ _ h => h) hS (fun L' W hL hW => by go_simp; rfl) ?_
                refine g_takeG (i := 23) rfl (by simp only [Region.wanted, yielded]; go_simp) (by kernel_rfl) (by kernel_rfl) (by kernel_rfl) (by kernel_rfl) (by kernel_rfl) (fun _ _ _ h => h) hS (fun L' W hL hW => by go_simp; rfl) ?_
                refine g_takeG (i := 24) rfl (by simp only [Region.wanted, yielded]; go_simp) (by kernel_rfl) (by kernel_rfl) (by kernel_rfl) (by kernel_rfl) (by kernel_rfl) (fun _ _ _ h => h) hS (fun L' W hL hW => by obtain ⟨k0', k1, k2⟩ := HCL.out _ hW; go_simp; rfl) ?_
                refine g_takeG (i := 25) rfl (by simp only [Region.wanted, yielded]; go_simp) (by kernel_rfl) (by kernel_rfl) (by kernel_rfl) (by kernel_rfl) (by kernel_rfl) (fun _ _ _ h => h) hS (fun L' W hL hW => by go_simp; rfl) ?_
                refine g_takeG (i := 26) rfl (by simp only [Region.wanted, yielded]; go_simp) (by kernel_rfl) (by kernel_rfl) (by kernel_rfl) (by kernel_rfl) (by kernel_rfl) (fun _ _ _ h => h) hS (fun L' W hL hW => by go_simp; rfl) ?_
                refine g_takeG (i := 27) rfl (by simp only [Region.wanted, yielded]; go_simp) (by kernel_rfl) (by kernel_rfl) (by kernel_rfl) (by kernel_rfl) (by kernel_rfl) (fun _ _ _ h => h) hS (fun L' W hL hW => by go_simp; rfl) ?_
                refine g_takeG (i := 28) rfl (by simp only [Region.wanted, yielded]; go_simp) (by kernel_rfl) (by kernel_rfl) (by kernel_rfl) (by kernel_rfl) (by kernel_rfl) (fun _ _ _ h => h) hS (fun L' W hL hW => by go_simp; rfl) ?_
                refine g_takeG (i := 29) rfl (by simp only [Region.wanted, yielded]; go_simp) (by kernel_rfl) (by kernel_rfl) (by kernel_rfl) (by kernel_rfl) (by kernel_rfl) (fun _ _ _ h => h) hS (fun L' W hL hW => by go_simp; rfl) ?_
                refine g_takeG (i := 30) rfl (by simp only [Region.wanted, yielded]; go_simp) (by kernel_rfl) (by kernel_rfl) (by kernel_rfl) (by kernel_rfl) (by kernel_rfl) (fun _ _ _ h => h) hS (fun L' W hL hW => by go_simp; rfl) ?_
                refine g_takeG (i := 31) rfl (by simp only [Region.wanted, yielded]; go_simp) (by kernel_rfl) (by kernel_rfl) (by kernel_rfl) (by kernel_rfl) (by kernel_rfl) (fun _ _ _ h => h) hS (fun L' W hL hW => by go_simp; rfl) ?_
                refine g_takeG (i := 32) rfl (by simp only [Region.wanted, yielded]; go_simp) (by kernel_rfl) (by kernel_rfl) (by kernel_rfl) (by kernel_rfl) (by kernel_rfl) (fun _ _ _ h => h) hS (fun L' W hL hW => by obtain ⟨k0', k1, k2⟩ := HCL.out _ hW; go_simp; rfl) ?_
                refine g_takeG (i := 33) rfl (by simp only [Region.wanted, yielded]; go_simp) (by kernel_rfl) (by kernel_rfl) (by kernel_rfl) (by kernel_rfl) (by kernel_rfl) (fun _ _ _ h => h) hS (fun L' W hL hW => by go_simp; rfl) ?_
                refine g_one (i := 34) rfl (by simp only [Region.wanted, yielded]; go_simp) (by kernel_rfl) fun K hK => ?_
                go_simp
                refine (over_any _ c1 ns m HM.out hmc (by omega) HR.out o (i : Int) w5.drew (HN5.out.1)).mono ?_
                rintro e w6 ⟨rfl, B6⟩
                rw [HOV.out]
                have hS2 : Below w5.heap.size w5 w6 := hS.trans B6
                clear hS
                have hS := hS2
                clear hS2
                refine hK _ _ hS ?_
                clear hK K B6
                refine g_takeG (i := 35) rfl (by simp only [Region.wanted, yielded]; go_simp) (by kernel_rfl) (by kernel_rfl) (by kernel_rfl) (by kernel_rfl) (by kernel_rfl) (fun _ _ _ h => h) hS (fun L' W hL hW => by go_simp; rfl) ?_
                refine g_take (i := 36) rfl rfl (by kernel_rfl) (by kernel_rfl) (by kernel_rfl) (by kernel_rfl) (by kernel_rfl) (fun _ _ _ h => h) hS (fun L' W hL hW => by go_simp; rfl) ?_
                refine g_take (i := 37) rfl rfl (by kernel_rfl) (by kernel_rfl) (by kernel_rfl) (by kernel_rfl) (by kernel_rfl) (fun _ _ _ h => h) hS (fun L' W hL hW => by go_simp; rfl) ?_
                refine g_one (i := 38) rfl (by simp only [Region.wanted, yielded]; go_simp) (by kernel_rfl) fun K hK => ?_
                go_simp
                refine (nawake_any w6).mono ?_
                rintro e w7 ⟨rfl, B7⟩
                have hS2 : Below w5.heap.size w5 w7 := hS.trans (B7.mono hS.size)
                clear hS
                have hS := hS2
                clear hS2
                refine hK _ _ hS ?_
                clear hK K B7
                refine g_take (i := 39) rfl rfl (by kernel_rfl) (by kernel_rfl) (by kernel_rfl) (by kernel_rfl) (by kernel_rfl) (fun _ _ _ h => h) hS (fun L' W hL hW => by go_simp; rfl) ?_
                refine g_take (i := 40) rfl rfl (by kernel_rfl) (by kernel_rfl) (by kernel_rfl) (by kernel_rfl) (by kernel_rfl) (fun _ _ _ h => h) hS (fun L' W hL hW => by go_simp; rfl) ?_
                refine wpAnyG_done (by kernel_rfl) ?_ _
                have HB7 : Hid (Below w.heap.size w w7) := Lib.hid (HB5.out.trans (hS.mono HB5.out.size))
                clear hS HCL
                go_simp
                go_wp2_with fail
                try rw [Exit.noGoto_ret]
                go_ret
                exact ⟨rfl, HB7.out⟩
            · have HNN : Hid (∀ y ∈ rk.take (p + 1), nm ss y ≠ s) := Lib.hid (fun y hy => by
                rw [HTK.out] at hy
                rcases List.mem_append.1 hy with h | h
                · exact HT.out y h
                · rw [List.mem_singleton.1 h]; exact hnx)
              have hne1 : (ByteArray.toList (nm ss x) == ByteArray.toList s) = false := by
                rw [beq_eq_false_iff_ne]
                intro e
                rw [Lib.toList_data, Lib.toList_data] at e
                exact hnx (by rw [str_eq.1 e])
              clear HT HTK HLF hnx
              generalize nm ss x = sx at *
              go_wp2_with fail
              go_roundw
              case rel => exact ⟨p + 1, by omega, by go_num, trivial, HNN⟩
              case measure => simp [intOf]; omega
          · obtain rfl : p = qk := by omega
            have HNN : Hid (seenL ns ss (flow ns i) s (((fsN ns i).map (fun k => own ns k)).take (j + 1)) = none) := Lib.hid (by
              rw [HST.out]
              refine look_nobody (fun x hx => ?_)
              rw [HRE.out] at hx
              exact HT.out x (by rw [List.take_of_length_le (Nat.le_of_eq HQK.out)]; exact hx))
            clear HT
            go_wp2_with fail
            go_roundw
            case rel => exact ⟨j + 1, by omega, by go_num, Lib.hid ⟨HS5.out, HNN.out⟩⟩
            case measure => simp [intOf]; omega
      · obtain rfl : j = q4 := by omega
        have hr0 : r = none := by
          have := HS.out.2
          rw [List.take_of_length_le (by rw [List.length_map]; exact Nat.le_of_eq HQ4.out.symm)] at this
          rw [HSE.out]
          exact this
        have HBX : Hid (Below w.heap.size w wr) := Lib.hid (HB4.out.trans (HS.out.1.mono HB4.out.size))
        subst hr0
        clear HS
        generalize hwx : wr = wx at *
        clear hwx
        go_wp2_with fail
        refine (nawake_any wx).mono ?_
        rintro e w9 ⟨rfl, B9⟩
        have HB9 : Hid (Below w.heap.size w w9) := Lib.hid (HBX.out.trans (B9.mono HBX.out.size))
        clear B9
        go_wp2_with fail
        go_ret
        exact ⟨rfl, HB9.out⟩
end Go.Proofs.Ytifmnoepifgaiaa.NmW
