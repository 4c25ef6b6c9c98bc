/-
  The document's bundle: Cycle.
-/
import Derived.Test.YtelplccbcbegkaaBundleRef1
import Derived.Test.YtelplccbcbegkaaBundleRef2
namespace Go.Proofs.Ytelplccbcbegkaa.OrW
set_option linter.unusedVariables false
open Go Go.RowKit Go.Proofs Go.Proofs.Ytelplccbcbegkaa Go.Proofs.Ytelplccbcbegkaa.Wd Go.Proofs.Ytelplccbcbegkaa.GrW Go.Proofs.Ytelplccbcbegkaa.Ord
open Go.Proofs.Ytelplccbcbegkaa.Gr (OK putL outs intos Path E edgesTo ev)

/-- How far it is. -/
noncomputable def dst (L : List (List Int)) (tz v : Nat) : Nat := @dite _ (∃ d, Least L tz v d) (Classical.propDecidable _) (fun h => Classical.choose h) (fun _ => 0)
theorem dst_eq {L : List (List Int)} {tz v d : Nat} (h : Least L tz v d) : dst L tz v = d := by
  have he : ∃ d, Least L tz v d := ⟨d, h⟩
  unfold dst
  rw [dif_pos he]
  exact (Classical.choose_spec he).uniq h
theorem went_25 {N : Nat} {L L' : List (List Int)} {P A P' A' : List Nat} {es : List (Int × Int)} {i : Nat} (h : Went N L P A es i 25 L' P' A') : ∃ (hi : i < es.length) (a b : Nat), a < N ∧ b < N ∧ es[i] = ((a : Int), (b : Int)) ∧ Path L' b a := by
  rcases h with ⟨h, -⟩ | ⟨-, hi, -, L2, P2, A2, hp⟩
  · cases h
  · rcases hp with ⟨-, hp, -⟩ | ⟨a, b, ha, hb, e, hp⟩
    · cases hp
    · exact ⟨hi, a, b, ha, hb, e, hp.code.1.1 rfl⟩
/-- Put, as Cycle needs it. -/
theorem rput_c (w : World) (n : Nat) (hn : n ≤ 5000) (L : List (List Int)) (P V : List Nat) (hst : OSt n L P V) (A : Option Addr) (q c : Nat) (Am : Option Addr) (cm : Nat) (hR : RO w n A q c Am cm L V) (hbig : q ≤ 50000) (more : Int) (hm : more ≤ 5000 ∨ 10000 < more) (Ae : Option Addr) (m ce : Nat) (es : List (Int × Int)) (hq : m = es.length) (hqm : m ≤ 50000) (hE : EdgesAt w w.heap.size Ae es) :
    Calls Try.prog 27 #[ov n A q c Am n cm, .int .i64 more, .slice Ae m ce] w fun e w' => ∃ (k i chg n1 q1 c1 cm1 N q' c' cm' : Nat) (A1 Am1 A' Am' : Option Addr) (L' : List (List Int)) (P' V' : List Nat), e = .returned (.tuple #[ov n1 A1 q1 c1 Am1 n1 cm1, .int .i64 (chg : Nat), ov N A' q' c' Am' N cm', .int .i64 (i : Nat), .int .i64 (k : Nat)]) ∧ FitsC n L P V more es k ∧ Below w.heap.size w w' ∧ (k = 25 → canGrow n more = true ∧ N = n + more.toNat ∧ Went N (growL L more.toNat) (gro P n more.toNat) (gro V n more.toNat) es i 25 L' P' V' ∧ RO w' N A' q' c' Am' cm' L' V' ∧ q' ≤ q + es.length) := by
  refine (rput_any w n hn L P V hst A q c Am cm hR hbig more hm Ae m ce es hq hqm hE).mono ?_
  rintro e w' ⟨hB, h⟩
  rcases h with ⟨hk, he⟩ | ⟨hk, N, i, k, L', P', V', A', q', c', Am', cm', hN, hW, hRO, hq', -, -, he⟩
  · refine ⟨2, 0, 0, n, q, c, cm, n, q, c, cm, A, Am, A, Am, L, P, V, he, ?_, hB, fun h => by cases h⟩
    unfold FitsC
    rw [if_neg (by rw [hk]; simp)]
  · have hF : FitsC n L P V more es k := by
      unfold FitsC
      rw [if_pos hk]
      rw [hN] at hW
      exact ⟨i, L', P', V', hW⟩
    rcases he with ⟨h0, he⟩ | ⟨h0, he⟩
    · exact ⟨k, i, 0, n, q, c, cm, N, q', c', cm', A, Am, A', Am', L', P', V', he, hF, hB, fun h => by subst h; exact ⟨hk, hN, hW, hRO, hq'⟩⟩
    · subst h0
      exact ⟨0, es.length, rch P P' n, N, q', c', cm', N, q', c', cm', A', Am', A', Am', L', P', V', he, hF, hB, fun h => by cases h⟩
set_option maxRecDepth 100000 in
set_option maxHeartbeats 16000000 in
theorem rcycle_any (w : World) (n : Nat) (hn : n ≤ 5000) (L : List (List Int)) (P V : List Nat) (hst : OSt n L P V) (A : Option Addr) (q c : Nat) (Am : Option Addr) (cm : Nat) (hR : RO w n A q c Am cm L V) (hbig : q ≤ 50000) (more : Int) (hm : more ≤ 5000 ∨ 10000 < more) (Ae : Option Addr) (m ce : Nat) (es : List (Int × Int)) (hq : m = es.length) (hqm : m ≤ 50000) (hE : EdgesAt w w.heap.size Ae es) :
    Calls Try.prog 26 #[ov n A q c Am n cm, .int .i64 more, .slice Ae m ce] w (CycleOut n L P V more es w) := by
  have hB0 : Below w.heap.size w (w.alloc (.cells #[.int .i64 (n : Int), .slice A q c, .slice Am n cm] 55)) := (Below.refl _ w).alloc (Nat.le_refl _) _
  have h0 := Blk.new_ w 55 #[.int .i64 (n : Int), .slice A q c, .slice Am n cm] rfl
  have c0 := h0.at_ 0 rfl
  have c1 := h0.at_ 1 rfl
  have c2 := h0.at_ 2 rfl
  have HPC := Lib.hid (rput_c _ n hn L P V hst A q c Am cm (hR.below hB0) hbig more hm Ae m ce es hq hqm ((hE.below hB0).more' hB0.size))
  have HB0 := Lib.hid hB0
  have HST := Lib.hid hst
  have HQ := Lib.hid hq
  have HE := Lib.hid hE
  clear hst hR hq hE hB0 h0 hm
  unfold ov at HPC ⊢
  go_enter Try.func26, Try.ntmps26
  go_wp2_with fail
  refine Calls.mono HPC.out ?_
  clear HPC c0 c1 c2
  rintro e w3 ⟨k, i, chg, n1, q1, c1, cm1, N, q', c', cm', A1, Am1, A', Am', L', P', V', rfl, hF, B3, h25⟩
  have HB3 := Lib.hid (HB0.out.trans (B3.mono HB0.out.size))
  have HF := Lib.hid hF
  have H25 := Lib.hid h25
  have HB9 : Hid (Below w3.heap.size w3 ((w3.alloc (.cells #[.int .i64 (n1 : Int), .slice A1 q1 c1, .slice Am1 n1 cm1] 55)).alloc (.cells #[.int .i64 (N : Int), .slice A' q' c', .slice Am' N cm'] 55))) := Lib.hid (((Below.refl _ w3).alloc (Nat.le_refl _) _).alloc (by simp) _)
  have HK9 : Hid (Blk ((w3.alloc (.cells #[.int .i64 (n1 : Int), .slice A1 q1 c1, .slice Am1 n1 cm1] 55)).alloc (.cells #[.int .i64 (N : Int), .slice A' q' c', .slice Am' N cm'] 55)) (w3.heap.size + 1) 55 #[.int .i64 (N : Int), .slice A' q' c', .slice Am' N cm']) := Lib.hid (Blk.new_ _ _ _ (by simp))
  have HRX : Hid (k = 25 → RO ((w3.alloc (.cells #[.int .i64 (n1 : Int), .slice A1 q1 c1, .slice Am1 n1 cm1] 55)).alloc (.cells #[.int .i64 (N : Int), .slice A' q' c', .slice Am' N cm'] 55)) N A' q' c' Am' cm' L' V') := Lib.hid (fun h => (h25 h).2.2.2.1.below HB9.out)
  have HBE : Hid (Below w.heap.size w ((w3.alloc (.cells #[.int .i64 (n1 : Int), .slice A1 q1 c1, .slice Am1 n1 cm1] 55)).alloc (.cells #[.int .i64 (N : Int), .slice A' q' c', .slice Am' N cm'] 55))) := Lib.hid (HB3.out.trans (HB9.out.mono HB3.out.size))
  have HST2 : Hid (∀ j, OSt (n + j) (growL L j) (gro P n j) (gro V n j)) := Lib.hid (fun j => HST.out.gro j)
  clear B3 hF h25 HB0 HB3 HB9
  go_upto_if 30 with fail
  generalize ((w3.alloc (.cells #[.int .i64 (n1 : Int), .slice A1 q1 c1, .slice Am1 n1 cm1] 55)).alloc (.cells #[.int .i64 (N : Int), .slice A' q' c', .slice Am' N cm'] 55)) = w5 at *
  generalize w3.heap.size + 1 = b9 at *
  by_cases hk : k = 25
  · subst hk
    obtain ⟨HG, HN, HW, -, hqq⟩ := H25.out rfl
    have HGR := Lib.hid (And.intro HG (And.intro HN HW))
    have HRO := Lib.hid (HRX.out rfl)
    obtain ⟨hi, a, b, ha, hb, hes, hpa⟩ := went_25 HW
    have HOK : Hid (OK N L') := Lib.hid (by
      have h := HW
      rw [HN] at h ⊢
      exact (h.st (HST2.out _)).ok)
    have HNle : N ≤ 10000 := by
      have h := HG
      unfold canGrow at h
      rw [Bool.and_eq_true, decide_eq_true_eq, decide_eq_true_eq] at h
      omega
    have hqb : q' ≤ 1000000 := by have := HQ.out; omega
    have HPA := Lib.hid hpa
    have HES := Lib.hid (Exists.intro (p := fun hi : i < es.length => es[i] = ((a : Int), (b : Int))) hi hes)
    obtain ⟨bE, oE, rfl, hbE, p1, p2⟩ := (HE.out.below HBE.out) i hi
    rw [hes] at p1 p2
    have him : i < m := by have := HQ.out; omega
    have i1 : (0 : Int) ≤ (i : Int) := by omega
    have i2 : (i : Int) < (m : Int) := by omega
    clear HG HN HW hqq hi hes hpa hbE H25 HRX
    go_upto_region 4 with fail
    have HCL : Hid (∀ W, Below w5.heap.size w5 W → W.cell? ⟨bE, oE + i * 2, none⟩ = some (.int .i64 (a : Int)) ∧ W.cell? ⟨bE, oE + i * 2 + 1, none⟩ = some (.int .i64 (b : Int))) := Lib.hid (fun W hW => ⟨(hW.cell (p := ⟨bE, _, none⟩) (GrW.lt_of_cell p1)).trans p1, (hW.cell (p := ⟨bE, _, none⟩) (GrW.lt_of_cell p2)).trans p2⟩)
    clear p1 p2
    have hS : Below w5.heap.size w5 w5.drew := (Below.refl _ w5).drew
    refine wp_region_heldG [] (fun _ W => Below w5.heap.size w5 W) (by kernel_rfl) ?_
    change wpAnyG _ _ _ _ _ _ 12 _ _ w5.drew
    refine g_take (i := 0) rfl rfl (by kernel_rfl) (by kernel_rfl) (by kernel_rfl) (by kernel_rfl) (by kernel_rfl) (fun _ _ _ h => h) hS (fun L' W' hL hW => by go_simp; rfl) ?_
    refine g_take (i := 1) rfl rfl (by kernel_rfl) (by kernel_rfl) (by kernel_rfl) (by kernel_rfl) (by kernel_rfl) (fun _ _ _ h => h) hS (fun L' W' hL hW => by go_simp; rfl) ?_
    refine g_take (i := 2) rfl rfl (by kernel_rfl) (by kernel_rfl) (by kernel_rfl) (by kernel_rfl) (by kernel_rfl) (fun _ _ _ h => h) hS (fun L' W' hL hW => by go_simp; rfl) ?_
    refine g_take (i := 3) rfl rfl (by kernel_rfl) (by kernel_rfl) (by kernel_rfl) (by kernel_rfl) (by kernel_rfl) (fun _ _ _ h => h) hS (fun L' W' hL hW => by go_simp; rfl) ?_
    refine g_take (i := 4) rfl rfl (by kernel_rfl) (by kernel_rfl) (by kernel_rfl) (by kernel_rfl) (by kernel_rfl) (fun _ _ _ h => h) hS (fun L' W' hL hW => by obtain ⟨k0, k1⟩ := HCL.out _ hW; go_simp; rfl) ?_
    refine g_take (i := 5) rfl rfl (by kernel_rfl) (by kernel_rfl) (by kernel_rfl) (by kernel_rfl) (by kernel_rfl) (fun _ _ _ h => h) hS (fun L' W' hL hW => by go_simp; rfl) ?_
    refine g_take (i := 6) rfl rfl (by kernel_rfl) (by kernel_rfl) (by kernel_rfl) (by kernel_rfl) (by kernel_rfl) (fun _ _ _ h => h) hS (fun L' W' hL hW => by go_simp; rfl) ?_
    refine g_take (i := 7) rfl rfl (by kernel_rfl) (by kernel_rfl) (by kernel_rfl) (by kernel_rfl) (by kernel_rfl) (fun _ _ _ h => h) hS (fun L' W' hL hW => by go_simp; rfl) ?_
    refine g_take (i := 8) rfl rfl (by kernel_rfl) (by kernel_rfl) (by kernel_rfl) (by kernel_rfl) (by kernel_rfl) (fun _ _ _ h => h) hS (fun L' W' hL hW => by go_simp; rfl) ?_
    refine g_take (i := 9) rfl rfl (by kernel_rfl) (by kernel_rfl) (by kernel_rfl) (by kernel_rfl) (by kernel_rfl) (fun _ _ _ h => h) hS (fun L' W' hL hW => by obtain ⟨k0, k1⟩ := HCL.out _ hW; go_simp; rfl) ?_
    refine g_take (i := 10) rfl rfl (by kernel_rfl) (by kernel_rfl) (by kernel_rfl) (by kernel_rfl) (by kernel_rfl) (fun _ _ _ h => h) hS (fun L' W' hL hW => by go_simp; rfl) ?_
    refine g_take (i := 11) rfl rfl (by kernel_rfl) (by kernel_rfl) (by kernel_rfl) (by kernel_rfl) (by kernel_rfl) (fun _ _ _ h => h) hS (fun L' W' hL hW => by go_simp; rfl) ?_
    refine wpAnyG_done (by kernel_rfl) ?_ _
    have HB6 := Lib.hid (HBE.out.trans (hS.mono HBE.out.size))
    have HRO6 := Lib.hid (HRO.out.below hS)
    have HK96 := Lib.hid (HK9.out.below hS HK9.out.lt)
    clear hS HCL HRO HK9 HBE
    go_simp
    generalize w5.drew = w6 at *
    by_cases hab : a = b
    · have hbe : ((a : Int) == (b : Int)) = true := by rw [beq_iff_eq, hab]
      have HFIN : Hid (CycleOut n L P V more es w (.returned (.slice (some ⟨w6.heap.size, 0, none⟩) 1 1)) (w6.alloc (.cells #[.int .i64 (a : Int)] 3))) := Lib.hid (by
        obtain ⟨hi, hes⟩ := HES.out
        refine ⟨25, HF.out, .inr ⟨rfl, HGR.out.1, i, hi, L', P', V', [a], ?_, ⟨a, b, hes, .inl ⟨hab, rfl⟩⟩, _, rfl, ?_, HB6.out.alloc HB6.out.size _⟩⟩
        · have h := HGR.out.2.2
          rw [HGR.out.2.1] at h
          exact h
        · exact (Blk.new_ w6 3 #[.int .i64 (a : Int)] rfl).own HB6.out.size 1 (Nat.le_refl _) (by simp [maxLen]))
      clear hab HRO6 HK96
      go_wp2_with fail
      go_ret
      exact HFIN.out
    · have hbe : ((a : Int) == (b : Int)) = false := by rw [beq_eq_false_iff_ne]; omega
      have HAB := Lib.hid hab
      obtain ⟨d0, hd0⟩ : ∃ d, Least L' a b d := by
        obtain ⟨d, h1⟩ := Steps.of_path HPA.out
        obtain ⟨d', -, h2⟩ := h1.least
        exact ⟨d', h2⟩
      have hd0n := hd0.few HOK.out ha
      have HD0 := Lib.hid hd0
      have HON0 := Lib.hid (Onto.start hd0)
      have HO0 : Hid ((w6.alloc (.cells #[.int .i64 (b : Int)] 3)).ownsRow w6.heap.size 3 1 (.slice (some ⟨w6.heap.size, 0, none⟩) 1 1) [b].length (iv (zs [b]))) := Lib.hid ((Blk.new_ w6 3 #[.int .i64 (b : Int)] rfl).own (Nat.le_refl _) 1 (Nat.le_refl _) (by simp [maxLen]))
      have HB0' : Hid (Below w6.heap.size w6 (w6.alloc (.cells #[.int .i64 (b : Int)] 3))) := Lib.hid ((Below.refl _ w6).alloc (Nat.le_refl _) _)
      clear hd0
      go_wp2_with fail
      go_loopw [14, 15] (fun vo av wr => ∃ (x d : Nat) (out : List Nat), x < N ∧ av = .int .i64 x ∧ out.length + d = d0 + 1 ∧ Hid (Onto L' a b out x d ∧ Below w6.heap.size w6 wr ∧ wr.ownsRow w6.heap.size 3 1 vo out.length (iv (zs out)))) (fun _ av _ => dst L' a (intOf av).toNat)
      case atStart => exact ⟨b, d0, [b], hb, rfl, by simp; omega, Lib.hid ⟨HON0.out, HB0'.out, HO0.out⟩⟩
      case round =>
        clear HON0 HO0 HB0'
        obtain ⟨x, d, out, hxN, rfl, hlen, HI⟩ := hrel
        obtain ⟨Ao, co, hv⟩ := own_form HI.out.2.2
        subst hv
        have HON := Lib.hid HI.out.1
        have HBW := Lib.hid HI.out.2.1
        have HOW := Lib.hid HI.out.2.2
        clear HI
        by_cases hxa : x = a
        · have hbx : ((x : Int) == (a : Int)) = true := by rw [beq_iff_eq, hxa]
          have HFIN : Hid (CycleOut n L P V more es w (.returned (.slice Ao out.length co)) wr) := Lib.hid (by
            obtain ⟨hi, hes⟩ := HES.out
            refine ⟨25, HF.out, .inr ⟨rfl, HGR.out.1, i, hi, L', P', V', out, ?_, ⟨a, b, hes, .inr ⟨HAB.out, ?_⟩⟩, _, rfl, ?_, HB6.out.trans (HBW.out.mono HB6.out.size)⟩⟩
            · have h := HGR.out.2.2
              rw [HGR.out.2.1] at h
              exact h
            · have h := HON.out
              rw [hxa] at h
              exact h.end_
            · rw [zs_length]
              exact own_base HOW.out HB6.out.size)
          clear hxa HON HBW HOW
          go_wp2_with fail
          go_ret
          exact HFIN.out
        · have hbx : ((x : Int) == (a : Int)) = false := by rw [beq_eq_false_iff_ne]; omega
          obtain ⟨d', hd'⟩ := HON.out.pos hxa
          subst hd'
          have HROr := Lib.hid (HRO6.out.below HBW.out)
          have HK9r := Lib.hid (HK96.out.below HBW.out HK96.out.lt)
          have g0 := HK9r.out.at_ 0 rfl
          have g1 := HK9r.out.at_ 1 rfl
          have HSTP := Lib.hid (steps_any wr N (by omega) L' HOK.out A' q' c' HROr.out.q1 HROr.out.q2 HROr.out.q3 hqb HROr.out.ed x a hxN ha)
          unfold rv at HSTP
          clear hxa
          go_wp2_with fail
          refine Calls.mono HSTP.out ?_
          clear HSTP g0 g1
          rintro e wS ⟨r, rfl, -, hst, BS⟩
          have hr := hst.iff.2 HON.out.here
          subst hr
          have HBS := Lib.hid (HBW.out.trans (BS.mono HBW.out.size))
          have HOS := Lib.hid (own_belowW HOW.out BS)
          have HROS := Lib.hid (HROr.out.below BS)
          have HK9S := Lib.hid (HK9r.out.below BS HK9r.out.lt)
          have g0 := HK9S.out.at_ 0 rfl
          have HPK0 := Lib.hid (Pick.start (tz := a) (a := x) (d := d') HOK.out rfl)
          have hd0' : ((d' + 1 : Nat) : Int) = (d' : Int) + 1 := by omega
          clear hst BS HBW HOW HROr HK9r
          go_wp2_with fail
          clear g0
          go_loopw [17, 18] (fun nv wv wr => ∃ (j : Nat) (r : Int), j ≤ N ∧ wv = .int .i64 ((j : Int) - 1) ∧ nv = .int .i64 r ∧ Hid (Pick L' a x d' N j r ∧ Below wS.heap.size wS wr)) (fun _ wv _ => (intOf wv + 1).toNat)
          case atStart => exact ⟨N, -1, Nat.le_refl _, by go_num, rfl, Lib.hid ⟨HPK0.out, Below.refl _ _⟩⟩
          case round =>
            clear HPK0
            obtain ⟨j, r, hj, rfl, rfl, HJ⟩ := hrel
            have HPK := Lib.hid HJ.out.1
            have HBJ := Lib.hid HJ.out.2
            clear HJ
            by_cases hj0 : j = 0
            · subst hj0
              have i3 : ¬ (0 : Int) ≤ ((0 : Nat) : Int) - 1 := by omega
              obtain ⟨v, hr, hvN, hE1, hL1, hmin⟩ := HPK.out.end_ HON.out.here
              have HNX := Lib.hid (HON.out.go hE1 hL1 hmin)
              have HDX := Lib.hid (And.intro (dst_eq HON.out.here) (dst_eq hL1))
              have HOJ := Lib.hid (own_belowW HOS.out HBJ.out)
              have HB6J := Lib.hid (HBS.out.trans (HBJ.out.mono HBS.out.size))
              have hBN := Blk.new_ wr 3 #[.int .i64 (v : Nat)] rfl
              have hsz := HB6J.out.size
              subst hr
              clear hE1 hL1 hmin HPK HBJ
              go_wp2_with (at_builtin; refine wpList_push rfl (.tmp 82) (.tmp 84) rfl w6.heap.size (.slice Ao out.length co) out.length (zs out) (by rw [zs_length]) rfl (HOJ.out.alloc _) wr.heap.size (v : Nat) rfl hBN (by omega) (by simp; omega) ?_)
              intro v6 w10 o6 g6 ob6
              have HN : Hid (Onto L' a b (out ++ [v]) v d' ∧ Below w6.heap.size w6 w10 ∧ w10.ownsRow w6.heap.size 3 1 v6 (out ++ [v]).length (iv (zs (out ++ [v])))) := Lib.hid (by
                refine ⟨HNX.out, (HB6J.out.alloc hsz (.cells #[.int .i64 (v : Nat)] 3)).grown g6 (by simp; omega) (fun j hj => (own_row HOJ.out hj).1), ?_⟩
                rw [List.length_append, zs_append]
                exact o6)
              obtain ⟨A6, c6, hv6⟩ := own_form o6
              subst hv6
              clear o6 g6 ob6 hBN HOJ HB6J HNX hsz
              go_wp2_with fail
              go_roundw
              case rel => exact ⟨v, d', out ++ [v], hvN, rfl, by rw [List.length_append]; simp; omega, HN⟩
              case measure =>
                have h1 := HDX.out.1
                have h2 := HDX.out.2
                simp [intOf]
                omega
            · obtain ⟨j', rfl⟩ : ∃ j', j = j' + 1 := ⟨j - 1, by omega⟩
              have i3 : (0 : Int) ≤ ((j' + 1 : Nat) : Int) - 1 := by omega
              have hje : ((j' + 1 : Nat) : Int) - 1 = (j' : Int) := by omega
              rw [hje] at i3 ⊢
              have hjN : j' < N := by omega
              have HROj := Lib.hid (HROS.out.below HBJ.out)
              have HK9j := Lib.hid (HK9S.out.below HBJ.out HK9S.out.lt)
              have g0 := HK9j.out.at_ 0 rfl
              have g1 := HK9j.out.at_ 1 rfl
              have HHA := Lib.hid (refhas_any wr N A' q' c' (edgesTo L' N) HROj.out.q1 HROj.out.q2 HROj.out.q3 HROj.out.ed (x : Int) (j' : Int))
              unfold rv at HHA
              clear hj0 hje
              go_wp2_with fail
              refine Calls.mono HHA.out ?_
              clear HHA g0 g1
              rintro e wh ⟨rfl, BH⟩
              have HRH := Lib.hid (HROj.out.below BH)
              have HKH := Lib.hid (HK9j.out.below BH HK9j.out.lt)
              have HBH := Lib.hid (HBJ.out.trans (BH.mono HBJ.out.size))
              have hED : decide (((x : Int), (j' : Int)) ∈ edgesTo L' N) = true ↔ E L' x j' := by
                rw [decide_eq_true_eq, Gr.mem_edgesTo]
                constructor
                · rintro ⟨y, hy, h1, h2⟩
                  have h1 : (x : Int) = (y : Int) := h1
                  have : x = y := by omega
                  subst this
                  exact h2
                · exact fun h => ⟨x, hxN, rfl, h⟩
              generalize decide (((x : Int), (j' : Int)) ∈ edgesTo L' N) = bh at *
              have HED := Lib.hid hED
              clear hED BH HROj HK9j HBJ
              by_cases hbt : bh = true
              · have HEX := Lib.hid (HED.out.1 hbt)
                rw [hbt]
                have g0 := HKH.out.at_ 0 rfl
                have g1 := HKH.out.at_ 1 rfl
                have HSTP := Lib.hid (steps_any wh N (by omega) L' HOK.out A' q' c' HRH.out.q1 HRH.out.q2 HRH.out.q3 hqb HRH.out.ed j' a hjN ha)
                unfold rv at HSTP
                clear hbt HED
                go_wp2_with fail
                refine Calls.mono HSTP.out ?_
                clear HSTP g0 g1
                rintro e wt ⟨r2, rfl, hrb, hst2, BT⟩
                have HBT := Lib.hid (HBH.out.trans (BT.mono HBH.out.size))
                clear BT HBH HRH HKH
                by_cases hrd : r2 = (d' : Int)
                · subst hrd
                  have b1 : ((d' : Int) == (d' : Int)) = true := by rw [beq_iff_eq]
                  have b2 : ((d' : Int) + 1 - 1) = (d' : Int) := by omega
                  have HN : Hid (Pick L' a x d' N j' (j' : Int) ∧ Below wS.heap.size wS wt) := Lib.hid ⟨HPK.out.yes hjN HEX.out (hst2.iff.1 rfl), HBT.out⟩
                  clear hst2 HPK HEX HBT
                  go_wp2_with fail
                  go_roundw
                  case rel => exact ⟨j', (j' : Int), by omega, by go_num, rfl, HN⟩
                  case measure => first | (simp [intOf]; done) | (simp [intOf]; omega)
                · have b1 : (r2 == (d' : Int)) = false := by rw [beq_eq_false_iff_ne]; exact hrd
                  have b2 : ((d' : Int) + 1 - 1) = (d' : Int) := by omega
                  have HN : Hid (Pick L' a x d' N j' r ∧ Below wS.heap.size wS wt) := Lib.hid ⟨HPK.out.no (fun h => hrd (hst2.iff.2 h.2)), HBT.out⟩
                  clear hst2 HPK HEX HBT hrd
                  go_wp2_with fail
                  go_roundw
                  case rel => exact ⟨j', r, by omega, by go_num, rfl, HN⟩
                  case measure => first | (simp [intOf]; done) | (simp [intOf]; omega)
              · have HN : Hid (Pick L' a x d' N j' r ∧ Below wS.heap.size wS wh) := Lib.hid ⟨HPK.out.no (fun h => hbt (HED.out.2 h.1)), HBH.out⟩
                rw [Bool.eq_false_iff.2 hbt]
                clear hbt HED HPK HBH HRH HKH
                go_wp2_with fail
                go_roundw
                case rel => exact ⟨j', r, by omega, by go_num, rfl, HN⟩
                case measure => first | (simp [intOf]; done) | (simp [intOf]; omega)
  · have hbe : ((k : Int) == 25) = false := by rw [beq_eq_false_iff_ne]; omega
    have hbn : ((k : Int) != 25) = true := by simp; omega
    have HFIN : Hid (CycleOut n L P V more es w (.returned (.slice none 0 0)) w5) := Lib.hid ⟨k, HF.out, .inl ⟨hk, rfl, HBE.out⟩⟩
    clear hk H25 HRX HK9
    go_wp2_with fail
    go_ret
    exact HFIN.out
end Go.Proofs.Ytelplccbcbegkaa.OrW
