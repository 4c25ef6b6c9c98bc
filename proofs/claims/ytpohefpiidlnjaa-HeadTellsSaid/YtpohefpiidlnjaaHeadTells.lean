/-
  The walk of HeadTells.
-/
import Derived.Test.YtpohefpiidlnjaaHeadTG
import Derived.Deep.CutBlock
namespace Go.Proofs.Ytpohefpiidlnjaa.Hr
set_option linter.unusedVariables false
open Go Go.RowKit Go.Proofs Go.Proofs.Ytpohefpiidlnjaa Go.Proofs.Ytpohefpiidlnjaa.Wd
open Go.Proofs.Ytpohefpiidlnjaa.Hd (H Wf)
open Go.Proofs.Ytpohefpiidlnjaa.HdW (readR hv loadR saveR bytesR)
open Go.Proofs.Ytpohefpiidlnjaa.Dk (DS Ok At newD fuseD crashD)
open Go.Proofs.Ytpohefpiidlnjaa.Dr (Sl RV rval rcells Ref)
theorem at_base {w : World} {base base' : Nat} {F : Nat → Prop} {g : Nat} {s : DS} (h : At w base F g s) (hb : base' ≤ base) : At w base' F g s := by
  obtain ⟨cs, v, vf, R, fb, h⟩ := h
  exact ⟨cs, v, vf, R, fb, ⟨h.ok, h.blk, h.cells, h.row, h.fuse, h.fg, h.fR, h.ff, h.apart, fun k hk => ⟨Nat.le_trans hb (h.lo k hk).1, (h.lo k hk).2⟩⟩⟩
theorem neq_hv (p : H) (W : World) : (binOp .neq 24 (.agg (hv p)) (.agg (hv p))).run Try.prog W = .ok (.bool false) W := neq_heads _ _ _ W
set_option maxRecDepth 100000 in
set_option maxHeartbeats 16000000 in
theorem tells_main (sa sb sc : Nat) (hsa : sa < 18446744073709551616) (hsb : sb < 18446744073709551616) (hsc : sc < 256) (A0 A1 A2 : Option Addr) (c0 c1 c2 n2 : Nat) (zero one : List UInt8) (n0 n1 : Nat) (hn0 : n0 = zero.length) (hn1 : n1 = one.length) (hc0 : n0 ≤ c0) (hc1 : n1 ≤ c1) (hc2 : n2 ≤ c2) (hm0 : c0 ≤ maxLen) (hm1 : c1 ≤ maxLen) (hm2 : c2 ≤ maxLen)
    (h40 : n0 ≤ 40) (h41 : n1 ≤ 40) (h30 : n2 ≤ 30) (w : World) (hJ0 : Bytes w w.heap.size A0 zero) (hJ1 : Bytes w w.heap.size A1 one) (hI : CallsAt w w.heap.size A2 n2) :
    Calls Try.prog 8 #[.agg #[.int .u64 sa, .int .u64 sb, .int .u8 sc], .slice A0 n0 c0, .slice A1 n1 c1, .slice A2 n2 c2] w fun e w' => e = .returned (.bool true) ∧ Below w.heap.size w w' := by
  unfold maxLen at hm0 hm1 hm2
  have HI := Lib.hid hI
  have HL0 := Lib.hid hn0
  have HL1 := Lib.hid hn1
  have hbx := Blk.new_ w 24 #[.int .u64 (sa : Nat), .int .u64 (sb : Nat), .int .u8 (sc : Nat)] rfl
  have hlow := (Below.refl w.heap.size w).alloc (Nat.le_refl _) (.cells #[.int .u64 (sa : Nat), .int .u64 (sb : Nat), .int .u8 (sc : Nat)] 24)
  have HK0 : Hid (∀ W, Below w.heap.size w W → Bytes W W.heap.size A0 zero) := Lib.hid (fun W hW => hJ0.grow hW)
  have HK1 : Hid (∀ W, Below w.heap.size w W → Bytes W W.heap.size A1 one) := Lib.hid (fun W hW => hJ1.grow hW)
  have u0 : ¬ (40 : Int) < (n0 : Int) := by omega
  have u1 : ¬ (40 : Int) < (n1 : Int) := by omega
  have u2 : ¬ (30 : Int) < (n2 : Int) := by omega
  have HBX := Lib.hid hbx
  have HB := Lib.hid hlow
  have hwf : Wf ⟨sa, sb, sc⟩ := ⟨hsa, hsb, hsc⟩
  clear hI hn0 hn1 hJ0 hJ1 hbx hlow
  go_enter Try.func8, Try.ntmps8
  go_upto_region 3 with fail
  generalize w.alloc (.cells #[.int .u64 (sa : Nat), .int .u64 (sb : Nat), .int .u8 (sc : Nat)] 24) = w0 at *
  clear u0 u1 u2
  have q0 := HBX.out.at_ 0 (v := .int .u64 (sa : Nat)) rfl
  have q1 := HBX.out.at_ 1 (v := .int .u64 (sb : Nat)) rfl
  have q2 := HBX.out.at_ 2 (v := .int .u8 (sc : Nat)) rfl
  have HC1 := Lib.hid (HdW.bytes_any sa sb sc hwf w0)
  go_wp2_with fail
  refine Calls.mono HC1.out ?_
  rintro en w1 ⟨A3, c3, rfl, -, -, hJ3, hb, -⟩
  generalize hrb : bytesR ⟨sa, sb, sc⟩ = rb at *
  have HB1 := Lib.hid (HB.out.trans (hb.mono HB.out.size))
  have HBX1 := Lib.hid (HBX.out.below hb HBX.out.lt)
  have HJ3 := Lib.hid hJ3
  clear hb HBX HC1 hJ3 q0 q1 q2 HB
  have q0 := HBX1.out.at_ 0 (v := .int .u64 (sa : Nat)) rfl
  have q1 := HBX1.out.at_ 1 (v := .int .u64 (sb : Nat)) rfl
  have q2 := HBX1.out.at_ 2 (v := .int .u8 (sc : Nat)) rfl
  have HC1 := Lib.hid (rbytes sa sb sc hwf w1)
  rw [hrb] at HC1
  clear hrb
  go_wp2_with fail
  refine Calls.mono HC1.out ?_
  rintro en w2 ⟨A4, c4, rfl, -, -, hJ4, hb, -⟩
  have HB2 := Lib.hid (HB1.out.trans (hb.mono HB1.out.size))
  have HBX2 := Lib.hid (HBX1.out.below hb HBX1.out.lt)
  have HJ3' := Lib.hid (HJ3.out.grow hb)
  have HJ4 := Lib.hid hJ4
  clear hb HBX1 HC1 hJ4 q0 q1 q2 HB1 HJ3
  have HB := HB2
  have HBX := HBX2
  have HJ3 := HJ3'
  clear HB2 HBX2 HJ3'
  have hm0' : c0 ≤ maxLen := by unfold maxLen; exact hm0
  have hm1' : c1 ≤ maxLen := by unfold maxLen; exact hm1
  have HC := Lib.hid (HdW.read_any A0 c0 zero n0 HL0.out hc0 hm0' w2 (HK0.out _ HB.out))
  generalize hra : readR zero = ra at *
  obtain ⟨⟨ra1, ra2, ra3⟩, ra4⟩ := ra
  simp only [HdW.hv] at HC
  go_wp2_with fail
  refine Calls.mono HC.out ?_
  rintro en w10 ⟨rfl, hb⟩
  have HB9 := Lib.hid (HB.out.trans (hb.mono HB.out.size))
  have HBX9 := Lib.hid (HBX.out.below hb HBX.out.lt)
  have HJ39 := Lib.hid (HJ3.out.grow hb)
  have HJ49 := Lib.hid (HJ4.out.grow hb)
  clear HB HBX HJ3 HJ4 
  have HB := HB9
  have HBX := HBX9
  have HJ3 := HJ39
  have HJ4 := HJ49
  clear HB9 HBX9 HJ39 HJ49 
  clear hb HC
  have ha := (Below.refl w10.heap.size w10).alloc (Nat.le_refl _) (.cells #[.int .u64 (ra1 : Nat), .int .u64 (ra2 : Nat), .int .u8 (ra3 : Nat)] 24)
  have HVx := Lib.hid (Blk.new_ w10 24 #[.int .u64 (ra1 : Nat), .int .u64 (ra2 : Nat), .int .u8 (ra3 : Nat)] rfl)
  have HB9 := Lib.hid (HB.out.trans (ha.mono HB.out.size))
  have HBX9 := Lib.hid (HBX.out.below ha HBX.out.lt)
  have HJ39 := Lib.hid (HJ3.out.grow ha)
  have HJ49 := Lib.hid (HJ4.out.grow ha)
  clear HB HBX HJ3 HJ4 
  have HB := HB9
  have HBX := HBX9
  have HJ3 := HJ39
  have HJ4 := HJ49
  clear HB9 HBX9 HJ39 HJ49 
  clear ha
  go_upto_region 6 with fail
  generalize w10.alloc (.cells #[.int .u64 (ra1 : Nat), .int .u64 (ra2 : Nat), .int .u8 (ra3 : Nat)] 24) = w11 at *
  generalize w10.heap.size = bx at *
  have HC := Lib.hid (rread A0 c0 zero n0 HL0.out hc0 hm0' w11 (HK0.out _ HB.out))
  rw [hra] at HC
  simp only [HdW.hv] at HC
  go_wp2_with fail
  refine Calls.mono HC.out ?_
  rintro en w12 ⟨rfl, hb⟩
  have HB9 := Lib.hid (HB.out.trans (hb.mono HB.out.size))
  have HBX9 := Lib.hid (HBX.out.below hb HBX.out.lt)
  have HJ39 := Lib.hid (HJ3.out.grow hb)
  have HJ49 := Lib.hid (HJ4.out.grow hb)
  have HNx := Lib.hid (HVx.out.below hb HVx.out.lt)
  clear HB HBX HJ3 HJ4 HVx
  have HB := HB9
  have HBX := HBX9
  have HJ3 := HJ39
  have HJ4 := HJ49
  have HVx := HNx
  clear HB9 HBX9 HJ39 HJ49 HNx
  clear hb HC
  have ha := (Below.refl w12.heap.size w12).alloc (Nat.le_refl _) (.cells #[.int .u64 (ra1 : Nat), .int .u64 (ra2 : Nat), .int .u8 (ra3 : Nat)] 24)
  have HVy := Lib.hid (Blk.new_ w12 24 #[.int .u64 (ra1 : Nat), .int .u64 (ra2 : Nat), .int .u8 (ra3 : Nat)] rfl)
  have HB9 := Lib.hid (HB.out.trans (ha.mono HB.out.size))
  have HBX9 := Lib.hid (HBX.out.below ha HBX.out.lt)
  have HJ39 := Lib.hid (HJ3.out.grow ha)
  have HJ49 := Lib.hid (HJ4.out.grow ha)
  have HNx := Lib.hid (HVx.out.below ha HVx.out.lt)
  clear HB HBX HJ3 HJ4 HVx
  have HB := HB9
  have HBX := HBX9
  have HJ3 := HJ39
  have HJ4 := HJ49
  have HVx := HNx
  clear HB9 HBX9 HJ39 HJ49 HNx
  clear ha
  go_upto_region 7 with fail
  generalize w12.alloc (.cells #[.int .u64 (ra1 : Nat), .int .u64 (ra2 : Nat), .int .u8 (ra3 : Nat)] 24) = w13 at *
  generalize w12.heap.size = by' at *
  have HC := Lib.hid (HdW.pick_any A0 A1 c0 c1 n0 n1 zero one HL0.out HL1.out hc0 hc1 hm0' hm1' w13 (HK0.out _ HB.out) (HK1.out _ HB.out))
  generalize hpp : Hd.pick zero one = pp at *
  obtain ⟨pp1, pp2, pp3⟩ := pp
  simp only [HdW.hv] at HC
  go_wp2_with fail
  refine Calls.mono HC.out ?_
  rintro en w14 ⟨rfl, hb⟩
  have HB9 := Lib.hid (HB.out.trans (hb.mono HB.out.size))
  have HBX9 := Lib.hid (HBX.out.below hb HBX.out.lt)
  have HJ39 := Lib.hid (HJ3.out.grow hb)
  have HJ49 := Lib.hid (HJ4.out.grow hb)
  have HNx := Lib.hid (HVx.out.below hb HVx.out.lt)
  have HNy := Lib.hid (HVy.out.below hb HVy.out.lt)
  clear HB HBX HJ3 HJ4 HVx HVy
  have HB := HB9
  have HBX := HBX9
  have HJ3 := HJ39
  have HJ4 := HJ49
  have HVx := HNx
  have HVy := HNy
  clear HB9 HBX9 HJ39 HJ49 HNx HNy
  clear hb HC
  have ha := (Below.refl w14.heap.size w14).alloc (Nat.le_refl _) (.cells #[.int .u64 (pp1 : Nat), .int .u64 (pp2 : Nat), .int .u8 (pp3 : Nat)] 24)
  have HVp := Lib.hid (Blk.new_ w14 24 #[.int .u64 (pp1 : Nat), .int .u64 (pp2 : Nat), .int .u8 (pp3 : Nat)] rfl)
  have HB9 := Lib.hid (HB.out.trans (ha.mono HB.out.size))
  have HBX9 := Lib.hid (HBX.out.below ha HBX.out.lt)
  have HJ39 := Lib.hid (HJ3.out.grow ha)
  have HJ49 := Lib.hid (HJ4.out.grow ha)
  have HNx := Lib.hid (HVx.out.below ha HVx.out.lt)
  have HNy := Lib.hid (HVy.out.below ha HVy.out.lt)
  clear HB HBX HJ3 HJ4 HVx HVy
  have HB := HB9
  have HBX := HBX9
  have HJ3 := HJ39
  have HJ4 := HJ49
  have HVx := HNx
  have HVy := HNy
  clear HB9 HBX9 HJ39 HJ49 HNx HNy
  clear ha
  go_upto_region 8 with fail
  generalize w14.alloc (.cells #[.int .u64 (pp1 : Nat), .int .u64 (pp2 : Nat), .int .u8 (pp3 : Nat)] 24) = w15 at *
  generalize w14.heap.size = bp at *
  have HC := Lib.hid (rpick A0 A1 c0 c1 n0 n1 zero one HL0.out HL1.out hc0 hc1 hm0' hm1' w15 (HK0.out _ HB.out) (HK1.out _ HB.out))
  rw [hpp] at HC
  simp only [HdW.hv] at HC
  go_wp2_with fail
  refine Calls.mono HC.out ?_
  rintro en w16 ⟨rfl, hb⟩
  have HB9 := Lib.hid (HB.out.trans (hb.mono HB.out.size))
  have HBX9 := Lib.hid (HBX.out.below hb HBX.out.lt)
  have HJ39 := Lib.hid (HJ3.out.grow hb)
  have HJ49 := Lib.hid (HJ4.out.grow hb)
  have HNx := Lib.hid (HVx.out.below hb HVx.out.lt)
  have HNy := Lib.hid (HVy.out.below hb HVy.out.lt)
  have HNp := Lib.hid (HVp.out.below hb HVp.out.lt)
  clear HB HBX HJ3 HJ4 HVx HVy HVp
  have HB := HB9
  have HBX := HBX9
  have HJ3 := HJ39
  have HJ4 := HJ49
  have HVx := HNx
  have HVy := HNy
  have HVp := HNp
  clear HB9 HBX9 HJ39 HJ49 HNx HNy HNp
  clear hb HC
  have ha := (Below.refl w16.heap.size w16).alloc (Nat.le_refl _) (.cells #[.int .u64 (pp1 : Nat), .int .u64 (pp2 : Nat), .int .u8 (pp3 : Nat)] 24)
  have HVq := Lib.hid (Blk.new_ w16 24 #[.int .u64 (pp1 : Nat), .int .u64 (pp2 : Nat), .int .u8 (pp3 : Nat)] rfl)
  have HB9 := Lib.hid (HB.out.trans (ha.mono HB.out.size))
  have HBX9 := Lib.hid (HBX.out.below ha HBX.out.lt)
  have HJ39 := Lib.hid (HJ3.out.grow ha)
  have HJ49 := Lib.hid (HJ4.out.grow ha)
  have HNx := Lib.hid (HVx.out.below ha HVx.out.lt)
  have HNy := Lib.hid (HVy.out.below ha HVy.out.lt)
  have HNp := Lib.hid (HVp.out.below ha HVp.out.lt)
  clear HB HBX HJ3 HJ4 HVx HVy HVp
  have HB := HB9
  have HBX := HBX9
  have HJ3 := HJ39
  have HJ4 := HJ49
  have HVx := HNx
  have HVy := HNy
  have HVp := HNp
  clear HB9 HBX9 HJ39 HJ49 HNx HNy HNp
  clear ha
  go_upto_region 9 with fail
  generalize w16.alloc (.cells #[.int .u64 (pp1 : Nat), .int .u64 (pp2 : Nat), .int .u8 (pp3 : Nat)] 24) = w17 at *
  generalize w16.heap.size = bq at *
  have hq1 := fun W => neq_heads (ra1 : Int) (ra2 : Int) (ra3 : Int) W
  have hq2 := fun W => neq_heads (pp1 : Int) (pp2 : Int) (pp3 : Int) W
  clear hra hpp HK0 HK1 HL0 HL1
  refine wp_region_heldG [] (fun _ W => Below w17.heap.size w17 W) (by kernel_rfl) ?_
  change wpAnyG _ _ _ _ _ _ 36 _ _ (World.drew w17)
  have hS : Below w17.heap.size w17 w17.drew := (Below.refl _ w17).drew
  -- take0 take1 take2 take3 take4G take5G one6G take7G take8 take9 take10G take11G take12G take13 take14 take15G take16G take17G take18 take19 take20G take21G take22G take23 take24 take25G take26G take27G take28 take29 take30G take32G one31G one33G take34G take35 done
  refine g_take (i := 0) rfl rfl (by kernel_rfl) (by kernel_rfl) (by kernel_rfl) (by kernel_rfl) (by kernel_rfl) (fun _ _ _ h => h) hS (fun L W hL hW => by go_simp; rfl) ?_
  refine g_take (i := 1) rfl rfl (by kernel_rfl) (by kernel_rfl) (by kernel_rfl) (by kernel_rfl) (by kernel_rfl) (fun _ _ _ h => h) hS (fun L W hL hW => by go_simp; rfl) ?_
  refine g_take (i := 2) rfl rfl (by kernel_rfl) (by kernel_rfl) (by kernel_rfl) (by kernel_rfl) (by kernel_rfl) (fun _ _ _ h => h) hS (fun L W hL hW => by go_simp; rfl) ?_
  refine g_take (i := 3) rfl rfl (by kernel_rfl) (by kernel_rfl) (by kernel_rfl) (by kernel_rfl) (by kernel_rfl) (fun _ _ _ h => h) hS (fun L W hL hW => by go_simp; rfl) ?_
  refine g_takeG (i := 4) rfl (by simp only [Region.wanted, yielded]; go_simp) (by kernel_rfl) (by kernel_rfl) (by kernel_rfl) (by kernel_rfl) (by kernel_rfl) (fun _ _ _ h => h) hS (fun L W hL hW => by go_simp; rfl) ?_
  refine g_takeG (i := 5) rfl (by simp only [Region.wanted, yielded]; go_simp) (by kernel_rfl) (by kernel_rfl) (by kernel_rfl) (by kernel_rfl) (by kernel_rfl) (fun _ _ _ h => h) hS (fun L W hL hW => by go_simp; rfl) ?_
  refine g_one (i := 6) rfl (by simp only [Region.wanted, yielded]; go_simp) (by kernel_rfl) fun K hK => ?_
  go_simp
  refine Calls.mono (HdW.same_any A3 A4 c3 c4 rb.1 rb.1 _ _ rfl rfl _ (HJ3.out.grow hS) (HJ4.out.grow hS)) ?_
  rintro en y6 ⟨rfl, rfl⟩
  rw [beq_self_eq_true]
  refine hK _ _ hS ?_
  clear hK K
  refine g_takeG (i := 7) rfl (by simp only [Region.wanted, yielded]; go_simp) (by kernel_rfl) (by kernel_rfl) (by kernel_rfl) (by kernel_rfl) (by kernel_rfl) (fun _ _ _ h => h) hS (fun L W hL hW => by go_simp; rfl) ?_
  refine g_take (i := 8) rfl rfl (by kernel_rfl) (by kernel_rfl) (by kernel_rfl) (by kernel_rfl) (by kernel_rfl) (fun _ _ _ h => h) hS (fun L W hL hW => by go_simp; rfl) ?_
  refine g_take (i := 9) rfl rfl (by kernel_rfl) (by kernel_rfl) (by kernel_rfl) (by kernel_rfl) (by kernel_rfl) (fun _ _ _ h => h) hS (fun L W hL hW => by go_simp; rfl) ?_
  refine g_takeG (i := 10) rfl (by simp only [Region.wanted, yielded]; go_simp) (by kernel_rfl) (by kernel_rfl) (by kernel_rfl) (by kernel_rfl) (by kernel_rfl) (fun _ _ _ h => h) hS (fun L W hL hW => by go_simp; rfl) ?_
  refine g_takeG (i := 11) rfl (by simp only [Region.wanted, yielded]; go_simp) (by kernel_rfl) (by kernel_rfl) (by kernel_rfl) (by kernel_rfl) (by kernel_rfl) (fun _ _ _ h => h) hS (fun L W hL hW => by go_simp; rfl) ?_
  refine g_takeG (i := 12) rfl (by simp only [Region.wanted, yielded]; go_simp) (by kernel_rfl) (by kernel_rfl) (by kernel_rfl) (by kernel_rfl) (by kernel_rfl) (fun _ _ _ h => h) hS (fun L W hL hW => by go_simp; rfl) ?_
  refine g_take (i := 13) rfl rfl (by kernel_rfl) (by kernel_rfl) (by kernel_rfl) (by kernel_rfl) (by kernel_rfl) (fun _ _ _ h => h) hS (fun L W hL hW => by go_simp; rfl) ?_
  refine g_take (i := 14) rfl rfl (by kernel_rfl) (by kernel_rfl) (by kernel_rfl) (by kernel_rfl) (by kernel_rfl) (fun _ _ _ h => h) hS (fun L W hL hW => by go_simp; rfl) ?_
  refine g_takeG (i := 15) rfl (by simp only [Region.wanted, yielded]; go_simp) (by kernel_rfl) (by kernel_rfl) (by kernel_rfl) (by kernel_rfl) (by kernel_rfl) (fun _ _ _ h => h) hS (fun L W hL hW => Dr.run_load_row 24 (.tmp 13) rfl bx (by go_simp) 24 #[.int .u64 (ra1 : Nat), .int .u64 (ra2 : Nat), .int .u8 (ra3 : Nat)] _ _ ((HVx.out.below hW HVx.out.lt).out) Try.underlying24 rfl (by kernel_rfl)) ?_
  refine g_takeG (i := 16) rfl (by simp only [Region.wanted, yielded]; go_simp) (by kernel_rfl) (by kernel_rfl) (by kernel_rfl) (by kernel_rfl) (by kernel_rfl) (fun _ _ _ h => h) hS (fun L W hL hW => Dr.run_load_row 24 (.tmp 15) rfl by' (by go_simp) 24 #[.int .u64 (ra1 : Nat), .int .u64 (ra2 : Nat), .int .u8 (ra3 : Nat)] _ _ ((HVy.out.below hW HVy.out.lt).out) Try.underlying24 rfl (by kernel_rfl)) ?_
  refine g_takeG (i := 17) rfl (by simp only [Region.wanted, yielded]; go_simp) (by kernel_rfl) (by kernel_rfl) (by kernel_rfl) (by kernel_rfl) (by kernel_rfl) (fun _ _ _ h => h) hS (fun L W hL hW => by go_simp; rfl) ?_
  refine g_take (i := 18) rfl rfl (by kernel_rfl) (by kernel_rfl) (by kernel_rfl) (by kernel_rfl) (by kernel_rfl) (fun _ _ _ h => h) hS (fun L W hL hW => by go_simp; rfl) ?_
  refine g_take (i := 19) rfl rfl (by kernel_rfl) (by kernel_rfl) (by kernel_rfl) (by kernel_rfl) (by kernel_rfl) (fun _ _ _ h => h) hS (fun L W hL hW => by go_simp; rfl) ?_
  refine g_takeG (i := 20) rfl (by simp only [Region.wanted, yielded]; go_simp) (by kernel_rfl) (by kernel_rfl) (by kernel_rfl) (by kernel_rfl) (by kernel_rfl) (fun _ _ _ h => h) hS (fun L W hL hW => by go_simp; rfl) ?_
  refine g_takeG (i := 21) rfl (by simp only [Region.wanted, yielded]; go_simp) (by kernel_rfl) (by kernel_rfl) (by kernel_rfl) (by kernel_rfl) (by kernel_rfl) (fun _ _ _ h => h) hS (fun L W hL hW => by go_simp; rfl) ?_
  refine g_takeG (i := 22) rfl (by simp only [Region.wanted, yielded]; go_simp) (by kernel_rfl) (by kernel_rfl) (by kernel_rfl) (by kernel_rfl) (by kernel_rfl) (fun _ _ _ h => h) hS (fun L W hL hW => by go_simp; rfl) ?_
  refine g_take (i := 23) rfl rfl (by kernel_rfl) (by kernel_rfl) (by kernel_rfl) (by kernel_rfl) (by kernel_rfl) (fun _ _ _ h => h) hS (fun L W hL hW => by go_simp; rfl) ?_
  refine g_take (i := 24) rfl rfl (by kernel_rfl) (by kernel_rfl) (by kernel_rfl) (by kernel_rfl) (by kernel_rfl) (fun _ _ _ h => h) hS (fun L W hL hW => by go_simp; rfl) ?_
  refine g_takeG (i := 25) rfl (by simp only [Region.wanted, yielded]; go_simp) (by kernel_rfl) (by kernel_rfl) (by kernel_rfl) (by kernel_rfl) (by kernel_rfl) (fun _ _ _ h => h) hS (fun L W hL hW => Dr.run_load_row 24 (.tmp 17) rfl bp (by go_simp) 24 #[.int .u64 (pp1 : Nat), .int .u64 (pp2 : Nat), .int .u8 (pp3 : Nat)] _ _ ((HVp.out.below hW HVp.out.lt).out) Try.underlying24 rfl (by kernel_rfl)) ?_
  refine g_takeG (i := 26) rfl (by simp only [Region.wanted, yielded]; go_simp) (by kernel_rfl) (by kernel_rfl) (by kernel_rfl) (by kernel_rfl) (by kernel_rfl) (fun _ _ _ h => h) hS (fun L W hL hW => Dr.run_load_row 24 (.tmp 19) rfl bq (by go_simp) 24 #[.int .u64 (pp1 : Nat), .int .u64 (pp2 : Nat), .int .u8 (pp3 : Nat)] _ _ ((HVq.out.below hW HVq.out.lt).out) Try.underlying24 rfl (by kernel_rfl)) ?_
  refine g_takeG (i := 27) rfl (by simp only [Region.wanted, yielded]; go_simp) (by kernel_rfl) (by kernel_rfl) (by kernel_rfl) (by kernel_rfl) (by kernel_rfl) (fun _ _ _ h => h) hS (fun L W hL hW => by go_simp; rfl) ?_
  refine g_take (i := 28) rfl rfl (by kernel_rfl) (by kernel_rfl) (by kernel_rfl) (by kernel_rfl) (by kernel_rfl) (fun _ _ _ h => h) hS (fun L W hL hW => by go_simp; rfl) ?_
  refine g_take (i := 29) rfl rfl (by kernel_rfl) (by kernel_rfl) (by kernel_rfl) (by kernel_rfl) (by kernel_rfl) (fun _ _ _ h => h) hS (fun L W hL hW => by go_simp; rfl) ?_
  refine g_takeG (i := 30) rfl (by simp only [Region.wanted, yielded]; go_simp) (by kernel_rfl) (by kernel_rfl) (by kernel_rfl) (by kernel_rfl) (by kernel_rfl) (fun _ _ _ h => h) hS (fun L W hL hW => Dr.run_load_row 24 (.tmp 4) rfl w.heap.size (by go_simp) 24 #[.int .u64 (sa : Nat), .int .u64 (sb : Nat), .int .u8 (sc : Nat)] _ _ ((HBX.out.below hW HBX.out.lt).out) Try.underlying24 rfl (by kernel_rfl)) ?_
  refine g_takeG (i := 32) rfl (by simp only [Region.wanted, yielded]; go_simp) (by kernel_rfl) (by kernel_rfl) (by kernel_rfl) (by kernel_rfl) (by kernel_rfl) (fun _ _ _ h => h) hS (fun L W hL hW => Dr.run_load_row 24 (.tmp 4) rfl w.heap.size (by go_simp) 24 #[.int .u64 (sa : Nat), .int .u64 (sb : Nat), .int .u8 (sc : Nat)] _ _ ((HBX.out.below hW HBX.out.lt).out) Try.underlying24 rfl (by kernel_rfl)) ?_
  refine g_one (i := 31) rfl (by simp only [Region.wanted, yielded]; go_simp) (by kernel_rfl) fun K hK => ?_
  go_simp
  refine Calls.mono (HdW.right_any sa sb sc _) ?_
  rintro en y7 ⟨rfl, hb7⟩
  have hS := hS.trans (hb7.mono hS.size)
  clear hb7
  refine hK _ _ hS ?_
  clear hK K
  refine g_one (i := 33) rfl (by simp only [Region.wanted, yielded]; go_simp) (by kernel_rfl) fun K hK => ?_
  go_simp
  refine Calls.mono (rright sa sb sc hsa hsc _) ?_
  rintro en y8 ⟨rfl, hb8⟩
  have hS := hS.trans (hb8.mono hS.size)
  clear hb8
  refine hK _ _ hS ?_
  clear hK K
  refine g_takeG (i := 34) rfl (by simp only [Region.wanted, yielded]; go_simp) (by kernel_rfl) (by kernel_rfl) (by kernel_rfl) (by kernel_rfl) (by kernel_rfl) (fun _ _ _ h => h) hS (fun L W hL hW => by go_simp; rfl) ?_
  refine g_take (i := 35) rfl rfl (by kernel_rfl) (by kernel_rfl) (by kernel_rfl) (by kernel_rfl) (by kernel_rfl) (fun _ _ _ h => h) hS (fun L W hL hW => by go_simp; rfl) ?_
  refine wpAnyG_done (by kernel_rfl) ?_ _
  go_simp
  have HB18 := Lib.hid (HB.out.trans (hS.mono HB.out.size))
  clear hS HB HBX HJ3 HJ4 HVx HVy HVp HVq hq1 hq2
  go_wp2_with fail
  have HN := Lib.hid (Dk.new_any 100 (by omega) y8)
  simp only [Int.cast_ofNat_Int] at HN
  refine Calls.mono HN.out ?_
  rintro en w19 ⟨rfl, hA1, hB1⟩
  have HA1 := Lib.hid (at_base hA1 HB18.out.size)
  have HB19 := Lib.hid (HB18.out.trans (hB1.mono HB18.out.size))
  have hge : w.heap.size ≤ y8.heap.size := HB18.out.size
  generalize hg : y8.heap.size = g at *
  have HR := Lib.hid (Dr.rnew (w := w19) (F := fun j => j = g) (fun j hj => (HA1.out.lt hj).2) 100)
  simp only [Int.cast_ofNat_Int] at HR
  clear hA1 hB1 HN hg HB18
  go_wp2_with fail
  refine Calls.mono HR.out ?_
  rintro en w20 ⟨⟨v2, cl2, k2, rfl, hrv⟩, hb2⟩
  unfold Dr.rval Dr.rcells
  have HT0 : Hid (TR w (w20.alloc (.cells (rcells (newD 100) v2 cl2 k2) 69)) (fun j => j = g) g (newD 100) w20.heap.size v2 cl2 k2) := Lib.hid (by
    have h8 : Below w20.heap.size w20 (w20.alloc (.cells (rcells (newD 100) v2 cl2 k2) 69)) := (Below.refl _ w20).alloc (Nat.le_refl _) _
    have hgl : g < w19.heap.size := (HA1.out.lt (k := g) rfl).2
    have hs2 := hb2.size
    have hs1 := HB19.out.size
    refine ⟨(HA1.out.below hb2).below h8, Blk.new_ w20 _ _ rfl, by omega, fun e => by omega, (hrv.less ?_).below h8, (HB19.out.trans (hb2.mono hs1)).trans (h8.mono (by omega))⟩
    intro j hj
    rcases hj with hj | hj
    · exact .inl hj
    · exact .inr (Nat.le_of_eq hj.symm))
  clear HA1 HB19 hb2 hrv HR
  go_upto_region 15 with fail
  change Code.wp _ _ _ _ (w20.alloc (.cells (rcells (newD 100) v2 cl2 k2) 69))
  generalize w20.alloc (.cells (rcells (newD 100) v2 cl2 k2) 69) = w21 at *
  generalize w20.heap.size = bm at *
  have HS0 : Hid (∃ F s v cl k, TR w w21 F g s bm v cl k) := Lib.hid ⟨_, _, _, _, _, HT0.out⟩
  clear HT0
  have h30' : (n2 : Int) ≤ 30 := by omega
  go_wp2_with fail
  go_loopw [121] (fun i wr => ∃ j : Nat, j ≤ n2 ∧ i = .int .i64 j ∧ Hid (∃ F s v cl k, TR w wr F g s bm v cl k)) (fun i _ => n2 - (intOf i).toNat)
  case atStart => exact ⟨0, Nat.zero_le _, rfl, HS0⟩
  case round =>
    obtain ⟨j, hj, rfl, HS⟩ := hrel
    clear HS0
    by_cases hlt : j < n2
    · obtain ⟨F, s, v, cl, k, hT⟩ := HS.out
      have hIw := HI.out
      obtain ⟨b, off, rfl, hb, x, a, e, l, n, keep, hx, ha, he, hl, hn2, hkp, hcell0⟩ := hIw j (by omega)
      have hcell : ∀ i u, (callC x a e l n keep)[i]? = some u → wr.cell? ⟨b, off + j * 9 + i, none⟩ = some u := fun i u hu => (hT.low.cell (p := ⟨b, _, none⟩) hb).trans (hcell0 i u hu)
      have p0 := hcell 0 _ rfl
      have p1 := hcell 1 _ rfl
      have p2 := hcell 2 _ rfl
      have p3 := hcell 3 _ rfl
      have p4 := hcell 4 _ rfl
      have p5 := hcell 5 _ rfl
      have p6 := hcell 6 _ rfl
      have p7 := hcell 7 _ rfl
      have p8 := hcell 8 _ rfl
      simp only [Nat.add_zero] at p0
      have i1 : (0 : Int) ≤ (j : Int) := by omega
      have i2 : (j : Int) < (n2 : Int) := by omega
      have hT0 := hT.open_ #[.int .u8 (x : Int), .int .u64 (a : Int), .int .u64 (e : Int), .int .u8 (l : Int), .int .i64 n, .int .i64 (keep 0), .int .i64 (keep 1), .int .i64 (keep 2), .int .i64 (keep 3)]
      have HOK := Lib.hid hT.at_.ok
      have HKP := Lib.hid hkp
      clear hcell hcell0 hT HS hkp hb hIw
      go_upto_region 20 with fail
      clear p0 p1 p2 p3 p4 p5 p6 p7 p8
      generalize ((wr.alloc (.cells #[.int .u8 (x : Int), .int .u64 (a : Int), .int .u64 (e : Int), .int .u8 (l : Int), .int .i64 n, .int .i64 (keep 0), .int .i64 (keep 1), .int .i64 (keep 2), .int .i64 (keep 3)] 72)).alloc (.cells #[.int .u64 0, .int .u64 0, .int .u8 0] 24)).alloc (.cells #[.int .u64 0, .int .u64 0, .int .u8 0] 24) = w0 at *
      generalize hb5 : wr.heap.size = b5 at *
      generalize hb6 : b5 + 1 = b6 at *
      generalize hb7 : b6 + 1 = b7 at *
      have HT0 := Lib.hid hT0
      clear hT0 hb5 hb6 hb7
      have q0 := HT0.out.x5.1.at_ 0 rfl
      go_upto_block 2 with fail
      go_cut [28, 29] (fun v8 v9 wx => Mid w g bm b5 b6 b7 #[.int .u8 (x : Int), .int .u64 (a : Int), .int .u64 (e : Int), .int .u8 (l : Int), .int .i64 n, .int .i64 (keep 0), .int .i64 (keep 1), .int .i64 (keep 2), .int .i64 (keep 3)] v8 v9 wx)
      case first =>
        by_cases hx0 : x = 0
        · have f0 : ((x : Int) == 0) = true := by rw [hx0]; rfl
          clear hx0
          as_aux_lemma =>
            have q1 := HT0.out.x5.1.at_ 1 rfl
            have q2 := HT0.out.x5.1.at_ 2 rfl
            have q3 := HT0.out.x5.1.at_ 3 rfl
            obtain ⟨a1, ha1⟩ : ∃ a1, a1 = (a + 1) % 18446744073709551616 := ⟨_, rfl⟩
            have HA1 := Lib.hid ha1
            clear ha1
            have HCP := Lib.hid (HdW.save_any HT0.out.at_ a e l a1 HA1.out ha he hl)
            go_wp2_with fail
            clear q1 q2 q3
            refine Calls.mono HCP.out ?_
            rintro en w1 ⟨rfl, hn⟩
            obtain ⟨F1, hT1⟩ := HT0.out.prog hn
            have HT1 := Lib.hid hT1
            clear hn hT1 HT0 HCP
            have HSR : Hid (saveR s ⟨a1, e, l⟩ = saveR s ⟨a1, e, l⟩) := Lib.hid rfl
            have HCR0 : Hid (∀ (W : World) (G : Nat → Prop), Ok s → RV W G s v cl k → (∀ j, G j → j < W.heap.size) → Calls Try.prog 28 #[rval s v cl k, .agg #[.int .u64 a, .int .u64 e, .int .u8 l]] W (Saved G (saveR s ⟨a1, e, l⟩) W)) := Lib.hid (fun W G ok hr hG => rsave ok hr hG a e l a1 HA1.out ha he hl)
            clear HA1 HSR
            generalize saveR s ⟨a1, e, l⟩ = r at *
            go_upto_region 25 with (refine wpList_put_row rfl rfl 24 (.tmp 26) _ rfl b6 rfl 24 _ (hv r.1.1) rfl HT1.out.x6.1 (by kernel_rfl) rfl (hv_one _) ?_)
            have HT2 := Lib.hid (HT1.out.set6 r.1.1)
            clear HT1
            generalize w1.setRow b6 (hv r.1.1) = w2 at *
            obtain ⟨X, hX⟩ : ∃ X, X = rcells s v cl k := ⟨_, rfl⟩
            have HX := Lib.hid hX
            have HBX : Hid (Blk w2 bm 69 X) := Lib.hid (by rw [hX]; exact HT2.out.box)
            clear hX
            have q1 := HT2.out.x5.1.at_ 1 rfl
            have q2 := HT2.out.x5.1.at_ 2 rfl
            have q3 := HT2.out.x5.1.at_ 3 rfl
            have HCR := Lib.hid (HCR0.out w2 _ HOK.out HT2.out.rv HT2.out.lt)
            unfold Dr.rval at HCR
            rw [← HX.out] at HCR
            go_wp2_with (refine wpList_load_row rfl 69 (.tmp 23) rfl bm rfl 69 X _ _ HBX.out.out Try.underlying69 rfl (by rw [Dr.rx_size HX.out]; kernel_rfl) ?_)
            clear q1 q2 q3
            refine Calls.mono HCR.out ?_
            rintro en w3 ⟨⟨v3, cl3, k3, rfl, hrv⟩, hb3⟩
            obtain ⟨X2, hX2⟩ : ∃ X2, X2 = rcells r.2 v3 cl3 k3 := ⟨_, rfl⟩
            unfold Dr.rval
            rw [← hX2]
            have HX2 := Lib.hid hX2
            have HT3 := Lib.hid (HT2.out.ref hb3 hrv hX2)
            have HBX2 := Lib.hid (HBX.out.below hb3 HBX.out.lt)
            clear hX2 hrv hb3 HT2 HCR HCR0 HBX
            have HFI : Hid (Mid w g bm b5 b6 b7 #[.int .u8 (x : Int), .int .u64 (a : Int), .int .u64 (e : Int), .int .u8 (l : Int), .int .i64 n, .int .i64 (keep 0), .int .i64 (keep 1), .int .i64 (keep 2), .int .i64 (keep 3)] (.int .i64 (r.1.2 : Nat)) (.int .i64 (r.1.2 : Nat)) ((w3.setRow bm X2).setRow b7 (hv r.1.1))) := Lib.hid ⟨_, rfl, r.1.2, r.1.1, _, _, _, _, _, rfl, rfl, HT3.out.set7 r.1.1⟩
            go_wp2_with (first | (refine wpList_put_row rfl rfl 69 (.tmp 23) _ rfl bm rfl 69 X X2 rfl HBX2.out (by rw [Dr.rx_size HX2.out]; kernel_rfl) (by rw [Dr.rx_size HX.out, Dr.rx_size HX2.out]) (Dr.rx_one HX2.out) ?_) | (refine wpList_put_row rfl rfl 24 (.tmp 27) _ rfl b7 rfl 24 _ (hv r.1.1) rfl HT3.out.x7.1 (by kernel_rfl) rfl (hv_one _) ?_))
            go_meet
            exact HFI.out
        have f0 : ((x : Int) == 0) = false := by rw [beq_eq_false_iff_ne]; omega
        by_cases hx1 : x = 1
        · have f1 : ((x : Int) == 1) = true := by rw [hx1]; rfl
          clear hx0 hx1
          as_aux_lemma =>
            have HCP := Lib.hid (HdW.load_any HT0.out.at_)
            go_wp2_with fail
            refine Calls.mono HCP.out ?_
            rintro en w1 ⟨rfl, hn⟩
            obtain ⟨F1, hT1⟩ := HT0.out.prog hn
            have HT1 := Lib.hid hT1
            clear hn hT1 HT0 HCP
            have HCR0 : Hid (∀ (W : World) (G : Nat → Prop), Ok s → RV W G s v cl k → Calls Try.prog 29 #[rval s v cl k] W fun e w' => e = .returned (.tuple #[.agg (hv (loadR s).1), .int .i64 ((loadR s).2 : Nat)]) ∧ Below W.heap.size W w') := Lib.hid (fun W G ok hr => rload ok hr)
            generalize loadR s = r at *
            go_upto_region 28 with (refine wpList_put_row rfl rfl 24 (.tmp 26) _ rfl b6 rfl 24 _ (hv r.1) rfl HT1.out.x6.1 (by kernel_rfl) rfl (hv_one _) ?_)
            have HT2 := Lib.hid (HT1.out.set6 r.1)
            clear HT1
            generalize w1.setRow b6 (hv r.1) = w2 at *
            obtain ⟨X, hX⟩ : ∃ X, X = rcells s v cl k := ⟨_, rfl⟩
            have HX := Lib.hid hX
            have HBX : Hid (Blk w2 bm 69 X) := Lib.hid (by rw [hX]; exact HT2.out.box)
            clear hX
            have HCR := Lib.hid (HCR0.out w2 _ HOK.out HT2.out.rv)
            unfold Dr.rval at HCR
            rw [← HX.out] at HCR
            go_wp2_with (refine wpList_load_row rfl 69 (.tmp 23) rfl bm rfl 69 X _ _ HBX.out.out Try.underlying69 rfl (by rw [Dr.rx_size HX.out]; kernel_rfl) ?_)
            refine Calls.mono HCR.out ?_
            rintro en w3 ⟨rfl, hb3⟩
            have HT3 := Lib.hid (HT2.out.below hb3)
            clear hb3 HT2 HCR HCR0 HBX
            have HFI : Hid (Mid w g bm b5 b6 b7 #[.int .u8 (x : Int), .int .u64 (a : Int), .int .u64 (e : Int), .int .u8 (l : Int), .int .i64 n, .int .i64 (keep 0), .int .i64 (keep 1), .int .i64 (keep 2), .int .i64 (keep 3)] (.int .i64 (r.2 : Nat)) (.int .i64 (r.2 : Nat)) (w3.setRow b7 (hv r.1))) := Lib.hid ⟨_, rfl, r.2, r.1, _, _, _, _, _, rfl, rfl, HT3.out.set7 r.1⟩
            go_wp2_with (refine wpList_put_row rfl rfl 24 (.tmp 27) _ rfl b7 rfl 24 _ (hv r.1) rfl HT3.out.x7.1 (by kernel_rfl) rfl (hv_one _) ?_)
            go_meet
            exact HFI.out
        have f1 : ((x : Int) == 1) = false := by rw [beq_eq_false_iff_ne]; omega
        by_cases hx2 : x = 2
        · have f2 : ((x : Int) == 2) = true := by rw [hx2]; rfl
          clear hx0 hx1 hx2
          as_aux_lemma =>
            have q4 := HT0.out.x5.1.at_ 4 rfl
            have HCP := Lib.hid (Dk.fuse_any HT0.out.at_ n n hn2.2 hn2.2)
            go_wp2_with fail
            clear q4
            refine Calls.mono HCP.out ?_
            rintro en w1 ⟨⟨vv, rfl⟩, hn⟩
            obtain ⟨F1, hT1⟩ := HT0.out.prog hn
            have HT2 := Lib.hid hT1
            clear hn hT1 HT0 HCP
            go_upto_region 31 with fail
            obtain ⟨X, hX⟩ : ∃ X, X = rcells s v cl k := ⟨_, rfl⟩
            have HX := Lib.hid hX
            have HBX : Hid (Blk w1 bm 69 X) := Lib.hid (by rw [hX]; exact HT2.out.box)
            clear hX
            have q4 := HT2.out.x5.1.at_ 4 rfl
            have HCR := Lib.hid (Dr.rfuse HT2.out.rv HT2.out.lt n n)
            unfold Dr.rval at HCR
            rw [← HX.out] at HCR
            go_wp2_with (refine wpList_load_row rfl 69 (.tmp 23) rfl bm rfl 69 X _ _ HBX.out.out Try.underlying69 rfl (by rw [Dr.rx_size HX.out]; kernel_rfl) ?_)
            clear q4
            refine Calls.mono HCR.out ?_
            rintro en w3 ⟨⟨v3, cl3, k3, rfl, hrv⟩, hb3⟩
            obtain ⟨X2, hX2⟩ : ∃ X2, X2 = rcells (fuseD n n s) v3 cl3 k3 := ⟨_, rfl⟩
            unfold Dr.rval
            rw [← hX2]
            have HX2 := Lib.hid hX2
            have HT3 := Lib.hid (HT2.out.ref hb3 hrv hX2)
            have HBX2 := Lib.hid (HBX.out.below hb3 HBX.out.lt)
            clear hX2 hrv hb3 HT2 HCR HBX
            have HFI : Hid (Mid w g bm b5 b6 b7 #[.int .u8 (x : Int), .int .u64 (a : Int), .int .u64 (e : Int), .int .u8 (l : Int), .int .i64 n, .int .i64 (keep 0), .int .i64 (keep 1), .int .i64 (keep 2), .int .i64 (keep 3)] (.int .i64 0) (.int .i64 0) (w3.setRow bm X2)) := Lib.hid ⟨_, rfl, 0, Hd.none_, _, _, _, _, _, rfl, rfl, HT3.out⟩
            go_wp2_with (refine wpList_put_row rfl rfl 69 (.tmp 23) _ rfl bm rfl 69 X X2 rfl HBX2.out (by rw [Dr.rx_size HX2.out]; kernel_rfl) (by rw [Dr.rx_size HX.out, Dr.rx_size HX2.out]) (Dr.rx_one HX2.out) ?_)
            go_meet
            exact HFI.out
        · have f2 : ((x : Int) == 2) = false := by rw [beq_eq_false_iff_ne]; omega
          clear hx0 hx1 hx2
          as_aux_lemma =>
            have q5 := HT0.out.x5.1.at_ 5 rfl
            have q6 := HT0.out.x5.1.at_ 6 rfl
            have q7 := HT0.out.x5.1.at_ 7 rfl
            have q8 := HT0.out.x5.1.at_ 8 rfl
            have HCP := Lib.hid (Dk.crash_any HT0.out.at_ keep HKP.out)
            go_wp2_with fail
            clear q5 q6 q7 q8
            refine Calls.mono HCP.out ?_
            rintro en w1 ⟨⟨vv, rfl⟩, hn⟩
            obtain ⟨F1, hT1⟩ := HT0.out.prog hn
            have HT2 := Lib.hid hT1
            clear hn hT1 HT0 HCP
            go_upto_region 22 with fail
            obtain ⟨X, hX⟩ : ∃ X, X = rcells s v cl k := ⟨_, rfl⟩
            have HX := Lib.hid hX
            have HBX : Hid (Blk w1 bm 69 X) := Lib.hid (by rw [hX]; exact HT2.out.box)
            clear hX
            have q5 := HT2.out.x5.1.at_ 5 rfl
            have q6 := HT2.out.x5.1.at_ 6 rfl
            have q7 := HT2.out.x5.1.at_ 7 rfl
            have q8 := HT2.out.x5.1.at_ 8 rfl
            have HCR := Lib.hid (Dr.rcrash HOK.out HT2.out.rv HT2.out.lt keep HKP.out)
            unfold Dr.rval at HCR
            rw [← HX.out] at HCR
            go_wp2_with (refine wpList_load_row rfl 69 (.tmp 23) rfl bm rfl 69 X _ _ HBX.out.out Try.underlying69 rfl (by rw [Dr.rx_size HX.out]; kernel_rfl) ?_)
            clear q5 q6 q7 q8
            refine Calls.mono HCR.out ?_
            rintro en w3 ⟨⟨v3, cl3, k3, rfl, hrv⟩, hb3⟩
            obtain ⟨X2, hX2⟩ : ∃ X2, X2 = rcells (crashD keep s) v3 cl3 k3 := ⟨_, rfl⟩
            unfold Dr.rval
            rw [← hX2]
            have HX2 := Lib.hid hX2
            have HT3 := Lib.hid (HT2.out.ref hb3 hrv hX2)
            have HBX2 := Lib.hid (HBX.out.below hb3 HBX.out.lt)
            clear hX2 hrv hb3 HT2 HCR HBX
            have HFI : Hid (Mid w g bm b5 b6 b7 #[.int .u8 (x : Int), .int .u64 (a : Int), .int .u64 (e : Int), .int .u8 (l : Int), .int .i64 n, .int .i64 (keep 0), .int .i64 (keep 1), .int .i64 (keep 2), .int .i64 (keep 3)] (.int .i64 0) (.int .i64 0) (w3.setRow bm X2)) := Lib.hid ⟨_, rfl, 0, Hd.none_, _, _, _, _, _, rfl, rfl, HT3.out⟩
            go_wp2_with (refine wpList_put_row rfl rfl 69 (.tmp 23) _ rfl bm rfl 69 X X2 rfl HBX2.out (by rw [Dr.rx_size HX2.out]; kernel_rfl) (by rw [Dr.rx_size HX.out, Dr.rx_size HX2.out]) (Dr.rx_one HX2.out) ?_)
            go_meet
            exact HFI.out
      case rest =>
        as_aux_lemma =>
          obtain ⟨w4, rfl, code, p, F4, s4, v4, cl4, k4, rfl, rfl, hT4⟩ := hcut
          have HT4 := Lib.hid hT4
          obtain ⟨X, hX4⟩ : ∃ X, X = rcells s4 v4 cl4 k4 := ⟨_, rfl⟩
          have HX4 := Lib.hid hX4
          have HBX4 : Hid (Blk w4 bm 69 X) := Lib.hid (by rw [hX4]; exact hT4.box)
          clear hT4 hX4 HT0 HOK HKP q0
          have hnq := fun W => neq_hv p W
          go_upto_region 32 with fail
          have HCS := Lib.hid (samedisk_any HT4.out.at_ HT4.out.rv)
          unfold Dr.rval at HCS
          rw [← HX4.out] at HCS
          go_wp2_with (first | (refine Dr.wpList_load_row_g (by simp only [Region.wanted, yielded]; go_simp) 24 (.tmp 26) rfl b6 rfl 24 (hv p) _ _ (HT4.out.x6.1.out) Try.underlying24 rfl (by kernel_rfl) ?_) | (refine Dr.wpList_load_row_g (by simp only [Region.wanted, yielded]; go_simp) 24 (.tmp 27) rfl b7 rfl 24 (hv p) _ _ (HT4.out.x7.1.out) Try.underlying24 rfl (by kernel_rfl) ?_) | (refine Dr.wpList_load_row_g (by simp only [Region.wanted, yielded]; go_simp) 69 (.tmp 23) rfl bm rfl 69 X _ _ (HBX4.out.out) Try.underlying69 rfl (by rw [Dr.rx_size HX4.out]; kernel_rfl) ?_))
          refine Calls.mono HCS.out ?_
          rintro en y9 ⟨rfl, hS⟩
          have HN : Hid (∃ F s v cl k, TR w y9 F g s bm v cl k) := Lib.hid ⟨_, _, _, _, _, HT4.out.shut.below hS⟩
          clear hS hnq HT4 HBX4 HX4 HCS
          go_wp2_with fail
          go_roundw
          case rel => exact ⟨j + 1, by omega, by go_num, HN⟩
          case measure => simp [intOf]; omega
    · have hjm : j = n2 := by omega
      subst hjm
      obtain ⟨F0, s0, v0, cl0, k0, hT⟩ := HS.out
      have HL := Lib.hid hT.low
      clear hT HS hlt
      go_wp2_with fail
      refine Calls.mono (HdW.awake_any _) ?_
      rintro en w9 ⟨rfl, hb⟩
      have HF := Lib.hid (HL.out.trans (hb.mono HL.out.size))
      clear HL hb
      go_wp2_with fail
      go_ret
      exact ⟨rfl, HF.out⟩
end Go.Proofs.Ytpohefpiidlnjaa.Hr
