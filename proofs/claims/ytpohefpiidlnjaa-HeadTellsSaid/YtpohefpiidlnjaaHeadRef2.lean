/-
  The walks of the document's heads: Read, Pick, Load, Save.
-/
import Derived.Test.YtpohefpiidlnjaaHeadRef1
import Derived.Test.YtpohefpiidlnjaaHeadRefPl
namespace Go.Proofs.Ytpohefpiidlnjaa.Hr
set_option linter.unusedVariables false
open Go Go.RowKit Go.Proofs Go.Proofs.Ytpohefpiidlnjaa Go.Proofs.Ytpohefpiidlnjaa.Wd
open Go.Proofs.Ytpohefpiidlnjaa.Hd (H Wf le8 un8 le8_length)
open Go.Proofs.Ytpohefpiidlnjaa.HdW (readR hv results_cell_row2)
theorem below_rowH {B : Nat} {w W : World} (h : Below B w W) {g : Nat} (hg : B ≤ g) (cs : Array Value) : Below B w (W.setRow g cs) := ⟨h.os, h.tape, h.output, by simpa using h.size, fun k hk => (setRow_other W g k cs (by omega)).trans (h.block k hk)⟩
theorem hv_one (h : H) : ∀ u ∈ (hv h).toList, u.oneCell' = true := by
  intro u hu
  simp only [HdW.hv, List.mem_cons, List.not_mem_nil, or_false] at hu
  rcases hu with rfl | rfl | rfl <;> rfl
/-- The box of a head that is read. -/
def Boxed (w : World) (h : H) (v4 : Value) (wx : World) : Prop := ∃ w1, w1 = wx ∧ ∃ r, v4 = .pointer (some ⟨r, 0, none⟩) ∧ Blk wx r 24 (hv h) ∧ w.heap.size ≤ r ∧ Below w.heap.size w wx
set_option maxRecDepth 100000 in
set_option maxHeartbeats 4000000 in
theorem rread (A : Option Addr) (c : Nat) (b : List UInt8) (n : Nat) (hn : n = b.length) (hc0 : n ≤ c) (hcm : c ≤ maxLen) (w : World) (hI : Bytes w w.heap.size A b) :
    Calls Try.prog 23 #[.slice A n c] w fun e w' => e = .returned (.tuple #[.agg (hv (readR b).1), .bool (readR b).2]) ∧ Below w.heap.size w w' := by
  unfold maxLen at hcm
  by_cases h32 : n = 32
  rotate_left
  · have HR : Hid (readR b = (Hd.none_, false)) := Lib.hid (by unfold HdW.readR Hd.read; rw [if_neg (fun h => h32 (hn.trans h.1))])
    have u1 : ((n : Int) == 32) = false := by rw [beq_eq_false_iff_ne]; omega
    have u2 : ¬ (n : Int) = 32 := by omega
    have u3 : ((n : Int) != 32) = true := by rw [bne_iff_ne]; omega
    clear h32 hn hI
    go_enter Try.func23, Try.ntmps23
    go_wp2_with fail
    refine bodyPost_ret (results_cell_row2 rfl _ _ w.heap.size 24 #[.int .u64 0, .int .u64 0, .int .u8 0] (0, 0) _ rfl (Blk.new_ w _ _ rfl).out Try.underlying24 rfl (by kernel_rfl)) rfl ?_
    rw [HR.out]
    exact ⟨rfl, (Below.refl _ w).alloc (Nat.le_refl _) _⟩
  subst h32
  have HB := Lib.hid hn.symm
  have hRES := Blk.new_ w 24 #[.int .u64 0, .int .u64 0, .int .u8 0] rfl
  have hB0 := (Below.refl w.heap.size w).alloc (Nat.le_refl _) (.cells #[.int .u64 0, .int .u64 0, .int .u8 0] 24)
  have hI0 := hI.grow hB0
  obtain ⟨bb, off, rfl, -, -⟩ := hI.at_ (j := 0) (by omega)
  have HRD := Lib.hid (read_doc hn.symm)
  clear hI hn
  go_enter Try.func23, Try.ntmps23
  go_upto_region 3 with fail
  generalize w.alloc (.cells #[.int .u64 0, .int .u64 0, .int .u8 0] 24) = w0 at *
  have HIW : Hid (∀ W, Below w0.heap.size w0 W → Bytes W W.heap.size (some ⟨bb, off, none⟩) b) := Lib.hid (fun W hW => hI0.grow hW)
  have HRES := Lib.hid hRES
  have HB0 := Lib.hid hB0
  clear hI0 hRES hB0
  have z1 : ¬ c = 8 := by omega
  have z2 : ¬ c = 0 := by omega
  have z3 : ¬ c = 24 := by omega
  have z4 : (16 : Int) ≤ (c : Int) := by omega
  have z5 : (32 : Int) ≤ (c : Int) := by omega
  have z6 : (8 : Int) ≤ (c : Int) := by omega
  go_cut [4] (fun v4 wx => Boxed w0 (Hd.seen b) v4 wx)
  case first =>
    have h16 : 16 < b.length := by rw [HB.out]; omega
    have HS9 : Hid (Below w0.heap.size w0 (w0.alloc (.cells #[.int .u64 (un8 (b.take 8) : Nat), .int .u64 (un8 ((b.take 16).drop 8) : Nat), .int .u8 (b[16].toNat : Nat)] 24)).drew) := Lib.hid ((Below.refl _ w0).alloc (Nat.le_refl _) _).drew
    have HBX : Hid (Boxed w0 (Hd.seen b) (.pointer (some ⟨w0.heap.size, 0, none⟩)) (w0.alloc (.cells #[.int .u64 (un8 (b.take 8) : Nat), .int .u64 (un8 ((b.take 16).drop 8) : Nat), .int .u8 (b[16].toNat : Nat)] 24)).drew) := Lib.hid ⟨_, rfl, _, rfl, by
      have e1 : un8 (b.take 8) = un8 b := un8_part b 0 8 (by omega)
      have e2 := un8_part b 8 16 (by omega)
      have e3 : (b.getD 16 0) = b[16] := by simp [h16]
      unfold HdW.hv Hd.seen
      rw [e1, e2, e3]
      exact (Blk.new_ w0 24 _ rfl).drew, Nat.le_refl _, HS9.out⟩
    refine wp_region_heldG [] (fun _ W => Below w0.heap.size w0 W) (by kernel_rfl) ?_
    change wpAnyG _ _ _ _ _ _ 12 _ _ (World.drew w0)
    have hS : Below w0.heap.size w0 w0.drew := (Below.refl _ w0).drew
    refine g_take (i := 0) rfl rfl (by kernel_rfl) (by kernel_rfl) (by kernel_rfl) (by kernel_rfl) (by kernel_rfl) (fun _ _ _ h => h) hS (fun L W hL hW => by go_simp; rfl) ?_
    refine g_take (i := 1) rfl rfl (by kernel_rfl) (by kernel_rfl) (by kernel_rfl) (by kernel_rfl) (by kernel_rfl) (fun _ _ _ h => h) hS (fun L W hL hW => by go_simp; rfl) ?_
    refine g_take (i := 3) rfl rfl (by kernel_rfl) (by kernel_rfl) (by kernel_rfl) (by kernel_rfl) (by kernel_rfl) (fun _ _ _ h => h) hS (fun L W hL hW => by go_simp; rfl) ?_
    refine g_take (i := 4) rfl rfl (by kernel_rfl) (by kernel_rfl) (by kernel_rfl) (by kernel_rfl) (by kernel_rfl) (fun _ _ _ h => h) hS (fun L W hL hW => by go_simp; rfl) ?_
    refine g_take (i := 6) rfl rfl (by kernel_rfl) (by kernel_rfl) (by kernel_rfl) (by kernel_rfl) (by kernel_rfl) (fun _ _ _ h => h) hS (fun L W hL hW => by go_simp; rfl) ?_
    refine g_take (i := 7) rfl rfl (by kernel_rfl) (by kernel_rfl) (by kernel_rfl) (by kernel_rfl) (by kernel_rfl) (fun _ _ _ h => h) hS (fun L W hL hW => by go_simp; rfl) ?_
    refine g_take (i := 8) rfl rfl (by kernel_rfl) (by kernel_rfl) (by kernel_rfl) (by kernel_rfl) (by kernel_rfl) (fun _ _ _ h => h) hS (fun L W hL hW => by obtain ⟨b9, o9, e9, -, q9⟩ := (HIW.out W hW).at_ h16; cases e9; go_simp; rfl) ?_
    refine g_two (i := 2) (j := 10) (by kernel_rfl) rfl rfl rfl rfl (fun K hK => ?_) (fun K hK => ?_)
    · go_simp
      refine Calls.mono (rnumber _ _ ((b.take 8).drop 0) (by simp [HB.out]) _ (Bytes.part (HIW.out _ hS) 0 8)) ?_
      rintro en y1 ⟨rfl, rfl⟩
      refine hK _ _ hS ?_
      clear hK K
      refine g_two (i := 5) (j := 10) (by kernel_rfl) rfl rfl rfl rfl (fun K hK => ?_) (fun K hK => ?_)
      · go_simp
        refine Calls.mono (rnumber _ _ ((b.take 16).drop 8) (by simp [HB.out]) _ (Bytes.part (HIW.out _ hS) 8 16)) ?_
        rintro en y1 ⟨rfl, rfl⟩
        refine hK _ _ hS ?_
        clear hK K
        refine g_take (i := 9) rfl rfl (by kernel_rfl) (by kernel_rfl) (by kernel_rfl) (by kernel_rfl) (by kernel_rfl) (fun _ _ _ h => h) hS (fun L W hL hW => by go_simp; rfl) ?_
        refine g_one (i := 10) rfl rfl (by kernel_rfl) fun K hK => ?_
        go_simp
        have hS := hS.alloc hS.size (.cells #[.int .u64 0, .int .u64 0, .int .u8 0] 24)
        refine hK _ _ hS ?_
        clear hK K
        refine g_one (i := 11) rfl rfl (by kernel_rfl) fun K hK => ?_
        go_simp
        refine hK _ _ HS9.out ?_
        clear hK K
        refine wpAnyG_done (by kernel_rfl) ?_ _
        go_simp
        go_wp2_with fail
        go_meet
        exact HBX.out
      · go_simp
        have hS := hS.alloc hS.size (.cells #[.int .u64 0, .int .u64 0, .int .u8 0] 24)
        refine hK _ _ hS ?_
        clear hK K
        refine g_one (i := 5) rfl rfl (by kernel_rfl) fun K hK => ?_
        go_simp
        refine Calls.mono (rnumber _ _ ((b.take 16).drop 8) (by simp [HB.out]) _ (Bytes.part (HIW.out _ hS) 8 16)) ?_
        rintro en y1 ⟨rfl, rfl⟩
        refine hK _ _ hS ?_
        clear hK K
        refine g_take (i := 9) rfl rfl (by kernel_rfl) (by kernel_rfl) (by kernel_rfl) (by kernel_rfl) (by kernel_rfl) (fun _ _ _ h => h) hS (fun L W hL hW => by go_simp; rfl) ?_
        refine g_one (i := 11) rfl rfl (by kernel_rfl) fun K hK => ?_
        go_simp
        refine hK _ _ HS9.out ?_
        clear hK K
        refine wpAnyG_done (by kernel_rfl) ?_ _
        go_simp
        go_wp2_with fail
        go_meet
        exact HBX.out
    · go_simp
      have hS := hS.alloc hS.size (.cells #[.int .u64 0, .int .u64 0, .int .u8 0] 24)
      refine hK _ _ hS ?_
      clear hK K
      refine g_one (i := 2) rfl rfl (by kernel_rfl) fun K hK => ?_
      go_simp
      refine Calls.mono (rnumber _ _ ((b.take 8).drop 0) (by simp [HB.out]) _ (Bytes.part (HIW.out _ hS) 0 8)) ?_
      rintro en y1 ⟨rfl, rfl⟩
      refine hK _ _ hS ?_
      clear hK K
      refine g_one (i := 5) rfl rfl (by kernel_rfl) fun K hK => ?_
      go_simp
      refine Calls.mono (rnumber _ _ ((b.take 16).drop 8) (by simp [HB.out]) _ (Bytes.part (HIW.out _ hS) 8 16)) ?_
      rintro en y1 ⟨rfl, rfl⟩
      refine hK _ _ hS ?_
      clear hK K
      refine g_take (i := 9) rfl rfl (by kernel_rfl) (by kernel_rfl) (by kernel_rfl) (by kernel_rfl) (by kernel_rfl) (fun _ _ _ h => h) hS (fun L W hL hW => by go_simp; rfl) ?_
      refine g_one (i := 11) rfl rfl (by kernel_rfl) fun K hK => ?_
      go_simp
      refine hK _ _ HS9.out ?_
      clear hK K
      refine wpAnyG_done (by kernel_rfl) ?_ _
      go_simp
      go_wp2_with fail
      go_meet
      exact HBX.out
  case rest =>
  obtain ⟨w1, rfl, r, rfl, hbx, hr, hlow⟩ := hcut
  have HBX := Lib.hid hbx
  have HBL := Lib.hid (HB0.out.trans (hlow.mono HB0.out.size))
  have HRS := Lib.hid (HRES.out.below hlow HRES.out.lt)
  have HIX : Hid (∀ W, Below w1.heap.size w1 W → Bytes W W.heap.size (some ⟨bb, off, none⟩) b) := Lib.hid (fun W hW => HIW.out W (hlow.trans (hW.mono hlow.size)))
  clear hbx hr hlow HIW HRES HB0
  have wf := Hd.seen_wf b
  have HRT := Lib.hid (fun W => rright (un8 b) (Hd.seen b).epoch (Hd.seen b).live wf.1 wf.3 W)
  go_upto_region 4 with fail
  go_cut [5] (fun v5 wx => ∃ w2, w2 = wx ∧ v5 = .bool (okR b) ∧ Below w1.heap.size w1 w2)
  case first =>
    refine wp_region_heldG [] (fun _ W => Below w1.heap.size w1 W) (by kernel_rfl) ?_
    change wpAnyG _ _ _ _ _ _ 11 _ _ (World.drew w1)
    have hS : Below w1.heap.size w1 w1.drew := (Below.refl _ w1).drew
    rcases hrt : Hd.right (Hd.seen b) with _ | _
    · have HOK : Hid (okR b = false) := Lib.hid (by unfold okR; rw [hrt]; rfl)
      have hrt2 : Hd.right ⟨un8 b, (Hd.seen b).epoch, (Hd.seen b).live⟩ = false := hrt
      rw [hrt2] at HRT
      clear hrt hrt2 wf
      -- take0 one1 take2 take3G take4G take6G take7G one5G take8G take9 take10 done
      refine g_take (i := 0) rfl rfl (by kernel_rfl) (by kernel_rfl) (by kernel_rfl) (by kernel_rfl) (by kernel_rfl) (fun _ _ _ h => h) hS (fun L W hL hW => by have q9 := HBX.out.below hW HBX.out.lt; have c0 : W.cell? ⟨r, 0, none⟩ = some (.int .u64 (un8 b : Nat)) := q9.at_ 0 rfl; have c1 : W.cell? ⟨r, 1, none⟩ = some (.int .u64 ((Hd.seen b).epoch : Nat)) := q9.at_ 1 rfl; have c2 : W.cell? ⟨r, 2, none⟩ = some (.int .u8 ((Hd.seen b).live : Nat)) := q9.at_ 2 rfl; go_simp; rfl) ?_
      refine g_one (i := 1) rfl rfl (by kernel_rfl) fun K hK => ?_
      go_simp
      refine Calls.mono (HRT.out _) ?_
      rintro en y5 ⟨rfl, hb5⟩
      have hS := hS.trans (hb5.mono hS.size)
      refine hK _ _ hS ?_
      clear hK K
      refine g_take (i := 2) rfl rfl (by kernel_rfl) (by kernel_rfl) (by kernel_rfl) (by kernel_rfl) (by kernel_rfl) (fun _ _ _ h => h) hS (fun L W hL hW => by go_simp; rfl) ?_
      refine g_skip (i := 3) rfl (by simp only [Region.wanted, yielded]; go_simp) (by kernel_rfl) (by kernel_rfl) (by kernel_rfl) (by kernel_rfl) (by kernel_rfl) (fun _ _ _ h => h) hS ?_
      refine g_skip (i := 4) rfl (by simp only [Region.wanted, yielded]; go_simp) (by kernel_rfl) (by kernel_rfl) (by kernel_rfl) (by kernel_rfl) (by kernel_rfl) (fun _ _ _ h => h) hS ?_
      refine g_skip (i := 6) rfl (by simp only [Region.wanted, yielded]; go_simp) (by kernel_rfl) (by kernel_rfl) (by kernel_rfl) (by kernel_rfl) (by kernel_rfl) (fun _ _ _ h => h) hS ?_
      refine g_skip (i := 7) rfl (by simp only [Region.wanted, yielded]; go_simp) (by kernel_rfl) (by kernel_rfl) (by kernel_rfl) (by kernel_rfl) (by kernel_rfl) (fun _ _ _ h => h) hS ?_
      refine g_skip (i := 5) rfl (by simp only [Region.wanted, yielded]; go_simp) (by kernel_rfl) (by kernel_rfl) (by kernel_rfl) (by kernel_rfl) (by kernel_rfl) (fun _ _ _ h => h) hS ?_
      refine g_skip (i := 8) rfl (by simp only [Region.wanted, yielded]; go_simp) (by kernel_rfl) (by kernel_rfl) (by kernel_rfl) (by kernel_rfl) (by kernel_rfl) (fun _ _ _ h => h) hS ?_
      refine g_take (i := 9) rfl rfl (by kernel_rfl) (by kernel_rfl) (by kernel_rfl) (by kernel_rfl) (by kernel_rfl) (fun _ _ _ h => h) hS (fun L W hL hW => by go_simp; rfl) ?_
      refine g_take (i := 10) rfl rfl (by kernel_rfl) (by kernel_rfl) (by kernel_rfl) (by kernel_rfl) (by kernel_rfl) (fun _ _ _ h => h) hS (fun L W hL hW => by go_simp; rfl) ?_
      refine wpAnyG_done (by kernel_rfl) ?_ _
      go_simp
      go_wp2_with fail
      go_meet
      exact ⟨_, rfl, by rw [HOK.out], hS⟩
    · have hrt2 : Hd.right ⟨un8 b, (Hd.seen b).epoch, (Hd.seen b).live⟩ = true := hrt
      rw [hrt2] at HRT
      by_cases hq : un8 (b.drop 24) = un8 b
      · have HOK : Hid (okR b = true) := Lib.hid (by unfold okR; rw [hrt, hq]; simp)
        have hpq : un8 ((b.take 32).drop 24) = un8 b := (un8_part b 24 32 (by omega)).trans hq
        have HPQ := Lib.hid hpq
        clear hrt hrt2 wf hq hpq
        -- take0 one1 take2 take3G take4G take6G take7G one5G take8G take9 take10 done
        refine g_take (i := 0) rfl rfl (by kernel_rfl) (by kernel_rfl) (by kernel_rfl) (by kernel_rfl) (by kernel_rfl) (fun _ _ _ h => h) hS (fun L W hL hW => by have q9 := HBX.out.below hW HBX.out.lt; have c0 : W.cell? ⟨r, 0, none⟩ = some (.int .u64 (un8 b : Nat)) := q9.at_ 0 rfl; have c1 : W.cell? ⟨r, 1, none⟩ = some (.int .u64 ((Hd.seen b).epoch : Nat)) := q9.at_ 1 rfl; have c2 : W.cell? ⟨r, 2, none⟩ = some (.int .u8 ((Hd.seen b).live : Nat)) := q9.at_ 2 rfl; go_simp; rfl) ?_
        refine g_one (i := 1) rfl rfl (by kernel_rfl) fun K hK => ?_
        go_simp
        refine Calls.mono (HRT.out _) ?_
        rintro en y5 ⟨rfl, hb5⟩
        have hS := hS.trans (hb5.mono hS.size)
        refine hK _ _ hS ?_
        clear hK K
        refine g_take (i := 2) rfl rfl (by kernel_rfl) (by kernel_rfl) (by kernel_rfl) (by kernel_rfl) (by kernel_rfl) (fun _ _ _ h => h) hS (fun L W hL hW => by go_simp; rfl) ?_
        refine g_takeG (i := 3) rfl (by simp only [Region.wanted, yielded]; go_simp) (by kernel_rfl) (by kernel_rfl) (by kernel_rfl) (by kernel_rfl) (by kernel_rfl) (fun _ _ _ h => h) hS (fun L W hL hW => by go_simp; rfl) ?_
        refine g_takeG (i := 4) rfl (by simp only [Region.wanted, yielded]; go_simp) (by kernel_rfl) (by kernel_rfl) (by kernel_rfl) (by kernel_rfl) (by kernel_rfl) (fun _ _ _ h => h) hS (fun L W hL hW => by go_simp; rfl) ?_
        refine g_takeG (i := 6) rfl (by simp only [Region.wanted, yielded]; go_simp) (by kernel_rfl) (by kernel_rfl) (by kernel_rfl) (by kernel_rfl) (by kernel_rfl) (fun _ _ _ h => h) hS (fun L W hL hW => by go_simp; rfl) ?_
        refine g_takeG (i := 7) rfl (by simp only [Region.wanted, yielded]; go_simp) (by kernel_rfl) (by kernel_rfl) (by kernel_rfl) (by kernel_rfl) (by kernel_rfl) (fun _ _ _ h => h) hS (fun L W hL hW => by have q9 := HBX.out.below hW HBX.out.lt; have c0 : W.cell? ⟨r, 0, none⟩ = some (.int .u64 (un8 b : Nat)) := q9.at_ 0 rfl; have c1 : W.cell? ⟨r, 1, none⟩ = some (.int .u64 ((Hd.seen b).epoch : Nat)) := q9.at_ 1 rfl; have c2 : W.cell? ⟨r, 2, none⟩ = some (.int .u8 ((Hd.seen b).live : Nat)) := q9.at_ 2 rfl; go_simp; rfl) ?_
        refine g_one (i := 5) rfl (by simp only [Region.wanted, yielded]; go_simp) (by kernel_rfl) fun K hK => ?_
        go_simp
        refine Calls.mono (rnumber _ _ ((b.take 32).drop 24) (by simp [HB.out]) _ (Bytes.part (HIX.out _ hS) 24 32)) ?_
        rintro en y1 ⟨rfl, rfl⟩
        rw [HPQ.out]
        refine hK _ _ hS ?_
        clear hK K
        refine g_takeG (i := 8) rfl (by simp only [Region.wanted, yielded]; go_simp) (by kernel_rfl) (by kernel_rfl) (by kernel_rfl) (by kernel_rfl) (by kernel_rfl) (fun _ _ _ h => h) hS (fun L W hL hW => by go_simp; rfl) ?_
        refine g_take (i := 9) rfl rfl (by kernel_rfl) (by kernel_rfl) (by kernel_rfl) (by kernel_rfl) (by kernel_rfl) (fun _ _ _ h => h) hS (fun L W hL hW => by go_simp; rfl) ?_
        refine g_take (i := 10) rfl rfl (by kernel_rfl) (by kernel_rfl) (by kernel_rfl) (by kernel_rfl) (by kernel_rfl) (fun _ _ _ h => h) hS (fun L W hL hW => by go_simp; rfl) ?_
        refine wpAnyG_done (by kernel_rfl) ?_ _
        go_simp
        go_wp2_with fail
        go_meet
        exact ⟨_, rfl, by rw [HOK.out], hS⟩
      · have HOK : Hid (okR b = false) := Lib.hid (by unfold okR; rw [hrt]; simp [hq])
        have hpq : ¬ un8 ((b.take 32).drop 24) = un8 b := fun e => hq ((un8_part b 24 32 (by omega)).symm.trans e)
        have HPN := Lib.hid hpq
        clear hrt hrt2 wf hq hpq
        -- take0 one1 take2 take3G take4G take6G take7G one5G take8G take9 take10 done
        refine g_take (i := 0) rfl rfl (by kernel_rfl) (by kernel_rfl) (by kernel_rfl) (by kernel_rfl) (by kernel_rfl) (fun _ _ _ h => h) hS (fun L W hL hW => by have q9 := HBX.out.below hW HBX.out.lt; have c0 : W.cell? ⟨r, 0, none⟩ = some (.int .u64 (un8 b : Nat)) := q9.at_ 0 rfl; have c1 : W.cell? ⟨r, 1, none⟩ = some (.int .u64 ((Hd.seen b).epoch : Nat)) := q9.at_ 1 rfl; have c2 : W.cell? ⟨r, 2, none⟩ = some (.int .u8 ((Hd.seen b).live : Nat)) := q9.at_ 2 rfl; go_simp; rfl) ?_
        refine g_one (i := 1) rfl rfl (by kernel_rfl) fun K hK => ?_
        go_simp
        refine Calls.mono (HRT.out _) ?_
        rintro en y5 ⟨rfl, hb5⟩
        have hS := hS.trans (hb5.mono hS.size)
        refine hK _ _ hS ?_
        clear hK K
        refine g_take (i := 2) rfl rfl (by kernel_rfl) (by kernel_rfl) (by kernel_rfl) (by kernel_rfl) (by kernel_rfl) (fun _ _ _ h => h) hS (fun L W hL hW => by go_simp; rfl) ?_
        refine g_takeG (i := 3) rfl (by simp only [Region.wanted, yielded]; go_simp) (by kernel_rfl) (by kernel_rfl) (by kernel_rfl) (by kernel_rfl) (by kernel_rfl) (fun _ _ _ h => h) hS (fun L W hL hW => by go_simp; rfl) ?_
        refine g_takeG (i := 4) rfl (by simp only [Region.wanted, yielded]; go_simp) (by kernel_rfl) (by kernel_rfl) (by kernel_rfl) (by kernel_rfl) (by kernel_rfl) (fun _ _ _ h => h) hS (fun L W hL hW => by go_simp; rfl) ?_
        refine g_takeG (i := 6) rfl (by simp only [Region.wanted, yielded]; go_simp) (by kernel_rfl) (by kernel_rfl) (by kernel_rfl) (by kernel_rfl) (by kernel_rfl) (fun _ _ _ h => h) hS (fun L W hL hW => by go_simp; rfl) ?_
        refine g_takeG (i := 7) rfl (by simp only [Region.wanted, yielded]; go_simp) (by kernel_rfl) (by kernel_rfl) (by kernel_rfl) (by kernel_rfl) (by kernel_rfl) (fun _ _ _ h => h) hS (fun L W hL hW => by have q9 := HBX.out.below hW HBX.out.lt; have c0 : W.cell? ⟨r, 0, none⟩ = some (.int .u64 (un8 b : Nat)) := q9.at_ 0 rfl; have c1 : W.cell? ⟨r, 1, none⟩ = some (.int .u64 ((Hd.seen b).epoch : Nat)) := q9.at_ 1 rfl; have c2 : W.cell? ⟨r, 2, none⟩ = some (.int .u8 ((Hd.seen b).live : Nat)) := q9.at_ 2 rfl; go_simp; rfl) ?_
        refine g_one (i := 5) rfl (by simp only [Region.wanted, yielded]; go_simp) (by kernel_rfl) fun K hK => ?_
        go_simp
        refine Calls.mono (rnumber _ _ ((b.take 32).drop 24) (by simp [HB.out]) _ (Bytes.part (HIX.out _ hS) 24 32)) ?_
        rintro en y1 ⟨rfl, rfl⟩
        have hpn : (((un8 ((b.take 32).drop 24) : Nat) : Int) == ((un8 b : Nat) : Int)) = false := by rw [beq_eq_false_iff_ne]; intro e; exact HPN.out (by omega)
        refine hK _ _ hS ?_
        clear hK K
        refine g_takeG (i := 8) rfl (by simp only [Region.wanted, yielded]; go_simp) (by kernel_rfl) (by kernel_rfl) (by kernel_rfl) (by kernel_rfl) (by kernel_rfl) (fun _ _ _ h => h) hS (fun L W hL hW => by go_simp; rfl) ?_
        refine g_take (i := 9) rfl rfl (by kernel_rfl) (by kernel_rfl) (by kernel_rfl) (by kernel_rfl) (by kernel_rfl) (fun _ _ _ h => h) hS (fun L W hL hW => by go_simp; rfl) ?_
        refine g_take (i := 10) rfl rfl (by kernel_rfl) (by kernel_rfl) (by kernel_rfl) (by kernel_rfl) (by kernel_rfl) (fun _ _ _ h => h) hS (fun L W hL hW => by go_simp; rfl) ?_
        refine wpAnyG_done (by kernel_rfl) ?_ _
        go_simp
        go_wp2_with fail
        go_meet
        exact ⟨_, rfl, by rw [HOK.out], hS⟩
  case rest =>
  obtain ⟨w2, rfl, rfl, hlow2⟩ := hcut
  have HBX2 := Lib.hid (HBX.out.below hlow2 HBX.out.lt)
  have HRS2 := Lib.hid (HRS.out.below hlow2 HRS.out.lt)
  have HBL2 := Lib.hid (HBL.out.trans (hlow2.mono HBL.out.size))
  have HIY := Lib.hid (HIX.out _ hlow2)
  clear hlow2 HBX HRS HBL HIX HRT wf
  go_wp2_with fail
  go_loop [5, 6] (fun v i => ∃ j : Nat, j ≤ 7 ∧ i = .int .i64 (17 + (j : Int)) ∧ v = .bool (okR b && zeros b j)) (fun v i => (24 - intOf i).toNat)
  case atStart => exact ⟨0, Nat.zero_le _, rfl, by simp [zeros]⟩
  case round =>
    obtain ⟨j, hj, rfl, rfl⟩ := hrel
    rcases (by omega : j = 7 ∨ j < 7) with rfl | hj7
    · have HRD2 := HRD
      rcases hfin : (okR b && zeros b 7) with _ | _
      · rw [hfin] at HRD2
        simp only [Bool.false_eq_true, if_false] at HRD2
        clear hfin HRD
        go_wp2_with (refine wpList_put_row rfl rfl 24 (.tmp 2) _ rfl w.heap.size rfl 24 _ #[.int .u64 0, .int .u64 0, .int .u8 0] rfl HRS2.out (by kernel_rfl) rfl (by decide) ?_)
        refine bodyPost_ret (results_cell_row2 rfl _ _ w.heap.size 24 #[.int .u64 0, .int .u64 0, .int .u8 0] (0, 0) _ rfl (HRS2.out.row _).out Try.underlying24 rfl (by kernel_rfl)) rfl ?_
        rw [HRD2.out]
        exact ⟨rfl, below_rowH HBL2.out (Nat.le_refl _) _⟩
      · rw [hfin] at HRD2
        simp only [if_true] at HRD2
        clear hfin HRD
        go_wp2_with (first | (refine wpList_load_row rfl 24 (.tmp 4) rfl r rfl 24 (hv (Hd.seen b)) _ _ HBX2.out.out Try.underlying24 rfl (by kernel_rfl) ?_) | (refine wpList_put_row rfl rfl 24 (.tmp 2) _ rfl w.heap.size rfl 24 _ (hv (Hd.seen b)) rfl HRS2.out (by kernel_rfl) rfl (hv_one _) ?_))
        refine bodyPost_ret (results_cell_row2 rfl _ _ w.heap.size 24 (hv (Hd.seen b)) (0, 0) _ rfl (HRS2.out.row _).out Try.underlying24 rfl (by kernel_rfl)) rfl ?_
        rw [HRD2.out]
        exact ⟨rfl, below_rowH HBL2.out (Nat.le_refl _) _⟩
    have hl : 17 + j < b.length := by rw [HB.out]; omega
    obtain ⟨b9, o9, e9, -, hc⟩ := HIY.out.at_ hl
    cases e9
    have hg : b.getD (17 + j) 0 = b[17 + j] := by simp [hl]
    have HZ : Hid ((okR b && zeros b (j + 1)) = ((okR b && zeros b j) && (b[17 + j] == 0))) := Lib.hid (by show (okR b && (zeros b j && (b.getD (17 + j) 0 == 0))) = _; rw [hg, Bool.and_assoc])
    generalize b[17 + j] = x at *
    clear hg hl
    rcases hok : (okR b && zeros b j) with _ | _
    · rw [hok, Bool.false_and] at HZ
      clear hok hc
      rcases (by omega : j = 0 ∨ j = 1 ∨ j = 2 ∨ j = 3 ∨ j = 4 ∨ j = 5 ∨ j = 6) with rfl | rfl | rfl | rfl | rfl | rfl | rfl
      · rw [show (17 + ((0 : Nat) : Int)) = (17 : Int) from rfl]
        go_wp2_with fail
        go_round
        case rel => exact ⟨1, by omega, rfl, by rw [HZ.out]⟩
        case measure => simp [intOf]
      · rw [show (17 + ((1 : Nat) : Int)) = (18 : Int) from rfl]
        go_wp2_with fail
        go_round
        case rel => exact ⟨2, by omega, rfl, by rw [HZ.out]⟩
        case measure => simp [intOf]
      · rw [show (17 + ((2 : Nat) : Int)) = (19 : Int) from rfl]
        go_wp2_with fail
        go_round
        case rel => exact ⟨3, by omega, rfl, by rw [HZ.out]⟩
        case measure => simp [intOf]
      · rw [show (17 + ((3 : Nat) : Int)) = (20 : Int) from rfl]
        go_wp2_with fail
        go_round
        case rel => exact ⟨4, by omega, rfl, by rw [HZ.out]⟩
        case measure => simp [intOf]
      · rw [show (17 + ((4 : Nat) : Int)) = (21 : Int) from rfl]
        go_wp2_with fail
        go_round
        case rel => exact ⟨5, by omega, rfl, by rw [HZ.out]⟩
        case measure => simp [intOf]
      · rw [show (17 + ((5 : Nat) : Int)) = (22 : Int) from rfl]
        go_wp2_with fail
        go_round
        case rel => exact ⟨6, by omega, rfl, by rw [HZ.out]⟩
        case measure => simp [intOf]
      · rw [show (17 + ((6 : Nat) : Int)) = (23 : Int) from rfl]
        go_wp2_with fail
        go_round
        case rel => exact ⟨7, by omega, rfl, by rw [HZ.out]⟩
        case measure => simp [intOf]
    · rw [hok, Bool.true_and] at HZ
      clear hok
      by_cases hx : x = 0
      · have hxi : ((x.toNat : Int) == 0) = true := by rw [hx]; rfl
        have hb0 : (x == 0) = true := by rw [hx]; rfl
        rw [hb0] at HZ
        clear hx hb0
        rcases (by omega : j = 0 ∨ j = 1 ∨ j = 2 ∨ j = 3 ∨ j = 4 ∨ j = 5 ∨ j = 6) with rfl | rfl | rfl | rfl | rfl | rfl | rfl
        · rw [show (17 + ((0 : Nat) : Int)) = (17 : Int) from rfl]
          have hc : w2.cell? ⟨bb, off + 17, none⟩ = some (.int .u8 (x.toNat : Nat)) := hc
          go_wp2_with fail
          go_round
          case rel => exact ⟨1, by omega, rfl, by rw [HZ.out]⟩
          case measure => simp [intOf]
        · rw [show (17 + ((1 : Nat) : Int)) = (18 : Int) from rfl]
          have hc : w2.cell? ⟨bb, off + 18, none⟩ = some (.int .u8 (x.toNat : Nat)) := hc
          go_wp2_with fail
          go_round
          case rel => exact ⟨2, by omega, rfl, by rw [HZ.out]⟩
          case measure => simp [intOf]
        · rw [show (17 + ((2 : Nat) : Int)) = (19 : Int) from rfl]
          have hc : w2.cell? ⟨bb, off + 19, none⟩ = some (.int .u8 (x.toNat : Nat)) := hc
          go_wp2_with fail
          go_round
          case rel => exact ⟨3, by omega, rfl, by rw [HZ.out]⟩
          case measure => simp [intOf]
        · rw [show (17 + ((3 : Nat) : Int)) = (20 : Int) from rfl]
          have hc : w2.cell? ⟨bb, off + 20, none⟩ = some (.int .u8 (x.toNat : Nat)) := hc
          go_wp2_with fail
          go_round
          case rel => exact ⟨4, by omega, rfl, by rw [HZ.out]⟩
          case measure => simp [intOf]
        · rw [show (17 + ((4 : Nat) : Int)) = (21 : Int) from rfl]
          have hc : w2.cell? ⟨bb, off + 21, none⟩ = some (.int .u8 (x.toNat : Nat)) := hc
          go_wp2_with fail
          go_round
          case rel => exact ⟨5, by omega, rfl, by rw [HZ.out]⟩
          case measure => simp [intOf]
        · rw [show (17 + ((5 : Nat) : Int)) = (22 : Int) from rfl]
          have hc : w2.cell? ⟨bb, off + 22, none⟩ = some (.int .u8 (x.toNat : Nat)) := hc
          go_wp2_with fail
          go_round
          case rel => exact ⟨6, by omega, rfl, by rw [HZ.out]⟩
          case measure => simp [intOf]
        · rw [show (17 + ((6 : Nat) : Int)) = (23 : Int) from rfl]
          have hc : w2.cell? ⟨bb, off + 23, none⟩ = some (.int .u8 (x.toNat : Nat)) := hc
          go_wp2_with fail
          go_round
          case rel => exact ⟨7, by omega, rfl, by rw [HZ.out]⟩
          case measure => simp [intOf]
      · have hxi : ((x.toNat : Int) == 0) = false := by
          rw [beq_eq_false_iff_ne]
          intro e
          exact hx (UInt8.toNat.inj (by have : x.toNat = 0 := by omega
                                        rw [this]; rfl))
        have hb0 : (x == 0) = false := by simpa using hx
        rw [hb0] at HZ
        clear hx hb0
        rcases (by omega : j = 0 ∨ j = 1 ∨ j = 2 ∨ j = 3 ∨ j = 4 ∨ j = 5 ∨ j = 6) with rfl | rfl | rfl | rfl | rfl | rfl | rfl
        · rw [show (17 + ((0 : Nat) : Int)) = (17 : Int) from rfl]
          have hc : w2.cell? ⟨bb, off + 17, none⟩ = some (.int .u8 (x.toNat : Nat)) := hc
          go_wp2_with fail
          go_round
          case rel => exact ⟨1, by omega, rfl, by rw [HZ.out]⟩
          case measure => simp [intOf]
        · rw [show (17 + ((1 : Nat) : Int)) = (18 : Int) from rfl]
          have hc : w2.cell? ⟨bb, off + 18, none⟩ = some (.int .u8 (x.toNat : Nat)) := hc
          go_wp2_with fail
          go_round
          case rel => exact ⟨2, by omega, rfl, by rw [HZ.out]⟩
          case measure => simp [intOf]
        · rw [show (17 + ((2 : Nat) : Int)) = (19 : Int) from rfl]
          have hc : w2.cell? ⟨bb, off + 19, none⟩ = some (.int .u8 (x.toNat : Nat)) := hc
          go_wp2_with fail
          go_round
          case rel => exact ⟨3, by omega, rfl, by rw [HZ.out]⟩
          case measure => simp [intOf]
        · rw [show (17 + ((3 : Nat) : Int)) = (20 : Int) from rfl]
          have hc : w2.cell? ⟨bb, off + 20, none⟩ = some (.int .u8 (x.toNat : Nat)) := hc
          go_wp2_with fail
          go_round
          case rel => exact ⟨4, by omega, rfl, by rw [HZ.out]⟩
          case measure => simp [intOf]
        · rw [show (17 + ((4 : Nat) : Int)) = (21 : Int) from rfl]
          have hc : w2.cell? ⟨bb, off + 21, none⟩ = some (.int .u8 (x.toNat : Nat)) := hc
          go_wp2_with fail
          go_round
          case rel => exact ⟨5, by omega, rfl, by rw [HZ.out]⟩
          case measure => simp [intOf]
        · rw [show (17 + ((5 : Nat) : Int)) = (22 : Int) from rfl]
          have hc : w2.cell? ⟨bb, off + 22, none⟩ = some (.int .u8 (x.toNat : Nat)) := hc
          go_wp2_with fail
          go_round
          case rel => exact ⟨6, by omega, rfl, by rw [HZ.out]⟩
          case measure => simp [intOf]
        · rw [show (17 + ((6 : Nat) : Int)) = (23 : Int) from rfl]
          have hc : w2.cell? ⟨bb, off + 23, none⟩ = some (.int .u8 (x.toNat : Nat)) := hc
          go_wp2_with fail
          go_round
          case rel => exact ⟨7, by omega, rfl, by rw [HZ.out]⟩
          case measure => simp [intOf]
end Go.Proofs.Ytpohefpiidlnjaa.Hr
