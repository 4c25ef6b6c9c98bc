/-
  The walk of the document's Pick.
-/
import Derived.Test.YtpohefpiidlnjaaHeadRef2
namespace Go.Proofs.Ytpohefpiidlnjaa.Hr
set_option linter.unusedVariables false
open Go Go.RowKit Go.Proofs Go.Proofs.Ytpohefpiidlnjaa Go.Proofs.Ytpohefpiidlnjaa.Wd
open Go.Proofs.Ytpohefpiidlnjaa.Hd (H Wf le8 un8 le8_length)
open Go.Proofs.Ytpohefpiidlnjaa.HdW (readR hv results_cell_row2)
theorem mod2 (n : Nat) : ((n : Nat) : Int).tmod 2 = ((n % 2 : Nat) : Int) := by rw [Int.tmod_eq_emod_of_nonneg (Int.natCast_nonneg _)]; rfl
theorem wrap2 (n : Nat) : IntKind.u64.wrap ((n % 2 : Nat) : Int) = ((n % 2 : Nat) : Int) := IntWalk.u64_in _ (by omega)
set_option maxRecDepth 100000 in
set_option maxHeartbeats 4000000 in
theorem rpick (A0 A1 : Option Addr) (c0 c1 n0 n1 : Nat) (zero one : List UInt8) (hn0 : n0 = zero.length) (hn1 : n1 = one.length) (hc0 : n0 ≤ c0) (hc1 : n1 ≤ c1) (hcm0 : c0 ≤ maxLen) (hcm1 : c1 ≤ maxLen) (w : World) (hJ0 : Bytes w w.heap.size A0 zero) (hJ1 : Bytes w w.heap.size A1 one) :
    Calls Try.prog 25 #[.slice A0 n0 c0, .slice A1 n1 c1] w fun e w' => e = .returned (.tuple #[.agg (hv (Hd.pick zero one)), .bool (decide (0 < (Hd.pick zero one).serial))]) ∧ Below w.heap.size w w' := by
  have hres := Blk.new_ w 24 #[.int .u64 0, .int .u64 0, .int .u8 0] rfl
  have hB0 := (Below.refl w.heap.size w).alloc (Nat.le_refl _) (.cells #[.int .u64 0, .int .u64 0, .int .u8 0] 24)
  have HC0 : Hid (∀ W, Below w.heap.size w W → Calls Try.prog 23 #[.slice A0 n0 c0] W fun e w' => e = .returned (.tuple #[.agg (hv (readR zero).1), .bool (readR zero).2]) ∧ Below W.heap.size W w') := Lib.hid (fun W hW => rread A0 c0 zero n0 hn0 hc0 hcm0 W (hJ0.grow hW))
  have HC1 : Hid (∀ W, Below w.heap.size w W → Calls Try.prog 23 #[.slice A1 n1 c1] W fun e w' => e = .returned (.tuple #[.agg (hv (readR one).1), .bool (readR one).2]) ∧ Below W.heap.size W w') := Lib.hid (fun W hW => rread A1 c1 one n1 hn1 hc1 hcm1 W (hJ1.grow hW))
  have hp := pick_doc zero one
  have ho : (readR zero).2 = true → 0 < (readR zero).1.serial := read_pos zero
  have ho1 : (readR one).2 = true → 0 < (readR one).1.serial := read_pos one
  generalize readR zero = ra at *
  generalize readR one = rb at *
  obtain ⟨⟨sa, ea, la⟩, xb⟩ := ra
  obtain ⟨⟨sb, eb, lb⟩, yb⟩ := rb
  simp only at hp ho ho1
  have HP := Lib.hid hp
  have HO0 := Lib.hid ho
  have HO1 := Lib.hid ho1
  have HRS := Lib.hid hres
  have HB0 := Lib.hid hB0
  unfold HdW.hv at HC0 HC1
  clear hJ0 hJ1 hn0 hn1 hres hB0 hp ho ho1
  go_enter Try.func25, Try.ntmps25
  go_wp2_with fail
  refine Calls.mono (HC0.out _ HB0.out) ?_
  rintro e w1 ⟨rfl, hb1⟩
  have HB1 := Lib.hid (HB0.out.trans (hb1.mono HB0.out.size))
  have HRS1 := Lib.hid (HRS.out.below hb1 HRS.out.lt)
  clear hb1 HB0 HRS
  have hba := Blk.new_ w1 24 #[.int .u64 (sa : Nat), .int .u64 (ea : Nat), .int .u8 (la : Nat)] rfl
  have hl1 := (Below.refl w1.heap.size w1).alloc (Nat.le_refl _) (.cells #[.int .u64 (sa : Nat), .int .u64 (ea : Nat), .int .u8 (la : Nat)] 24)
  have HB2 := Lib.hid (HB1.out.trans (hl1.mono HB1.out.size))
  have HRS2 := Lib.hid (HRS1.out.below hl1 HRS1.out.lt)
  have HBA := Lib.hid hba
  clear hba hl1 HB1 HRS1
  go_wp2_with fail
  refine Calls.mono (HC1.out _ HB2.out) ?_
  rintro e w3 ⟨rfl, hb3⟩
  have HB3 := Lib.hid (HB2.out.trans (hb3.mono HB2.out.size))
  have HRS3 := Lib.hid (HRS2.out.below hb3 HRS2.out.lt)
  have HBA3 := Lib.hid (HBA.out.below hb3 HBA.out.lt)
  clear hb3 HB2 HRS2 HBA HC0 HC1
  have hbb := Blk.new_ w3 24 #[.int .u64 (sb : Nat), .int .u64 (eb : Nat), .int .u8 (lb : Nat)] rfl
  have hl3 := (Below.refl w3.heap.size w3).alloc (Nat.le_refl _) (.cells #[.int .u64 (sb : Nat), .int .u64 (eb : Nat), .int .u8 (lb : Nat)] 24)
  have HB4 := Lib.hid (HB3.out.trans (hl3.mono HB3.out.size))
  have HRS4 := Lib.hid (HRS3.out.below hl3 HRS3.out.lt)
  have HBA4 := Lib.hid (HBA3.out.below hl3 HBA3.out.lt)
  have HBB := Lib.hid hbb
  clear hbb hl3 HB3 HRS3 HBA3
  go_upto_region 3 with fail
  generalize w3.alloc (.cells #[.int .u64 (sb : Nat), .int .u64 (eb : Nat), .int .u8 (lb : Nat)] 24) = w4 at *
  generalize w1.heap.size = ra at *
  generalize w3.heap.size = rb at *
  have qa := HBA4.out.at_ 0 (v := .int .u64 (sa : Nat)) rfl
  have qb := HBB.out.at_ 0 (v := .int .u64 (sb : Nat)) rfl
  have w0 : IntKind.u64.wrap 0 = 0 := rfl
  have w1' : IntKind.u64.wrap 1 = 1 := rfl
  have hdum : True := trivial
  cases xb
  · cases yb
    · have HPX : Hid (Hd.pick zero one = Hd.none_) := Lib.hid (by rw [HP.out]; simp)
      have HPB : Hid (decide (0 < (Hd.none_).serial) = false) := Lib.hid rfl
      clear  hdum
      go_wp2_with (first | fail | (refine wpList_put_row rfl rfl 24 (.tmp 4) _ rfl w.heap.size rfl 24 _ #[.int .u64 0, .int .u64 0, .int .u8 0] rfl HRS4.out (by kernel_rfl) rfl (hv_one ⟨0, 0, 0⟩) ?_))
      refine bodyPost_ret (results_cell_row2 rfl _ _ w.heap.size 24 #[.int .u64 0, .int .u64 0, .int .u8 0] (0, 0) _ rfl (HRS4.out.row _).out Try.underlying24 rfl (by kernel_rfl)) rfl ?_
      rw [HPX.out]
      exact ⟨by rw [HPB.out]; rfl, below_rowH HB4.out (Nat.le_refl _) _⟩
    · by_cases hy : sb % 2 = 1
      · have mb : (sb : Int).tmod 2 = 1 := by rw [mod2, hy]; rfl
        have hy' : (sb % 2 == 1) = true := by rw [hy]; rfl
        have HPX : Hid (Hd.pick zero one = ⟨sb, eb, lb⟩) := Lib.hid (by rw [HP.out]; simp [hy])
        have HPB : Hid (decide (0 < (⟨sb, eb, lb⟩ : H).serial) = true) := Lib.hid (decide_eq_true (HO1.out rfl))
        clear  hy hy' hdum
        go_wp2_with (first | (refine wpList_load_row rfl 24 (.tmp 8) rfl rb rfl 24 #[.int .u64 (sb : Nat), .int .u64 (eb : Nat), .int .u8 (lb : Nat)] _ _ HBB.out.out Try.underlying24 rfl (by kernel_rfl) ?_) | (refine wpList_put_row rfl rfl 24 (.tmp 4) _ rfl w.heap.size rfl 24 _ #[.int .u64 (sb : Nat), .int .u64 (eb : Nat), .int .u8 (lb : Nat)] rfl HRS4.out (by kernel_rfl) rfl (hv_one ⟨sb, eb, lb⟩) ?_))
        refine bodyPost_ret (results_cell_row2 rfl _ _ w.heap.size 24 #[.int .u64 (sb : Nat), .int .u64 (eb : Nat), .int .u8 (lb : Nat)] (0, 0) _ rfl (HRS4.out.row _).out Try.underlying24 rfl (by kernel_rfl)) rfl ?_
        rw [HPX.out]
        exact ⟨by rw [HPB.out]; rfl, below_rowH HB4.out (Nat.le_refl _) _⟩
      · have mb : (sb : Int).tmod 2 = 0 := by rw [mod2, show sb % 2 = 0 by omega]; rfl
        have hy' : (sb % 2 == 1) = false := by rw [beq_eq_false_iff_ne]; exact hy
        have HPX : Hid (Hd.pick zero one = Hd.none_) := Lib.hid (by rw [HP.out]; simp [hy'])
        have HPB : Hid (decide (0 < (Hd.none_).serial) = false) := Lib.hid rfl
        clear  hy hy' hdum
        go_wp2_with (first | fail | (refine wpList_put_row rfl rfl 24 (.tmp 4) _ rfl w.heap.size rfl 24 _ #[.int .u64 0, .int .u64 0, .int .u8 0] rfl HRS4.out (by kernel_rfl) rfl (hv_one ⟨0, 0, 0⟩) ?_))
        refine bodyPost_ret (results_cell_row2 rfl _ _ w.heap.size 24 #[.int .u64 0, .int .u64 0, .int .u8 0] (0, 0) _ rfl (HRS4.out.row _).out Try.underlying24 rfl (by kernel_rfl)) rfl ?_
        rw [HPX.out]
        exact ⟨by rw [HPB.out]; rfl, below_rowH HB4.out (Nat.le_refl _) _⟩
  · by_cases hx : sa % 2 = 0
    · have ma : (sa : Int).tmod 2 = 0 := by rw [mod2, hx]; rfl
      have hx' : (sa % 2 == 0) = true := by rw [hx]; rfl
      cases yb
      · have HPX : Hid (Hd.pick zero one = ⟨sa, ea, la⟩) := Lib.hid (by rw [HP.out]; simp [hx])
        have HPB : Hid (decide (0 < (⟨sa, ea, la⟩ : H).serial) = true) := Lib.hid (decide_eq_true (HO0.out rfl))
        clear hx hx' hdum
        go_wp2_with (first | (refine wpList_load_row rfl 24 (.tmp 6) rfl ra rfl 24 #[.int .u64 (sa : Nat), .int .u64 (ea : Nat), .int .u8 (la : Nat)] _ _ HBA4.out.out Try.underlying24 rfl (by kernel_rfl) ?_) | (refine wpList_put_row rfl rfl 24 (.tmp 4) _ rfl w.heap.size rfl 24 _ #[.int .u64 (sa : Nat), .int .u64 (ea : Nat), .int .u8 (la : Nat)] rfl HRS4.out (by kernel_rfl) rfl (hv_one ⟨sa, ea, la⟩) ?_))
        refine bodyPost_ret (results_cell_row2 rfl _ _ w.heap.size 24 #[.int .u64 (sa : Nat), .int .u64 (ea : Nat), .int .u8 (la : Nat)] (0, 0) _ rfl (HRS4.out.row _).out Try.underlying24 rfl (by kernel_rfl)) rfl ?_
        rw [HPX.out]
        exact ⟨by rw [HPB.out]; rfl, below_rowH HB4.out (Nat.le_refl _) _⟩
      · by_cases hy : sb % 2 = 1
        · have mb : (sb : Int).tmod 2 = 1 := by rw [mod2, hy]; rfl
          have hy' : (sb % 2 == 1) = true := by rw [hy]; rfl
          by_cases hc : sa < sb
          · have uc : (sa : Int) < (sb : Int) := by omega
            have HPX : Hid (Hd.pick zero one = ⟨sb, eb, lb⟩) := Lib.hid (by rw [HP.out]; simp [hx, hy, hc])
            have HPB : Hid (decide (0 < (⟨sb, eb, lb⟩ : H).serial) = true) := Lib.hid (decide_eq_true (HO1.out rfl))
            clear hx hx' hy hy' hc hdum
            go_wp2_with (first | (refine wpList_load_row rfl 24 (.tmp 8) rfl rb rfl 24 #[.int .u64 (sb : Nat), .int .u64 (eb : Nat), .int .u8 (lb : Nat)] _ _ HBB.out.out Try.underlying24 rfl (by kernel_rfl) ?_) | (refine wpList_put_row rfl rfl 24 (.tmp 4) _ rfl w.heap.size rfl 24 _ #[.int .u64 (sb : Nat), .int .u64 (eb : Nat), .int .u8 (lb : Nat)] rfl HRS4.out (by kernel_rfl) rfl (hv_one ⟨sb, eb, lb⟩) ?_))
            refine bodyPost_ret (results_cell_row2 rfl _ _ w.heap.size 24 #[.int .u64 (sb : Nat), .int .u64 (eb : Nat), .int .u8 (lb : Nat)] (0, 0) _ rfl (HRS4.out.row _).out Try.underlying24 rfl (by kernel_rfl)) rfl ?_
            rw [HPX.out]
            exact ⟨by rw [HPB.out]; rfl, below_rowH HB4.out (Nat.le_refl _) _⟩
          · have uc : ¬ (sa : Int) < (sb : Int) := by omega
            have HPX : Hid (Hd.pick zero one = ⟨sa, ea, la⟩) := Lib.hid (by rw [HP.out]; simp [hx, hy, hc])
            have HPB : Hid (decide (0 < (⟨sa, ea, la⟩ : H).serial) = true) := Lib.hid (decide_eq_true (HO0.out rfl))
            clear hx hx' hy hy' hc hdum
            go_wp2_with (first | (refine wpList_load_row rfl 24 (.tmp 6) rfl ra rfl 24 #[.int .u64 (sa : Nat), .int .u64 (ea : Nat), .int .u8 (la : Nat)] _ _ HBA4.out.out Try.underlying24 rfl (by kernel_rfl) ?_) | (refine wpList_put_row rfl rfl 24 (.tmp 4) _ rfl w.heap.size rfl 24 _ #[.int .u64 (sa : Nat), .int .u64 (ea : Nat), .int .u8 (la : Nat)] rfl HRS4.out (by kernel_rfl) rfl (hv_one ⟨sa, ea, la⟩) ?_))
            refine bodyPost_ret (results_cell_row2 rfl _ _ w.heap.size 24 #[.int .u64 (sa : Nat), .int .u64 (ea : Nat), .int .u8 (la : Nat)] (0, 0) _ rfl (HRS4.out.row _).out Try.underlying24 rfl (by kernel_rfl)) rfl ?_
            rw [HPX.out]
            exact ⟨by rw [HPB.out]; rfl, below_rowH HB4.out (Nat.le_refl _) _⟩
        · have mb : (sb : Int).tmod 2 = 0 := by rw [mod2, show sb % 2 = 0 by omega]; rfl
          have hy' : (sb % 2 == 1) = false := by rw [beq_eq_false_iff_ne]; exact hy
          have HPX : Hid (Hd.pick zero one = ⟨sa, ea, la⟩) := Lib.hid (by rw [HP.out]; simp [hx, hy'])
          have HPB : Hid (decide (0 < (⟨sa, ea, la⟩ : H).serial) = true) := Lib.hid (decide_eq_true (HO0.out rfl))
          clear hx hx' hy hy' hdum
          go_wp2_with (first | (refine wpList_load_row rfl 24 (.tmp 6) rfl ra rfl 24 #[.int .u64 (sa : Nat), .int .u64 (ea : Nat), .int .u8 (la : Nat)] _ _ HBA4.out.out Try.underlying24 rfl (by kernel_rfl) ?_) | (refine wpList_put_row rfl rfl 24 (.tmp 4) _ rfl w.heap.size rfl 24 _ #[.int .u64 (sa : Nat), .int .u64 (ea : Nat), .int .u8 (la : Nat)] rfl HRS4.out (by kernel_rfl) rfl (hv_one ⟨sa, ea, la⟩) ?_))
          refine bodyPost_ret (results_cell_row2 rfl _ _ w.heap.size 24 #[.int .u64 (sa : Nat), .int .u64 (ea : Nat), .int .u8 (la : Nat)] (0, 0) _ rfl (HRS4.out.row _).out Try.underlying24 rfl (by kernel_rfl)) rfl ?_
          rw [HPX.out]
          exact ⟨by rw [HPB.out]; rfl, below_rowH HB4.out (Nat.le_refl _) _⟩
    · have ma : (sa : Int).tmod 2 = 1 := by rw [mod2, show sa % 2 = 1 by omega]; rfl
      have hx' : (sa % 2 == 0) = false := by rw [beq_eq_false_iff_ne]; exact hx
      cases yb
      · have HPX : Hid (Hd.pick zero one = Hd.none_) := Lib.hid (by rw [HP.out]; simp [hx'])
        have HPB : Hid (decide (0 < (Hd.none_).serial) = false) := Lib.hid rfl
        clear hx hx' hdum
        go_wp2_with (first | fail | (refine wpList_put_row rfl rfl 24 (.tmp 4) _ rfl w.heap.size rfl 24 _ #[.int .u64 0, .int .u64 0, .int .u8 0] rfl HRS4.out (by kernel_rfl) rfl (hv_one ⟨0, 0, 0⟩) ?_))
        refine bodyPost_ret (results_cell_row2 rfl _ _ w.heap.size 24 #[.int .u64 0, .int .u64 0, .int .u8 0] (0, 0) _ rfl (HRS4.out.row _).out Try.underlying24 rfl (by kernel_rfl)) rfl ?_
        rw [HPX.out]
        exact ⟨by rw [HPB.out]; rfl, below_rowH HB4.out (Nat.le_refl _) _⟩
      · by_cases hy : sb % 2 = 1
        · have mb : (sb : Int).tmod 2 = 1 := by rw [mod2, hy]; rfl
          have hy' : (sb % 2 == 1) = true := by rw [hy]; rfl
          have HPX : Hid (Hd.pick zero one = ⟨sb, eb, lb⟩) := Lib.hid (by rw [HP.out]; simp [hx', hy])
          have HPB : Hid (decide (0 < (⟨sb, eb, lb⟩ : H).serial) = true) := Lib.hid (decide_eq_true (HO1.out rfl))
          clear hx hx' hy hy' hdum
          go_wp2_with (first | (refine wpList_load_row rfl 24 (.tmp 8) rfl rb rfl 24 #[.int .u64 (sb : Nat), .int .u64 (eb : Nat), .int .u8 (lb : Nat)] _ _ HBB.out.out Try.underlying24 rfl (by kernel_rfl) ?_) | (refine wpList_put_row rfl rfl 24 (.tmp 4) _ rfl w.heap.size rfl 24 _ #[.int .u64 (sb : Nat), .int .u64 (eb : Nat), .int .u8 (lb : Nat)] rfl HRS4.out (by kernel_rfl) rfl (hv_one ⟨sb, eb, lb⟩) ?_))
          refine bodyPost_ret (results_cell_row2 rfl _ _ w.heap.size 24 #[.int .u64 (sb : Nat), .int .u64 (eb : Nat), .int .u8 (lb : Nat)] (0, 0) _ rfl (HRS4.out.row _).out Try.underlying24 rfl (by kernel_rfl)) rfl ?_
          rw [HPX.out]
          exact ⟨by rw [HPB.out]; rfl, below_rowH HB4.out (Nat.le_refl _) _⟩
        · have mb : (sb : Int).tmod 2 = 0 := by rw [mod2, show sb % 2 = 0 by omega]; rfl
          have hy' : (sb % 2 == 1) = false := by rw [beq_eq_false_iff_ne]; exact hy
          have HPX : Hid (Hd.pick zero one = Hd.none_) := Lib.hid (by rw [HP.out]; simp [hx', hy'])
          have HPB : Hid (decide (0 < (Hd.none_).serial) = false) := Lib.hid rfl
          clear hx hx' hy hy' hdum
          go_wp2_with (first | fail | (refine wpList_put_row rfl rfl 24 (.tmp 4) _ rfl w.heap.size rfl 24 _ #[.int .u64 0, .int .u64 0, .int .u8 0] rfl HRS4.out (by kernel_rfl) rfl (hv_one ⟨0, 0, 0⟩) ?_))
          refine bodyPost_ret (results_cell_row2 rfl _ _ w.heap.size 24 #[.int .u64 0, .int .u64 0, .int .u8 0] (0, 0) _ rfl (HRS4.out.row _).out Try.underlying24 rfl (by kernel_rfl)) rfl ?_
          rw [HPX.out]
          exact ⟨by rw [HPB.out]; rfl, below_rowH HB4.out (Nat.le_refl _) _⟩
end Go.Proofs.Ytpohefpiidlnjaa.Hr
