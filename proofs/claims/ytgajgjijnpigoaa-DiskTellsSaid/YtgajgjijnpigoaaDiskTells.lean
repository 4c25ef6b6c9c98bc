/-
  The walk of DiskTells.
-/
import Derived.Test.YtgajgjijnpigoaaDiskStep
import Derived.Test.YtgajgjijnpigoaaDiskHead2
import Derived.Test.YtgajgjijnpigoaaDiskOps
namespace Go.Proofs.Ytgajgjijnpigoaa.Dr
set_option linter.unusedVariables false
open Go Go.RowKit Go.Proofs Go.Proofs.Ytgajgjijnpigoaa Go.Proofs.Ytgajgjijnpigoaa.Wd
open Go.Proofs.Ytgajgjijnpigoaa.Dk (DS upd upd_eq upd_ne Ok newD At Fresh own_empty appD syD trD wrD shD fuseD crashD rd hd Wb wb_own)
/-- More may be told of the worlds from here on. -/
theorem g_turn {P : Program} {md : Region.Mode} {ops : Array Oper} {Q : Exit → Act → World → Prop} {B : List Nat} {S S' : (Nat → Bool) → World → Prop} (h : ∀ cc w, S' cc w → S cc w) : ∀ {fuel : Nat} {listed : Array Bool} {a : Act} {w : World}, wpAnyG P md ops Q B S' fuel listed a w → wpAnyG P md ops Q B S fuel listed a w
  | 0, _, _, _, h0 => h0
  | fuel + 1, _, _, _, h0 => ⟨h0.1, fun i hi => wpOp_mono (fun a' w' h' => ⟨h _ _ h'.1, g_turn h h'.2⟩) (h0.2 i hi)⟩
theorem own_bytes2 {w : World} {base n c : Nat} {A : Option Addr} {l : List UInt8} (h : w.ownsRow base 5 1 (.slice A n c) n (bs l)) : Bytes w w.heap.size A l := by
  obtain ⟨A', c', e, -, -, h3⟩ := own_bytes h
  cases e
  exact h3
theorem rd_le {s : DS} (ok : Ok s) (i : Int) : (rd s i).length ≤ 1048576 := by
  have h1 := ok.room
  have h2 := ok.cap
  unfold Dk.rd
  split
  · simp
  · split
    · rename_i h
      rcases (by simpa using h : i = 0 ∨ i = 1) with rfl | rfl
      · show (s.all 0).length ≤ _; omega
      · show (s.all 1).length ≤ _; omega
    · simp
theorem hd_le {s : DS} (ok : Ok s) (i : Int) : (hd s i).length ≤ 1048576 := by
  unfold Dk.hd
  split
  · simp
  · split
    · rename_i h
      rcases (by simpa using h : i = 0 ∨ i = 1) with rfl | rfl
      · show (if s.wr 0 then s.lo 0 else s.sl 0).length ≤ _; have := ok.lo 0 (by omega); have := ok.sl 0 (by omega); split <;> omega
      · show (if s.wr 1 then s.lo 1 else s.sl 1).length ≤ _; have := ok.lo 1 (by omega); have := ok.sl 1 (by omega); split <;> omega
    · simp
theorem _root_.Go.Proofs.Ytgajgjijnpigoaa.Dk.Wb.cell {w : World} {A : Option Addr} {n j : Nat} (h : Wb w A n) (hj : j < n) : ∃ x o, ∃ y : UInt8, A = some ⟨x, o, none⟩ ∧ w.cell? ⟨x, o + j, none⟩ = some (.int .u8 (y.toNat : Nat)) ∧ w.frozen? ⟨x, o + j, none⟩ = false := by
  obtain ⟨l, rfl, h2, h3⟩ := h
  obtain ⟨b, off, e, -, hc⟩ := h2.at_ hj
  exact ⟨b, off, l[j], e, hc, h3 b off e _⟩
theorem _root_.Go.Proofs.Ytgajgjijnpigoaa.Dk.Wb.far {w : World} {A : Option Addr} {n x : Nat} (h : Wb w A n) (hA : ∀ b o, A = some ⟨b, o, none⟩ → x ≠ b) (k : Nat) (u : Value) : Wb (w.setCell ⟨x, k, none⟩ u) A n := by
  obtain ⟨l, h1, h2, h3⟩ := h
  exact ⟨l, h1, Bytes.fr h2 (Fr.setCell (F := fun j => j = x) (p := ⟨x, k, none⟩) (Fr.refl _ _) (.inl rfl) u) (fun _ b o e hb => hA b o e hb.symm), fun b o e j => by simpa using h3 b o e j⟩
set_option maxRecDepth 100000 in
set_option maxHeartbeats 16000000 in
theorem tells_walk (cap : Int) (A : Option Addr) (n c : Nat) (hnc : n ≤ c) (hcm : c ≤ maxLen) (w : World) (hI : OpsAt w w.heap.size A n) :
    Calls Try.prog 7 #[.int .i64 cap, .slice A n c] w fun e w' => e = .returned (.bool true) ∧ Below w.heap.size w w' := by
  have HI := Lib.hid hI
  unfold maxLen at hcm
  clear hI
  by_cases hbad : cap < 0 ∨ 1048576 < cap
  · have HNB := Lib.hid (Dk.new_bad cap hbad w)
    have HAW := Lib.hid (Dk.awake_any w)
    rcases hbad with h0 | h1
    · go_enter Try.func7, Try.ntmps7
      go_wp2_with fail
      refine Calls.mono HNB.out ?_
      rintro e w1 ⟨rfl, rfl⟩
      go_wp2_with fail
      refine Calls.mono HAW.out ?_
      rintro e w2 ⟨rfl, hb⟩
      go_wp2_with fail
      go_ret
      exact ⟨rfl, hb⟩
    · have h0 : ¬ cap < 0 := by omega
      go_enter Try.func7, Try.ntmps7
      go_wp2_with fail
      refine Calls.mono HNB.out ?_
      rintro e w1 ⟨rfl, rfl⟩
      go_wp2_with fail
      refine Calls.mono HAW.out ?_
      rintro e w2 ⟨rfl, hb⟩
      go_wp2_with fail
      go_ret
      exact ⟨rfl, hb⟩
  obtain ⟨cp, rfl⟩ : ∃ cp : Nat, cap = cp := ⟨cap.toNat, by omega⟩
  have hcp : cp ≤ 1048576 := by omega
  have u0 : ¬ (cp : Int) < 0 := by omega
  have u1 : ¬ (1048576 : Int) < (cp : Int) := by omega
  clear hbad
  go_enter Try.func7, Try.ntmps7
  go_wp2_with fail
  refine Calls.mono (Dk.new_any cp hcp w) ?_
  rintro e w1 ⟨rfl, hA1, hB1⟩
  have HA1 := Lib.hid hA1
  have HB1 := Lib.hid hB1
  generalize hg : w.heap.size = g at *
  have HG := Lib.hid hg
  clear hA1 hB1 hg
  go_wp2_with fail
  refine Calls.mono (rnew (w := w1) (F := fun j => j = g) (fun j hj => (HA1.out.lt hj).2) cp) ?_
  rintro e w2 ⟨⟨v2, cl2, k2, rfl, hrv⟩, hb2⟩
  unfold rval rcells
  have HT0 : Hid (TD w (w2.alloc (.cells (rcells (newD cp) v2 cl2 k2) 53)) (fun _ => False) (fun j => j = g) g (newD cp) w2.heap.size v2 cl2 k2) := Lib.hid (by
    have h8 : Below w2.heap.size w2 (w2.alloc (.cells (rcells (newD cp) v2 cl2 k2) 53)) := (Below.refl _ w2).alloc (Nat.le_refl _) _
    have hgl : g < w1.heap.size := (HA1.out.lt (k := g) rfl).2
    have hA := (HA1.out.below hb2).below h8
    rw [← HG.out] at hA ⊢
    refine ⟨hA, Blk.new_ w2 _ _ rfl, ?_, ?_, (hrv.less ?_).below h8, ?_, fun j hj => hj.elim⟩
    · rw [HG.out]; have := hb2.size; omega
    · intro e; rw [HG.out] at e; have := hb2.size; omega
    · intro j hj
      rcases hj with hj | hj | hj
      · exact .inl (by rw [← HG.out]; exact hj)
      · exact .inr (Nat.le_of_eq hj.symm)
      · exact hj.elim
    · have hBB := HB1.out
      rw [← HG.out] at hBB
      exact (hBB.trans (hb2.mono hBB.size)).trans (h8.mono (Nat.le_trans hBB.size hb2.size)))
  clear HA1 HB1 hb2 hrv
  go_upto_region 7 with fail
  change Code.wp _ _ _ _ (w2.alloc (.cells (rcells (newD cp) v2 cl2 k2) 53))
  generalize w2.alloc (.cells (rcells (newD cp) v2 cl2 k2) 53) = w3 at *
  generalize w2.heap.size = bm at *
  obtain ⟨mm, hmm⟩ : ∃ mm, mm = min n 120 := ⟨_, rfl⟩
  go_cut [39, 40, 41] (fun v39 v40 v41 wx => v39 = .slice A mm c ∧ v40 = .int .i64 (mm : Int) ∧ v41 = .int .i64 0 ∧ wx = w3)
  case first =>
    by_cases hlt : 120 < n
    · obtain rfl : mm = 120 := by omega
      have u2 : (120 : Int) < (n : Int) := by omega
      have u3 : (120 : Int) ≤ (c : Int) := by omega
      clear hmm hlt
      go_wp2_with fail
      go_meet
      exact ⟨rfl, rfl, rfl, rfl⟩
    · obtain rfl : mm = n := by omega
      have u2 : ¬ (120 : Int) < (mm : Int) := by omega
      have u3 : (mm : Int) ≤ (c : Int) := by omega
      clear hmm hlt
      go_wp2_with fail
      go_meet
      exact ⟨rfl, rfl, rfl, rfl⟩
  case rest =>
  obtain ⟨rfl, rfl, rfl, rfl⟩ := hcut
  have hmn : mm ≤ n := by omega
  have hm120 : mm ≤ 120 := by omega
  clear hmm u0 u1
  have HS0 : Hid (∃ F s v cl k, TD w _ (fun _ => False) F g s bm v cl k) := Lib.hid ⟨_, _, _, _, _, HT0.out⟩
  clear HT0
  go_wp2_with fail
  go_loopw [41] (fun i wr => ∃ j0 : Nat, j0 ≤ mm ∧ i = .int .i64 j0 ∧ Hid (∃ F s v cl k, TD w wr (fun _ => False) F g s bm v cl k)) (fun i _ => mm - (intOf i).toNat)
  case atStart => exact ⟨0, Nat.zero_le _, rfl, HS0⟩
  case round =>
    obtain ⟨j0, hj0, rfl, HS⟩ := hrel
    clear HS0
    by_cases hlt0 : j0 < mm
    · obtain ⟨F0, s0, v0, cl0, k0, hT⟩ := HS.out
      have hIw := HI.out
      rw [← HG.out] at hIw
      obtain ⟨b, off, rfl, hb, x, seg, n', A', m', c', keep, B, hx, hsb, hnb, hm', hmc', hcm', hI4, hkp, hcell0⟩ := hIw j0 (by omega)
      have hcell : ∀ i u, (opC x seg n' A' m' c' keep)[i]? = some u → wr.cell? ⟨b, off + j0 * 8 + i, none⟩ = some u := fun i u hu => (hT.low.cell (p := ⟨b, _, none⟩) hb).trans (hcell0 i u hu)
      have p0 := hcell 0 _ rfl
      have p1 := hcell 1 _ rfl
      have p2 := hcell 2 _ rfl
      have p3 := hcell 3 _ rfl
      have p4 := hcell 4 _ rfl
      have p5 := hcell 5 _ rfl
      have p6 := hcell 6 _ rfl
      have p7 := hcell 7 _ rfl
      simp only [Nat.add_zero] at p0
      have HI4 := Lib.hid hI4
      have i1 : (0 : Int) ≤ (j0 : Int) := by omega
      have i2 : (j0 : Int) < (mm : Int) := by omega
      have hB4 := (Below.refl wr.heap.size wr).alloc (Nat.le_refl _) (.cells #[.int .u8 (x : Int), .int .i64 seg, .int .i64 n', .slice A' m' c', .int .i64 (keep 0), .int .i64 (keep 1), .int .i64 (keep 2), .int .i64 (keep 3)] 56)
      have HT4 := Lib.hid ((hT.below hB4).below ((Below.refl _ _).drew))
      have HKP := Lib.hid hkp
      have HO4 := Lib.hid (Blk.new_ wr 56 #[.int .u8 (x : Int), .int .i64 seg, .int .i64 n', .slice A' m' c', .int .i64 (keep 0), .int .i64 (keep 1), .int .i64 (keep 2), .int .i64 (keep 3)] rfl)
      have HM' := Lib.hid hm'
      clear hcell hcell0 hT HS hI4 hkp hb hB4 hm' hIw
      go_wp2_with fail
      clear p0 p1 p2 p3 p4 p5 p6 p7
      generalize wr.heap.size = b9 at *
      refine wp_region_heldG [2] (fun cc W => cc 2 = true ∨ Blk W b9 56 #[.int .u8 (x : Int), .int .i64 seg, .int .i64 n', .slice A' m' c', .int .i64 (keep 0), .int .i64 (keep 1), .int .i64 (keep 2), .int .i64 (keep 3)]) (by kernel_rfl) ?_
      change wpAnyG _ _ _ _ _ _ 18 _ _ (World.drew (wr.alloc (.cells #[.int .u8 (x : Int), .int .i64 seg, .int .i64 n', .slice A' m' c', .int .i64 (keep 0), .int .i64 (keep 1), .int .i64 (keep 2), .int .i64 (keep 3)] 56)))
      have hS : (false = true) ∨ Blk (wr.alloc (.cells #[.int .u8 (x : Int), .int .i64 seg, .int .i64 n', .slice A' m' c', .int .i64 (keep 0), .int .i64 (keep 1), .int .i64 (keep 2), .int .i64 (keep 3)] 56)).drew b9 56 #[.int .u8 (x : Int), .int .i64 seg, .int .i64 n', .slice A' m' c', .int .i64 (keep 0), .int .i64 (keep 1), .int .i64 (keep 2), .int .i64 (keep 3)] := .inr HO4.out
      clear HO4
      generalize (wr.alloc (.cells #[.int .u8 (x : Int), .int .i64 seg, .int .i64 n', .slice A' m' c', .int .i64 (keep 0), .int .i64 (keep 1), .int .i64 (keep 2), .int .i64 (keep 3)] 56)).drew = w4 at *
      -- take0 take1 one2 take3 take4 take5G take7G one6G one8G take9G take10 take11 take12G take14G take15G one13G take16G take17 done
      refine g_take (i := 0) rfl rfl (by kernel_rfl) (by kernel_rfl) (by kernel_rfl) (by kernel_rfl) (by kernel_rfl) (fun _ _ _ h => h) hS (fun L W hL hW => by go_simp; rfl) ?_
      refine g_take (i := 1) rfl rfl (by kernel_rfl) (by kernel_rfl) (by kernel_rfl) (by kernel_rfl) (by kernel_rfl) (fun _ _ _ h => h) hS (fun L W hL hW => run_load_row 56 (.tmp 9) rfl b9 (by go_simp) 56 #[.int .u8 (x : Int), .int .i64 seg, .int .i64 n', .slice A' m' c', .int .i64 (keep 0), .int .i64 (keep 1), .int .i64 (keep 2), .int .i64 (keep 3)] _ _ ((hW.resolve_left (by simp [came, hL 2 (by kernel_rfl)])).out) Try.underlying56 rfl (by rw [show (#[.int .u8 (x : Int), .int .i64 seg, .int .i64 n', .slice A' m' c', .int .i64 (keep 0), .int .i64 (keep 1), .int .i64 (keep 2), .int .i64 (keep 3)] : Array Value).size = 8 from rfl]; kernel_rfl)) ?_
      refine g_one (i := 2) rfl rfl (by kernel_rfl) fun K hK => ?_
      go_simp
      refine Calls.mono (step_any HT4.out x hx seg n' hsb hnb A' m' c' B HM'.out hmc' hcm' HI4.out keep HKP.out) ?_
      intro e w5 hso
      obtain ⟨rfl, F5, s5, v5, cl5, k5, hT5⟩ := hso
      have HT5 := Lib.hid hT5
      clear hT5
      refine hK _ _ (.inl rfl) ?_
      clear hK K
      refine g_turn (S' := fun cc W => cc 2 = true ∧ Blk W bm 53 (rcells s5 v5 cl5 k5)) (fun cc W h => .inl h.1) ?_
      have hS : (true = true) ∧ Blk w5 bm 53 (rcells s5 v5 cl5 k5) := ⟨rfl, HT5.out.box⟩
      refine g_take (i := 3) rfl rfl (by kernel_rfl) (by kernel_rfl) (by kernel_rfl) (by kernel_rfl) (by kernel_rfl) (fun _ _ _ h => h) hS (fun L W hL hW => by go_simp; rfl) ?_
      refine g_take (i := 4) rfl rfl (by kernel_rfl) (by kernel_rfl) (by kernel_rfl) (by kernel_rfl) (by kernel_rfl) (fun _ _ _ h => h) hS (fun L W hL hW => by go_simp; rfl) ?_
      refine g_takeG (i := 5) rfl (by simp only [Region.wanted, yielded]; go_simp) (by kernel_rfl) (by kernel_rfl) (by kernel_rfl) (by kernel_rfl) (by kernel_rfl) (fun _ _ _ h => h) hS (fun L W hL hW => by go_simp; rfl) ?_
      refine g_takeG (i := 7) rfl (by simp only [Region.wanted, yielded]; go_simp) (by kernel_rfl) (by kernel_rfl) (by kernel_rfl) (by kernel_rfl) (by kernel_rfl) (fun _ _ _ h => h) hS (fun L W hL hW => run_load_row 53 (.tmp 7) rfl bm (by go_simp) 53 (rcells s5 v5 cl5 k5) _ _ (hW.2.out) Try.underlying53 rfl (by rw [show (rcells s5 v5 cl5 k5).size = 13 from rfl]; kernel_rfl)) ?_
      refine g_one (i := 6) rfl (by simp only [Region.wanted, yielded]; go_simp) (by kernel_rfl) fun K hK => ?_
      go_simp
      refine Calls.mono (Dk.free_any HT5.out.at_) ?_
      rintro e w6 ⟨rfl, hb6⟩
      have HT6 := Lib.hid (HT5.out.below hb6)
      have HOK6 := Lib.hid HT5.out.at_.ok
      clear HT5 hb6
      have hS : (true = true) ∧ Blk w6 bm 53 (rcells s5 v5 cl5 k5) := ⟨rfl, HT6.out.box⟩
      refine hK _ _ hS ?_
      clear hK K
      refine g_one (i := 8) rfl (by simp only [Region.wanted, yielded]; go_simp) (by kernel_rfl) fun K hK => ?_
      go_simp
      have HC := Lib.hid (rfree HOK6.out HT6.out.rv)
      unfold rval at HC
      refine Calls.mono HC.out ?_
      rintro e w7 ⟨rfl, hb7⟩
      have HT7 := Lib.hid (HT6.out.below hb7)
      clear HT6 HC hb7
      have hS : (true = true) ∧ Blk w7 bm 53 (rcells s5 v5 cl5 k5) := ⟨rfl, HT7.out.box⟩
      refine hK _ _ hS ?_
      clear hK K
      refine g_takeG (i := 9) rfl (by simp only [Region.wanted, yielded]; go_simp) (by kernel_rfl) (by kernel_rfl) (by kernel_rfl) (by kernel_rfl) (by kernel_rfl) (fun _ _ _ h => h) hS (fun L W hL hW => by go_simp; rfl) ?_
      refine g_take (i := 10) rfl rfl (by kernel_rfl) (by kernel_rfl) (by kernel_rfl) (by kernel_rfl) (by kernel_rfl) (fun _ _ _ h => h) hS (fun L W hL hW => by go_simp; rfl) ?_
      refine g_take (i := 11) rfl rfl (by kernel_rfl) (by kernel_rfl) (by kernel_rfl) (by kernel_rfl) (by kernel_rfl) (fun _ _ _ h => h) hS (fun L W hL hW => by go_simp; rfl) ?_
      refine g_takeG (i := 12) rfl (by simp only [Region.wanted, yielded]; go_simp) (by kernel_rfl) (by kernel_rfl) (by kernel_rfl) (by kernel_rfl) (by kernel_rfl) (fun _ _ _ h => h) hS (fun L W hL hW => by go_simp; rfl) ?_
      refine g_takeG (i := 14) rfl (by simp only [Region.wanted, yielded]; go_simp) (by kernel_rfl) (by kernel_rfl) (by kernel_rfl) (by kernel_rfl) (by kernel_rfl) (fun _ _ _ h => h) hS (fun L W hL hW => by go_simp; rfl) ?_
      refine g_takeG (i := 15) rfl (by simp only [Region.wanted, yielded]; go_simp) (by kernel_rfl) (by kernel_rfl) (by kernel_rfl) (by kernel_rfl) (by kernel_rfl) (fun _ _ _ h => h) hS (fun L W hL hW => by have q := hW.2.at_ 12 rfl; go_simp; rfl) ?_
      refine g_one (i := 13) rfl (by simp only [Region.wanted, yielded]; go_simp) (by kernel_rfl) fun K hK => ?_
      go_simp
      refine Calls.mono (Dk.dead_any HT7.out.at_) ?_
      rintro e y7 ⟨rfl, rfl⟩
      refine hK _ _ hS ?_
      clear hK K
      refine g_takeG (i := 16) rfl (by simp only [Region.wanted, yielded]; go_simp) (by kernel_rfl) (by kernel_rfl) (by kernel_rfl) (by kernel_rfl) (by kernel_rfl) (fun _ _ _ h => h) hS (fun L W hL hW => by go_simp; rfl) ?_
      refine g_take (i := 17) rfl rfl (by kernel_rfl) (by kernel_rfl) (by kernel_rfl) (by kernel_rfl) (by kernel_rfl) (fun _ _ _ h => h) hS (fun L W hL hW => by go_simp; rfl) ?_
      refine wpAnyG_done (by kernel_rfl) ?_ _
      go_simp
      clear hS HKP HI4
      go_wp2_with fail
      have HS7 : Hid (∃ F s v cl k, TD w w7 (fun _ => False) F g s bm v cl k) := Lib.hid ⟨_, _, _, _, _, HT7.out⟩
      go_loopw [10] (fun i wr => ∃ ii : Int, -1 ≤ ii ∧ ii ≤ 3 ∧ i = .int .i64 ii ∧ Hid (∃ F s v cl k, TD w wr (fun _ => False) F g s bm v cl k)) (fun i _ => (3 - intOf i).toNat)
      case atStart => exact ⟨-1, by omega, by omega, rfl, HS7⟩
      case round =>
        clear HS7
        obtain ⟨ii, hi0, hi3, rfl, HS⟩ := hrel
        clear HT7
        by_cases hlt : ii ≤ 2
        · obtain ⟨F, s, v, cl, k, hT⟩ := HS.out
          have HT := Lib.hid hT
          have hlo : ∀ i, (rd s i).length ≤ 1048576 := fun i => rd_le hT.at_.ok i
          clear hT HS
          go_wp2_with fail
          refine Calls.mono (Dk.read_any HT.out.at_ ii) ?_
          rintro e w2 ⟨u1, rfl, hown, hb2⟩
          generalize hn1 : (rd s ii).length = n1 at hown
          obtain ⟨A1, c1, hu⟩ := own_form hown
          subst hu
          have HN1 := Lib.hid hn1.symm
          have HB1 := Lib.hid (own_bytes2 hown)
          have HW1 := Lib.hid (wb_own hown)
          have HT2 := Lib.hid (HT.out.mark (E' := fun x => ∃ o, A1 = some ⟨x, o, none⟩) hb2 (fun j ⟨o, hj⟩ => .inr ((wb_own hown).2 j o hj)))
          clear hown hb2 HT hn1
          go_wp2_with fail
          refine Calls.mono (Dk.head2_any HT2.out.at_ ii) ?_
          rintro e w3 ⟨A2, c2, rfl, hc2, hm2, hr2, hb3, hx2⟩
          generalize hn2 : (hd s ii).length = n2 at *
          have HN2 := Lib.hid hn2.symm
          have HB2 := Lib.hid hr2
          have HB1' := Lib.hid (HB1.out.grow hb3)
          have HNE : Hid (∀ x1 o1 x2 o2, A1 = some ⟨x1, o1, none⟩ → A2 = some ⟨x2, o2, none⟩ → x1 ≠ x2) := Lib.hid (fun x1 o1 x2 o2 e1 e2 e => by have h1 := (HW1.out.2 x1 o1 e1).2; have h2 := (hx2 x2 o2 e2).1; omega)
          have HW2 : Hid (Wb w3 A2 n2) := Lib.hid ⟨hd s ii, HN2.out, hr2, fun x o e => (hx2 x o e).2.2⟩
          have HW1' := Lib.hid (HW1.out.1.below (fun x o e => (HW1.out.2 x o e).2) hb3)
          have HTC := Lib.hid (HT2.out.mark (E' := fun x => (∃ o, A1 = some ⟨x, o, none⟩) ∨ ∃ o, A2 = some ⟨x, o, none⟩) hb3 (fun j hj => hj.elim .inl (fun ⟨o, h⟩ => .inr ⟨(hx2 j o h).1, (hx2 j o h).2.1⟩)))
          clear hr2 hb3 hx2 HT2 hn2 HB1 HW1
          have HR1 := Lib.hid (rread HTC.out.at_.ok HTC.out.rv ii)
          unfold rval at HR1
          go_wp2_with (refine wpList_load_row rfl 53 (.tmp 7) rfl bm rfl 53 (rcells s v cl k) _ _ HTC.out.box.out Try.underlying53 rfl (by rw [show (rcells s v cl k).size = 13 from rfl]; kernel_rfl) ?_)
          refine Calls.mono HR1.out ?_
          rintro e w4 ⟨u3, rfl, hown, hb4⟩
          obtain ⟨A3, c3, hu, -, -, hr3⟩ := Dk.own_read hown
          subst hu
          have HT4 := Lib.hid (HTC.out.below hb4)
          have hB1'' := HB1'.out.grow hb4
          have HB2' := Lib.hid (HB2.out.grow hb4)
          have HW14 := Lib.hid (HW1'.out.below (fun x o e => (HTC.out.sub x (.inl ⟨o, e⟩)).2.1) hb4)
          have HW24 := Lib.hid (HW2.out.below (fun x o e => (HTC.out.sub x (.inr ⟨o, e⟩)).2.1) hb4)
          clear hown hb4 HR1 HTC HB1' HB2 HW1' HW2
          have HSM := Lib.hid (Dk.same_any A1 A3 c1 c3 (rd s ii) (rd s ii) n1 (rd s ii).length HN1.out rfl w4 hB1'' hr3)
          rw [beq_self_eq_true] at HSM
          clear hB1'' hr3
          have hn1 : n1 ≤ 1048576 := by rw [HN1.out]; exact hlo ii
          clear hlo
          generalize (rd s ii).length = n3 at *
          go_wp2_with fail
          refine Calls.mono HSM.out ?_
          rintro e y4 ⟨rfl, rfl⟩
          have HTC := HT4
          have HR2 := Lib.hid (rhead HTC.out.at_.ok HTC.out.rv ii)
          unfold rval at HR2
          clear HSM HT4
          go_wp2_with (refine wpList_load_row_g (by simp only [Region.wanted, yielded]; go_simp) 53 (.tmp 7) rfl bm rfl 53 (rcells s v cl k) _ _ HTC.out.box.out Try.underlying53 rfl (by rw [show (rcells s v cl k).size = 13 from rfl]; kernel_rfl) ?_)
          refine Calls.mono HR2.out ?_
          rintro e w5 ⟨⟨⟨A5, n5, c5⟩, rfl, href⟩, hb5⟩
          have HT5 := Lib.hid (HTC.out.below hb5)
          have hB2'' := HB2'.out.grow hb5
          have HW15 := Lib.hid (HW14.out.below (fun x o e => (HTC.out.sub x (.inl ⟨o, e⟩)).2.1) hb5)
          have HW25 := Lib.hid (HW24.out.below (fun x o e => (HTC.out.sub x (.inr ⟨o, e⟩)).2.1) hb5)
          have HSM := Lib.hid (Dk.same_any A2 A5 c2 c5 (hd s ii) (hd s ii) n2 n5 HN2.out href.len w5 hB2'' href.bytes)
          rw [beq_self_eq_true] at HSM
          clear hb5 HR2 HTC HB2' HW14 HW24 hB2'' href
          go_wp2_with fail
          refine Calls.mono HSM.out ?_
          rintro e y5 ⟨rfl, rfl⟩
          have HS5 : Hid ((∃ F s v cl k, TD w w5 (fun x => (∃ o, A1 = some ⟨x, o, none⟩) ∨ ∃ o, A2 = some ⟨x, o, none⟩) F g s bm v cl k) ∧ Wb w5 A1 n1 ∧ Wb w5 A2 n2) := Lib.hid ⟨⟨F, s, v, cl, k, HT5.out⟩, HW15.out, HW25.out⟩
          have hn2 : n2 ≤ 1048576 := by rw [HN2.out]; exact hd_le HT5.out.at_.ok ii
          clear HSM HT5 HW15 HW25 HN1 HN2
          go_wp2_with fail
          go_loopw [89] (fun i wr => ∃ j : Nat, j ≤ n1 ∧ i = .int .i64 j ∧ Hid ((∃ F s v cl k, TD w wr (fun x => (∃ o, A1 = some ⟨x, o, none⟩) ∨ ∃ o, A2 = some ⟨x, o, none⟩) F g s bm v cl k) ∧ Wb wr A1 n1 ∧ Wb wr A2 n2)) (fun i _ => n1 - (intOf i).toNat)
          case atStart => exact ⟨0, Nat.zero_le _, rfl, HS5⟩
          case round =>
            obtain ⟨j, hj, rfl, HS⟩ := hrel
            clear HS5
            by_cases hl1 : j < n1
            · obtain ⟨⟨F3, s3, v3, cl3, k3, hT⟩, hw1, hw2⟩ := HS.out
              obtain ⟨x1, o1, y, rfl, qa, qf⟩ := hw1.cell hl1
              have HN : Hid ((∃ F s v cl k, TD w (wr.setCell ⟨x1, o1 + j, none⟩ (.int .u8 ((y + 1).toNat : Nat))) (fun x => (∃ o, (some ⟨x1, o1, none⟩ : Option Addr) = some ⟨x, o, none⟩) ∨ ∃ o, A2 = some ⟨x, o, none⟩) F g s bm v cl k) ∧ Wb (wr.setCell ⟨x1, o1 + j, none⟩ (.int .u8 ((y + 1).toNat : Nat))) (some ⟨x1, o1, none⟩) n1 ∧ Wb (wr.setCell ⟨x1, o1 + j, none⟩ (.int .u8 ((y + 1).toNat : Nat))) A2 n2) :=
                Lib.hid ⟨⟨F3, s3, v3, cl3, k3, hT.own (Fr.setCell (p := ⟨x1, o1 + j, none⟩) (Fr.refl _ _) (.inl (.inl ⟨o1, rfl⟩)) _)⟩, hw1.set_ hl1 (y + 1), hw2.far (fun x o e => HNE.out x1 o1 x o rfl e) _ _⟩
              have hw := u8_succ y
              have i1 : (0 : Int) ≤ (j : Int) := by omega
              have i2 : (j : Int) < (n1 : Int) := by omega
              generalize y + 1 = y1 at *
              clear hT hw1 hw2 HS
              go_wp2_with fail
              go_roundw
              case rel => exact ⟨j + 1, by omega, by go_num, HN⟩
              case measure => simp [intOf]; omega
            · have hjq : j = n1 := by omega
              subst hjq
              have HS6 : Hid ((∃ F s v cl k, TD w wr (fun x => ∃ o, A2 = some ⟨x, o, none⟩) F g s bm v cl k) ∧ Wb wr A2 n2) := Lib.hid (by
                obtain ⟨⟨F3, s3, v3, cl3, k3, hT⟩, hw1, hw2⟩ := HS.out
                exact ⟨⟨F3, s3, v3, cl3, k3, hT.unmark (fun _ h => .inr h)⟩, hw2⟩)
              clear HS hl1
              generalize hW6 : wr = w6 at *
              clear hW6
              go_wp2_with fail
              go_loopw [101] (fun i wr => ∃ j : Nat, j ≤ n2 ∧ i = .int .i64 j ∧ Hid ((∃ F s v cl k, TD w wr (fun x => ∃ o, A2 = some ⟨x, o, none⟩) F g s bm v cl k) ∧ Wb wr A2 n2)) (fun i _ => n2 - (intOf i).toNat)
              case atStart => exact ⟨0, Nat.zero_le _, rfl, HS6⟩
              case round =>
                obtain ⟨j2, hj2, rfl, HS⟩ := hrel
                clear HS6
                by_cases hl2 : j2 < n2
                · obtain ⟨⟨F3, s3, v3, cl3, k3, hT⟩, hw2⟩ := HS.out
                  obtain ⟨x1, o1, y, rfl, qa, qf⟩ := hw2.cell hl2
                  have HN : Hid ((∃ F s v cl k, TD w (wr.setCell ⟨x1, o1 + j2, none⟩ (.int .u8 ((y + 1).toNat : Nat))) (fun x => ∃ o, (some ⟨x1, o1, none⟩ : Option Addr) = some ⟨x, o, none⟩) F g s bm v cl k) ∧ Wb (wr.setCell ⟨x1, o1 + j2, none⟩ (.int .u8 ((y + 1).toNat : Nat))) (some ⟨x1, o1, none⟩) n2) :=
                    Lib.hid ⟨⟨F3, s3, v3, cl3, k3, hT.own (Fr.setCell (p := ⟨x1, o1 + j2, none⟩) (Fr.refl _ _) (.inl ⟨o1, rfl⟩) _)⟩, hw2.set_ hl2 (y + 1)⟩
                  have hw := u8_succ y
                  have i1 : (0 : Int) ≤ (j2 : Int) := by omega
                  have i2 : (j2 : Int) < (n2 : Int) := by omega
                  generalize y + 1 = y1 at *
                  clear hT hw2 HS HNE
                  go_wp2_with fail
                  go_roundw
                  case rel => exact ⟨j2 + 1, by omega, by go_num, HN⟩
                  case measure => simp [intOf]; omega
                · have hjq : j2 = n2 := by omega
                  subst hjq
                  have HN : Hid (∃ F s v cl k, TD w wr (fun _ => False) F g s bm v cl k) := Lib.hid (by
                    obtain ⟨⟨F3, s3, v3, cl3, k3, hT⟩, hw2⟩ := HS.out
                    exact ⟨F3, s3, v3, cl3, k3, hT.unmark (fun _ h => h.elim)⟩)
                  clear HS hl2 HNE
                  go_wp2_with fail
                  go_roundw
                  case rel => exact ⟨ii + 1, by omega, by omega, rfl, HN⟩
                  case measure => simp [intOf]; omega
        · have hi : ii = 3 := by omega
          subst hi
          go_wp2_with fail
          go_roundw
          case rel => exact ⟨j0 + 1, by omega, by go_num, HS⟩
          case measure => simp [intOf]; omega
    · have hjm : j0 = mm := by omega
      subst hjm
      obtain ⟨F0, s0, v0, cl0, k0, hT⟩ := HS.out
      have HL := Lib.hid hT.low
      clear hT HS hlt0
      go_wp2_with fail
      refine Calls.mono (Dk.awake_any _) ?_
      rintro e w9 ⟨rfl, hb⟩
      have HF := Lib.hid (HL.out.trans (hb.mono HL.out.size))
      clear HL hb
      go_wp2_with fail
      go_ret
      exact ⟨rfl, HF.out⟩
end Go.Proofs.Ytgajgjijnpigoaa.Dr
