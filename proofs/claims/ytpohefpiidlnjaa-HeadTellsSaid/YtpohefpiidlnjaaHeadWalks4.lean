/-
  The walk of Read.
-/
import Derived.Test.YtpohefpiidlnjaaHeadWalks3
namespace Go.Proofs.Ytpohefpiidlnjaa.HdW
set_option linter.unusedVariables false
open Go Go.RowKit Go.Shelf Go.Proofs Go.Proofs.Ytpohefpiidlnjaa Go.Proofs.Ytpohefpiidlnjaa.Wd Go.Proofs.Ytpohefpiidlnjaa.Dk Go.Proofs.Ytpohefpiidlnjaa.Hd

/-- Two results, the first of them a row that lies in memory. -/
theorem results_cell_row2 {P : Program} {fn : Func} {p t : Tmp} {ty : TypeId} (h : fn.results = #[.cell p ty, .tmp t]) (tmps : Array Value) (w : World) (g : Nat) (te : TypeId) (cs : Array Value) (fr : Nat × Nat) (d : TypeDesc)
    (hp : tmps.getD p undef = .pointer (some ⟨g, 0, none⟩)) (hg : w.heap[g]? = some (.cells cs te fr))
    (hu : P.underlying ty = some d) (hd : (match d with | .struct _ | .array _ _ => true | _ => false) = true) (hi : (P.info? ty).map (·.size) = some cs.size) :
    (results fn tmps).run P w = .ok (.tuple #[.agg cs, tmps.getD t undef]) w := by
  have hp' : tmps[p]?.getD undef = .pointer (some ⟨g, 0, none⟩) := by simpa using hp
  simp [results, h, hp', asAddr, run_loadVar_row w g te ty cs fr d hg hu hd hi]
theorem op_put_row {P : Program} {o : Oper} {a : Act} {w : World} {K : Act → World → Prop} {Q : Exit → Act → World → Prop} (hgd : o.guard = none) (hd : o.dst = none) (ty : TypeId) (x v : Operand) (ho : o.op = .store ty x v)
    (g : Nat) (hx : a.eval x = .pointer (some ⟨g, 0, none⟩)) (t : TypeId) (old cs : Array Value) (hv : a.eval v = .agg cs) (hg : Blk w g t old)
    (hi : (P.info? ty).map (·.size) = some cs.size) (hs : old.size = cs.size) (h1 : ∀ u ∈ cs.toList, u.oneCell' = true)
    (h : K a (w.setRow g cs)) : o.wp P a w K Q := by
  have h : K (a.put o.dst undef) (w.setRow g cs) := by rw [hd]; exact h
  unfold Oper.wp execOp
  have hrun := run_storeVar_row (P := P) w g t ty old cs hg hi hs (by rw [Array.all_eq_true']; exact fun u hu => h1 u (by simpa using hu))
  simp only [ho, hx, hv, Instr.storeAt, Instr.sureAddr, Sem.run_bind, Sem.run_pure, Result.andThen_ok, hrun]
  exact h
theorem below_row {B : Nat} {w w' : World} (h : Below B w w') {g : Nat} (hg : B ≤ g) (cs : Array Value) : Below B w (w'.setRow g cs) := h.trans ⟨rfl, rfl, rfl, by simp [World.setRow], fun j hj => setRow_other _ _ _ _ (by omega)⟩
/-- A head's cells. -/
def hv (h : H) : Array Value := #[.int .u64 h.serial, .int .u64 h.epoch, .int .u8 h.live]
/-- What Read answers. -/
def readR (b : List UInt8) : H × Bool := match Hd.read b with | some h => (h, true) | none => (none_, false)
set_option maxRecDepth 100000 in
set_option maxHeartbeats 1000000 in
theorem read_any (A : Option Addr) (c : Nat) (b : List UInt8) (n : Nat) (hn : n = b.length) (hc0 : n ≤ c) (hcm : c ≤ maxLen) (w : World) (hI : Bytes w w.heap.size A b) :
    Calls Try.prog 12 #[.slice A n c] w fun e w' => e = .returned (.tuple #[.agg (hv (readR b).1), .bool (readR b).2]) ∧ Below w.heap.size w w' := by
  have hB := (Below.refl w.heap.size w).alloc (Nat.le_refl _) (.cells #[.int .u64 0, .int .u64 0, .int .u8 0] 24)
  have q0 := Blk.new_ w 24 #[.int .u64 0, .int .u64 0, .int .u8 0] rfl
  by_cases h32 : n = 32
  rotate_left
  · have HR : Hid (readR b = (none_, false)) := Lib.hid (by
      unfold readR Hd.read
      rw [if_neg (by rw [← hn]; exact fun h => h32 h.1)])
    have u1 : ¬ (n : Int) = 32 := by omega
    clear hI hn hc0 hcm
    go_enter Try.func12, Try.ntmps12
    go_wp2_with fail
    refine bodyPost_ret (results_cell_row2 rfl _ _ w.heap.size 24 _ (0, 0) _ rfl q0.out Try.underlying24 rfl (by kernel_rfl)) rfl ?_
    rw [HR.out]
    exact ⟨rfl, hB⟩
  · subst h32
    have HL : Hid (b.length = 32) := Lib.hid hn.symm
    obtain ⟨r, off, rfl, hr0, hc1⟩ := hI.at_ (j := 16) (by omega)
    have hc := hc0
    have hHB : Hid (∀ W, Below (w.alloc (.cells #[.int .u64 0, .int .u64 0, .int .u8 0] 24)).heap.size (w.alloc (.cells #[.int .u64 0, .int .u64 0, .int .u8 0] 24)) W → Bytes W W.heap.size (some ⟨r, off, none⟩) b) := Lib.hid fun W hW => ((hI.grow hB).grow hW)
    have HB := hHB
    obtain ⟨x, hx⟩ : ∃ x : Nat, x = (b.getD 16 0).toNat := ⟨_, rfl⟩
    have hcx : (w.alloc (.cells #[.int .u64 0, .int .u64 0, .int .u8 0] 24)).cell? ⟨r, off + 16, none⟩ = some (.int .u8 (x : Nat)) := by
      refine (hB.cell (p := ⟨r, off + 16, none⟩) hr0).trans ?_
      rw [hc1, hx]
      simp [List.getD_eq_getElem?_getD, show 16 < b.length by omega]
    have hrl0 : r < (w.alloc (.cells #[.int .u64 0, .int .u64 0, .int .u8 0] 24)).heap.size := Nat.lt_of_lt_of_le hr0 hB.size
    have HSN : Hid (hv (Hd.seen b) = #[.int .u64 (un8 (b.drop 0) : Nat), .int .u64 (un8 (b.drop 8) : Nat), .int .u8 (x : Nat)]) := Lib.hid (by rw [hx]; rfl)
    have hc2 : (16 : Int) < 32 := by omega
    clear hHB hI hc1 hx hn
    go_enter Try.func12, Try.ntmps12
    go_upto_region 3 with fail
    generalize w.alloc (.cells #[.int .u64 0, .int .u64 0, .int .u8 0] 24) = w1 at *
    go_cut [4] (fun v wx => ∃ g, v = .pointer (some ⟨g, 0, none⟩) ∧ w1.heap.size ≤ g ∧ Blk wx g 24 (hv (Hd.seen b)) ∧ Below w1.heap.size w1 wx)
    case first =>
      clear q0 hB
      refine wp_region_heldG [] (fun _ W => W.cell? ⟨r, off + 16, none⟩ = some (.int .u8 (x : Nat))) (by kernel_rfl) ?_
      change wpAnyG _ _ _ _ _ _ 10 _ _ (World.drew _)
      have hb0 := (Below.refl w1.heap.size w1).drew
      have hS : w1.drew.cell? ⟨r, off + 16, none⟩ = some (.int .u8 (x : Nat)) := hcx
      have hrl : r < w1.drew.heap.size := hrl0
      generalize w1.drew = U at *
      -- take0 take2 take4 take5 take6
      refine g_take (i := 0) rfl rfl (by kernel_rfl) (by kernel_rfl) (by kernel_rfl) (by kernel_rfl) (by kernel_rfl) (fun _ _ _ h => h) hS (fun L W hL hW => by go_simp; rfl) ?_
      refine g_take (i := 2) rfl rfl (by kernel_rfl) (by kernel_rfl) (by kernel_rfl) (by kernel_rfl) (by kernel_rfl) (fun _ _ _ h => h) hS (fun L W hL hW => by go_simp; rfl) ?_
      refine g_take (i := 4) rfl rfl (by kernel_rfl) (by kernel_rfl) (by kernel_rfl) (by kernel_rfl) (by kernel_rfl) (fun _ _ _ h => h) hS (fun L W hL hW => by go_simp; rfl) ?_
      refine g_take (i := 5) rfl rfl (by kernel_rfl) (by kernel_rfl) (by kernel_rfl) (by kernel_rfl) (by kernel_rfl) (fun _ _ _ h => h) hS (fun L W hL hW => by go_simp; rfl) ?_
      refine g_take (i := 6) rfl rfl (by kernel_rfl) (by kernel_rfl) (by kernel_rfl) (by kernel_rfl) (by kernel_rfl) (fun _ _ _ h => h) hS (fun L W hL hW => by have q1 := hW; go_simp; rfl) ?_
      refine g_two (i := 1) (j := 8) (by kernel_rfl) rfl rfl rfl rfl (fun K hK => ?_) (fun K hK => ?_)
      · go_simp
        refine Calls.mono (get_any _ c 0 (by omega) b HL.out hc hcm _ (HB.out _ hb0)) ?_
        rintro en z ⟨rfl, rfl⟩
        refine hK _ _ hS ?_
        clear hK K
        refine g_two (i := 3) (j := 8) (by kernel_rfl) rfl rfl rfl rfl (fun K hK => ?_) (fun K hK => ?_)
        · go_simp
          refine Calls.mono (get_any _ c 8 (by omega) b HL.out hc hcm _ (HB.out _ hb0)) ?_
          rintro en z ⟨rfl, rfl⟩
          refine hK _ _ hS ?_
          clear hK K
          refine g_take (i := 7) rfl rfl (by kernel_rfl) (by kernel_rfl) (by kernel_rfl) (by kernel_rfl) (by kernel_rfl) (fun _ _ _ h => h) hS (fun L W hL hW => by go_simp; rfl) ?_
          refine g_one (i := 8) rfl rfl (by kernel_rfl) fun K hK => ?_
          have hb1 := hb0.alloc hb0.size (.cells #[.int .u64 0, .int .u64 0, .int .u8 0] 24)
          have q := Blk.new_ U 24 #[.int .u64 0, .int .u64 0, .int .u8 0] rfl
          have hg := hb0.size
          have hS1 := (((Below.refl _ U).alloc (Nat.le_refl _) (.cells #[.int .u64 0, .int .u64 0, .int .u8 0] 24)).cell (p := ⟨r, off + 16, none⟩) hrl).trans hS
          clear hb0 hS
          have hb0 := hb1
          have hS := hS1
          clear hb1 hS1
          go_simp
          refine hK _ _ hS ?_
          clear hK K
          generalize U.alloc (.cells #[.int .u64 0, .int .u64 0, .int .u8 0] 24) = U2 at *
          refine g_one (i := 9) rfl rfl (by kernel_rfl) fun K hK => ?_
          refine op_put_row rfl rfl _ _ _ rfl _ rfl _ _ #[.int .u64 (un8 (b.drop 0) : Nat), .int .u64 (un8 (b.drop 8) : Nat), .int .u8 (x : Nat)] rfl q (by kernel_rfl) rfl (fun u hu => by simp at hu; rcases hu with rfl | rfl | rfl <;> rfl) ?_
          refine hK _ _ ((cell_setRow_other _ _ _ _ (Nat.ne_of_lt hrl)).trans hS) ?_
          clear hK K
          refine wpAnyG_done (by kernel_rfl) ?_ _
          go_simp
          go_wp2_with fail
          go_meet
          exact ⟨_, rfl, hg, by rw [HSN.out]; exact q.row _, below_row hb0 hg _⟩
        · have hb1 := hb0.alloc hb0.size (.cells #[.int .u64 0, .int .u64 0, .int .u8 0] 24)
          have q := Blk.new_ U 24 #[.int .u64 0, .int .u64 0, .int .u8 0] rfl
          have hg := hb0.size
          have hS1 := (((Below.refl _ U).alloc (Nat.le_refl _) (.cells #[.int .u64 0, .int .u64 0, .int .u8 0] 24)).cell (p := ⟨r, off + 16, none⟩) hrl).trans hS
          clear hb0 hS
          have hb0 := hb1
          have hS := hS1
          clear hb1 hS1
          go_simp
          refine hK _ _ hS ?_
          clear hK K
          generalize U.alloc (.cells #[.int .u64 0, .int .u64 0, .int .u8 0] 24) = U2 at *
          refine g_one (i := 3) rfl rfl (by kernel_rfl) fun K hK => ?_
          go_simp
          refine Calls.mono (get_any _ c 8 (by omega) b HL.out hc hcm _ (HB.out _ hb0)) ?_
          rintro en z ⟨rfl, rfl⟩
          refine hK _ _ hS ?_
          clear hK K
          refine g_take (i := 7) rfl rfl (by kernel_rfl) (by kernel_rfl) (by kernel_rfl) (by kernel_rfl) (by kernel_rfl) (fun _ _ _ h => h) hS (fun L W hL hW => by go_simp; rfl) ?_
          refine g_one (i := 9) rfl rfl (by kernel_rfl) fun K hK => ?_
          refine op_put_row rfl rfl _ _ _ rfl _ rfl _ _ #[.int .u64 (un8 (b.drop 0) : Nat), .int .u64 (un8 (b.drop 8) : Nat), .int .u8 (x : Nat)] rfl q (by kernel_rfl) rfl (fun u hu => by simp at hu; rcases hu with rfl | rfl | rfl <;> rfl) ?_
          refine hK _ _ ((cell_setRow_other _ _ _ _ (Nat.ne_of_lt hrl)).trans hS) ?_
          clear hK K
          refine wpAnyG_done (by kernel_rfl) ?_ _
          go_simp
          go_wp2_with fail
          go_meet
          exact ⟨_, rfl, hg, by rw [HSN.out]; exact q.row _, below_row hb0 hg _⟩
      · have hb1 := hb0.alloc hb0.size (.cells #[.int .u64 0, .int .u64 0, .int .u8 0] 24)
        have q := Blk.new_ U 24 #[.int .u64 0, .int .u64 0, .int .u8 0] rfl
        have hg := hb0.size
        have hS1 := (((Below.refl _ U).alloc (Nat.le_refl _) (.cells #[.int .u64 0, .int .u64 0, .int .u8 0] 24)).cell (p := ⟨r, off + 16, none⟩) hrl).trans hS
        clear hb0 hS
        have hb0 := hb1
        have hS := hS1
        clear hb1 hS1
        go_simp
        refine hK _ _ hS ?_
        clear hK K
        generalize U.alloc (.cells #[.int .u64 0, .int .u64 0, .int .u8 0] 24) = U2 at *
        refine g_one (i := 1) rfl rfl (by kernel_rfl) fun K hK => ?_
        go_simp
        refine Calls.mono (get_any _ c 0 (by omega) b HL.out hc hcm _ (HB.out _ hb0)) ?_
        rintro en z ⟨rfl, rfl⟩
        refine hK _ _ hS ?_
        clear hK K
        refine g_one (i := 3) rfl rfl (by kernel_rfl) fun K hK => ?_
        go_simp
        refine Calls.mono (get_any _ c 8 (by omega) b HL.out hc hcm _ (HB.out _ hb0)) ?_
        rintro en z ⟨rfl, rfl⟩
        refine hK _ _ hS ?_
        clear hK K
        refine g_take (i := 7) rfl rfl (by kernel_rfl) (by kernel_rfl) (by kernel_rfl) (by kernel_rfl) (by kernel_rfl) (fun _ _ _ h => h) hS (fun L W hL hW => by go_simp; rfl) ?_
        refine g_one (i := 9) rfl rfl (by kernel_rfl) fun K hK => ?_
        refine op_put_row rfl rfl _ _ _ rfl _ rfl _ _ #[.int .u64 (un8 (b.drop 0) : Nat), .int .u64 (un8 (b.drop 8) : Nat), .int .u8 (x : Nat)] rfl q (by kernel_rfl) rfl (fun u hu => by simp at hu; rcases hu with rfl | rfl | rfl <;> rfl) ?_
        refine hK _ _ ((cell_setRow_other _ _ _ _ (Nat.ne_of_lt hrl)).trans hS) ?_
        clear hK K
        refine wpAnyG_done (by kernel_rfl) ?_ _
        go_simp
        go_wp2_with fail
        go_meet
        exact ⟨_, rfl, hg, by rw [HSN.out]; exact q.row _, below_row hb0 hg _⟩
    case rest =>
    obtain ⟨g, rfl, hg, q, hb⟩ := hcut
    have hBc := hB.trans (hb.mono hB.size)
    have q2 := q0.below hb q0.lt
    have HBc := HB.out _ hb
    clear q0 hB hb HSN HB hcx hrl0
    obtain ⟨⟨s, e, l⟩, hse⟩ : ∃ h : H, h = Hd.seen b := ⟨_, rfl⟩
    have wf : Wf ⟨s, e, l⟩ := hse ▸ seen_wf b
    rw [← hse] at q
    have hcr : Hid (readR b = if right ⟨s, e, l⟩ = true ∧ b = Hd.bytes ⟨s, e, l⟩ then (⟨s, e, l⟩, true) else (none_, false)) := Lib.hid (by
      unfold readR Hd.read
      rw [← hse]
      by_cases hh : right ⟨s, e, l⟩ = true ∧ b = Hd.bytes ⟨s, e, l⟩
      · rw [if_pos hh, if_pos ⟨HL.out, hh⟩]
      · rw [if_neg hh, if_neg (fun h => hh h.2)])
    clear hse
    have f0 := Blk.at_ q 0 (v := .int .u64 (s : Nat)) rfl
    have f1 := Blk.at_ q 1 (v := .int .u64 (e : Nat)) rfl
    have f2 := Blk.at_ q 2 (v := .int .u8 (l : Nat)) rfl
    have z0 := Blk.at_ q2 0 (v := .int .u64 0) rfl
    have z1 := Blk.at_ q2 1 (v := .int .u64 0) rfl
    have z2 := Blk.at_ q2 2 (v := .int .u8 0) rfl
    have zf := q2.frozen
    have hBy := bytes_any s e l wf wc
    have hlt := q2.lt
    cases hr : right ⟨s, e, l⟩
    · have HX : bytesR ⟨s, e, l⟩ = ([], 50) := by unfold bytesR; rw [hr]; rfl
      have HR : Hid (readR b = (none_, false)) := Lib.hid (by rw [hcr.out, hr]; simp)
      rw [HX] at hBy
      clear hr hcr HX
      go_wp2_with fail
      refine Calls.mono hBy ?_
      rintro en y1 ⟨A2, c2, rfl, hl2, hcm2, hJ, hb3, -⟩
      have q3 := q2.below hb3 q2.lt
      have hB3 := hBc.trans (hb3.mono hBc.size)
      clear q2 z0 z1 z2 zf f0 f1 f2 q hb3 hBc hBy
      have z0 := Blk.at_ q3 0 (v := .int .u64 0) rfl
      have z1 := Blk.at_ q3 1 (v := .int .u64 0) rfl
      have z2 := Blk.at_ q3 2 (v := .int .u8 0) rfl
      have zf := q3.frozen
      go_wp2_with fail
      have q4 := ((q3.set_ 0 (.int .u64 0)).set_ 1 (.int .u64 0)).set_ 2 (.int .u8 0)
      have hB4 := ((hB3.setCell (p := ⟨w.heap.size, 0, none⟩) (Nat.le_refl _) (.int .u64 0)).setCell (p := ⟨w.heap.size, 1, none⟩) (Nat.le_refl _) (.int .u64 0)).setCell (p := ⟨w.heap.size, 2, none⟩) (Nat.le_refl _) (.int .u8 0)
      refine bodyPost_ret (results_cell_row2 rfl _ _ w.heap.size 24 #[.int .u64 0, .int .u64 0, .int .u8 0] (0, 0) _ rfl q4.out Try.underlying24 rfl (by kernel_rfl)) rfl ?_
      rw [HR.out]
      exact ⟨rfl, hB4⟩
    · obtain ⟨k, hk⟩ : ∃ k, k = Hd.bytes ⟨s, e, l⟩ := ⟨_, rfl⟩
      have hk32 : k.length = 32 := by rw [hk]; rfl
      have HK : Hid (k.length = 32) := Lib.hid hk32
      have HX : bytesR ⟨s, e, l⟩ = (k, 0) := by unfold bytesR; rw [hr, hk]; rfl
      have HC : Hid (readR b = if (b == k) = true then (⟨s, e, l⟩, true) else (none_, false)) := Lib.hid (by rw [hcr.out, hr, hk]; simp)
      rw [HX] at hBy
      clear hr hcr HX hk
      go_wp2_with fail
      refine Calls.mono hBy ?_
      rintro en y1 ⟨A2, c2, rfl, hl2, hcm2, hJ, hb3, -⟩
      rw [HK.out] at hl2
      have q3 := q2.below hb3 q2.lt
      have qq := q.below hb3 q.lt
      have hB3 := hBc.trans (hb3.mono hBc.size)
      have hI := HBc.grow hb3
      clear q2 z0 z1 z2 zf f0 f1 f2 q hb3 hBc hBy HBc hlt
      rw [hk32]
      have HQ3 := Lib.hid q3
      have HQQ := Lib.hid qq
      have HJ := Lib.hid hJ
      have HI := Lib.hid hI
      clear q3 qq hJ hI hk32
      go_wp2_with fail
      refine Calls.mono (equal_any (some ⟨r, off, none⟩) A2 c c2 b k 32 32 HL.out.symm HK.out.symm hc0 hl2 (by omega) _ HI.out HJ.out) ?_
      rintro en y2 ⟨rfl, hb4⟩
      have q3 := HQ3.out.below hb4 HQ3.out.lt
      have qq := HQQ.out.below hb4 HQQ.out.lt
      have hB3 := hB3.trans (hb4.mono hB3.size)
      clear hb4
      have f0 := Blk.at_ qq 0 (v := .int .u64 (s : Nat)) rfl
      have f1 := Blk.at_ qq 1 (v := .int .u64 (e : Nat)) rfl
      have f2 := Blk.at_ qq 2 (v := .int .u8 (l : Nat)) rfl
      have z0 := Blk.at_ q3 0 (v := .int .u64 0) rfl
      have z1 := Blk.at_ q3 1 (v := .int .u64 0) rfl
      have z2 := Blk.at_ q3 2 (v := .int .u8 0) rfl
      have zf := q3.frozen
      cases hq : (b == k)
      · have HR : Hid (readR b = (none_, false)) := Lib.hid (by rw [HC.out, hq]; rfl)
        clear hq HC qq
        go_wp2_with fail
        have q4 := ((q3.set_ 0 (.int .u64 0)).set_ 1 (.int .u64 0)).set_ 2 (.int .u8 0)
        have hB4 := ((hB3.setCell (p := ⟨w.heap.size, 0, none⟩) (Nat.le_refl _) (.int .u64 0)).setCell (p := ⟨w.heap.size, 1, none⟩) (Nat.le_refl _) (.int .u64 0)).setCell (p := ⟨w.heap.size, 2, none⟩) (Nat.le_refl _) (.int .u8 0)
        refine bodyPost_ret (results_cell_row2 rfl _ _ w.heap.size 24 #[.int .u64 0, .int .u64 0, .int .u8 0] (0, 0) _ rfl q4.out Try.underlying24 rfl (by kernel_rfl)) rfl ?_
        rw [HR.out]
        exact ⟨rfl, hB4⟩
      · have HR : Hid (readR b = (⟨s, e, l⟩, true)) := Lib.hid (by rw [HC.out, hq]; rfl)
        clear hq HC
        go_wp2_with fail
        have q4 := ((q3.set_ 0 (.int .u64 (s : Nat))).set_ 1 (.int .u64 (e : Nat))).set_ 2 (.int .u8 (l : Nat))
        have hB4 := ((hB3.setCell (p := ⟨w.heap.size, 0, none⟩) (Nat.le_refl _) (.int .u64 (s : Nat))).setCell (p := ⟨w.heap.size, 1, none⟩) (Nat.le_refl _) (.int .u64 (e : Nat))).setCell (p := ⟨w.heap.size, 2, none⟩) (Nat.le_refl _) (.int .u8 (l : Nat))
        refine bodyPost_ret (results_cell_row2 rfl _ _ w.heap.size 24 #[.int .u64 (s : Nat), .int .u64 (e : Nat), .int .u8 (l : Nat)] (0, 0) _ rfl q4.out Try.underlying24 rfl (by kernel_rfl)) rfl ?_
        rw [HR.out]
        exact ⟨rfl, hB4⟩
end Go.Proofs.Ytpohefpiidlnjaa.HdW
