/-
  The walk of HeadBack.
-/
import Derived.Test.YtpohefpiidlnjaaHeadAwake
namespace Go.Proofs.Ytpohefpiidlnjaa.HdW
set_option linter.unusedVariables false
open Go Go.RowKit Go.Shelf Go.Proofs Go.Proofs.Ytpohefpiidlnjaa Go.Proofs.Ytpohefpiidlnjaa.Wd Go.Proofs.Ytpohefpiidlnjaa.Dk Go.Proofs.Ytpohefpiidlnjaa.Hd

theorem bytesR_code (h : H) : (bytesR h).2 = if right h = true then 0 else 50 := by unfold bytesR; cases right h <;> rfl
theorem bytesR_right {h : H} (r : right h = true) : bytesR h = (Hd.bytes h, 0) := by unfold bytesR; rw [r]; rfl
theorem bytesR_wrong {h : H} (r : right h = false) : bytesR h = ([], 50) := by unfold bytesR; rw [r]; rfl
theorem readR_ok {b : List UInt8} {h : H} (r : readR b = (h, true)) : right h = true ∧ b = Hd.bytes h ∧ Wf h := by
  unfold readR at r
  cases hr : Hd.read b with
  | none => rw [hr] at r; cases r
  | some x => rw [hr] at r; cases r; exact read_some hr
theorem readR_bytes {h : H} (w : Wf h) (r : right h = true) : readR (Hd.bytes h) = (h, true) := by unfold readR; rw [read_bytes w r]
set_option maxRecDepth 100000 in
set_option maxHeartbeats 2000000 in
theorem back_walk (a0 b0 c0 a1 b1 c1 : Nat) (wg : Wf ⟨a0, b0, c0⟩) (wh : Wf ⟨a1, b1, c1⟩) (A : Option Addr) (n cp : Nat) (l : List UInt8) (hn : n = l.length) (hnc : n ≤ cp) (hcm : cp ≤ maxLen) (w : World) (hI : Bytes w w.heap.size A l) :
    Calls Try.prog 3 #[.agg #[.int .u64 (a0 : Nat), .int .u64 (b0 : Nat), .int .u8 (c0 : Nat)], .agg #[.int .u64 (a1 : Nat), .int .u64 (b1 : Nat), .int .u8 (c1 : Nat)], .slice A n cp] w fun e w' => e = .returned (.bool true) ∧ Below w.heap.size w w' := by
  have p3 := (Blk.new_ w 24 #[.int .u64 (a0 : Nat), .int .u64 (b0 : Nat), .int .u8 (c0 : Nat)] rfl).alloc (.cells #[.int .u64 (a1 : Nat), .int .u64 (b1 : Nat), .int .u8 (c1 : Nat)] 24)
  have p4 := Blk.new_ (w.alloc (.cells #[.int .u64 (a0 : Nat), .int .u64 (b0 : Nat), .int .u8 (c0 : Nat)] 24)) 24 #[.int .u64 (a1 : Nat), .int .u64 (b1 : Nat), .int .u8 (c1 : Nat)] (n := w.heap.size + 1) (by simp)
  have hB := ((Below.refl w.heap.size w).alloc (Nat.le_refl _) (.cells #[.int .u64 (a0 : Nat), .int .u64 (b0 : Nat), .int .u8 (c0 : Nat)] 24)).alloc (by simp) (.cells #[.int .u64 (a1 : Nat), .int .u64 (b1 : Nat), .int .u8 (c1 : Nat)] 24)
  have hJ := hI.grow hB
  have HN := Lib.hid hn
  clear hI hn
  by_cases h40 : n ≤ 40
  rotate_left
  · have u1 : ¬ (n : Int) ≤ 40 := by omega
    clear h40 hnc hcm HN hJ p3 p4
    go_enter Try.func3, Try.ntmps3
    go_wp2_with fail
    refine Calls.mono (awake_any _) ?_
    rintro e wz ⟨rfl, hb⟩
    have hB2 := hB.trans (hb.mono hB.size)
    go_wp2_with fail
    go_ret
    exact ⟨rfl, hB2⟩
  · have u1 : (n : Int) ≤ 40 := by omega
    go_enter Try.func3, Try.ntmps3
    go_upto_region 3 with fail
    generalize (w.alloc (.cells #[.int .u64 (a0 : Nat), .int .u64 (b0 : Nat), .int .u8 (c0 : Nat)] 24)).alloc (.cells #[.int .u64 (a1 : Nat), .int .u64 (b1 : Nat), .int .u8 (c1 : Nat)] 24) = w1 at *
    clear u1 h40
    have f0 := Blk.at_ p3 0 (v := .int .u64 (a0 : Nat)) rfl
    have f1 := Blk.at_ p3 1 (v := .int .u64 (b0 : Nat)) rfl
    have f2 := Blk.at_ p3 2 (v := .int .u8 (c0 : Nat)) rfl
    have hBy := bytes_any a0 b0 c0 wg w1
    go_wp2_with fail
    refine Calls.mono hBy ?_
    rintro e w2 ⟨A0, cx, rfl, hlx, hmx, hJx, hb, -⟩
    obtain ⟨x, hx⟩ : ∃ x, x = (bytesR ⟨a0, b0, c0⟩).1 := ⟨_, rfl⟩
    rw [← hx] at hlx hJx ⊢
    have HX := Lib.hid hx
    clear hx
    obtain ⟨cdx, hcdx⟩ : ∃ x, x = (bytesR ⟨a0, b0, c0⟩).2 := ⟨_, rfl⟩
    rw [← hcdx]
    rw [bytesR_code] at hcdx
    have HCX := Lib.hid hcdx
    clear hcdx
    obtain ⟨nx, hnx⟩ : ∃ k, k = x.length := ⟨_, rfl⟩
    rw [← hnx] at hlx ⊢
    have HNX := Lib.hid hnx
    clear hnx f0 f1 f2 hBy
    have p3' := p3.below hb p3.lt
    have p4' := p4.below hb p4.lt
    have hJ' := hJ.grow hb
    have hB' := hB.trans (hb.mono hB.size)
    clear p3 p4 hJ hB hb
    have p3 := p3'
    have p4 := p4'
    have hJ := hJ'
    have hB := hB'
    clear p3' p4' hJ' hB'
    have f0 := Blk.at_ p4 0 (v := .int .u64 (a1 : Nat)) rfl
    have f1 := Blk.at_ p4 1 (v := .int .u64 (b1 : Nat)) rfl
    have f2 := Blk.at_ p4 2 (v := .int .u8 (c1 : Nat)) rfl
    have hBy := bytes_any a1 b1 c1 wh w2
    go_wp2_with fail
    refine Calls.mono hBy ?_
    rintro e w3 ⟨A1, cy, rfl, hly, hmy, hJy, hb, -⟩
    obtain ⟨y, hy⟩ : ∃ x, x = (bytesR ⟨a1, b1, c1⟩).1 := ⟨_, rfl⟩
    rw [← hy] at hly hJy ⊢
    have HY := Lib.hid hy
    clear hy
    obtain ⟨cdy, hcdy⟩ : ∃ x, x = (bytesR ⟨a1, b1, c1⟩).2 := ⟨_, rfl⟩
    rw [← hcdy]
    rw [bytesR_code] at hcdy
    have HCY := Lib.hid hcdy
    clear hcdy
    obtain ⟨m, hm⟩ : ∃ k, k = y.length := ⟨_, rfl⟩
    rw [← hm] at hly ⊢
    have HM := Lib.hid hm
    clear hm f0 f1 f2 hBy
    have p3' := p3.below hb p3.lt
    have p4' := p4.below hb p4.lt
    have hJ' := hJ.grow hb
    have hJx' := hJx.grow hb
    have hB' := hB.trans (hb.mono hB.size)
    clear p3 p4 hJ hJx hB hb
    have p3 := p3'
    have p4 := p4'
    have hJ := hJ'
    have hJx := hJx'
    have hB := hB'
    clear p3' p4' hJ' hJx' hB'
    go_upto_region 5 with fail
    have hR0 := right_any a0 b0 c0
    have hR1 := right_any a1 b1 c1
    obtain ⟨rg, hrg⟩ : ∃ r, right ⟨a0, b0, c0⟩ = r := ⟨_, rfl⟩
    obtain ⟨rh, hrh⟩ : ∃ r, right ⟨a1, b1, c1⟩ = r := ⟨_, rfl⟩
    have HC : Hid (cdx = (if rg = true then 0 else 50) ∧ cdy = (if rh = true then 0 else 50)) := Lib.hid ⟨by rw [HCX.out, hrg], by rw [HCY.out, hrh]⟩
    have HRG := Lib.hid hrg
    have HRH := Lib.hid hrh
    rw [hrg] at hR0
    rw [hrh] at hR1
    clear hrg hrh HCX HCY
    have f0 := Blk.at_ p3 0 (v := .int .u64 (a0 : Nat)) rfl
    have f1 := Blk.at_ p3 1 (v := .int .u64 (b0 : Nat)) rfl
    have f2 := Blk.at_ p3 2 (v := .int .u8 (c0 : Nat)) rfl
    go_cut [42] (fun v wx => v = .bool false ∧ Blk wx w.heap.size 24 #[.int .u64 (a0 : Nat), .int .u64 (b0 : Nat), .int .u8 (c0 : Nat)] ∧ Blk wx (w.heap.size + 1) 24 #[.int .u64 (a1 : Nat), .int .u64 (b1 : Nat), .int .u8 (c1 : Nat)] ∧ Below w3.heap.size w3 wx)
    case first =>
      have hL := hB.size
      have hB := Below.refl w3.heap.size w3
      clear HX HY HN HNX HM hJ hJx hJy HRG HRH
      cases rg <;> cases rh <;> (
        obtain ⟨hcx, hcy⟩ := HC.out
        simp only [if_true, if_false, reduceCtorEq] at hcx hcy
        subst hcx hcy
        clear HC
        go_wp2_with fail
        refine Calls.mono (hR0 _) ?_
        rintro e w4 ⟨rfl, hb⟩
        clear f0 f1 f2
        have p3' := p3.below hb p3.lt
        have p4' := p4.below hb p4.lt
        have hB' := hB.trans (hb.mono hB.size)
        clear p3 p4 hB hb
        have p3 := p3'
        have p4 := p4'
        have hB := hB'
        clear p3' p4' hB'
        have g0 := Blk.at_ p4 0 (v := .int .u64 (a1 : Nat)) rfl
        have g1 := Blk.at_ p4 1 (v := .int .u64 (b1 : Nat)) rfl
        have g2 := Blk.at_ p4 2 (v := .int .u8 (c1 : Nat)) rfl
        go_wp2_with fail
        refine Calls.mono (hR1 _) ?_
        rintro e w5 ⟨rfl, hb⟩
        clear g0 g1 g2
        have p3' := p3.below hb p3.lt
        have p4' := p4.below hb p4.lt
        have hB' := hB.trans (hb.mono hB.size)
        clear p3 p4 hB hb
        have p3 := p3'
        have p4 := p4'
        have hB := hB'
        clear p3' p4' hB'
        go_wp2_with fail
        go_meet
        exact ⟨rfl, p3, p4, hB⟩)
    case rest =>
    obtain ⟨rfl, p3', p4', hb⟩ := hcut
    clear p3 p4 f0 f1 f2 hR0 hR1
    have p3 := p3'
    have p4 := p4'
    clear p3' p4'
    have hJ' := hJ.grow hb
    have hJx' := hJx.grow hb
    have hJy' := hJy.grow hb
    have hB' := hB.trans (hb.mono hB.size)
    clear hJ hJx hJy hB hb
    have hJ := hJ'
    have hJx := hJx'
    have hJy := hJy'
    have hB := hB'
    clear hJ' hJx' hJy' hB'
    have hRd := read_any A cp l n HN.out hnc hcm wc hJ
    obtain ⟨⟨⟨a2, b2, c2⟩, ok⟩, hz⟩ : ∃ r, readR l = r := ⟨_, rfl⟩
    rw [hz] at hRd
    simp only [hv] at hRd
    have HZ := Lib.hid hz
    clear hz
    go_wp2_with fail
    refine Calls.mono hRd ?_
    rintro e w6 ⟨rfl, hb⟩
    clear hRd
    have p3' := p3.below hb p3.lt
    have p4' := p4.below hb p4.lt
    have hJ' := hJ.grow hb
    have hJx' := hJx.grow hb
    have hJy' := hJy.grow hb
    have hB' := hB.trans (hb.mono hB.size)
    clear p3 p4 hJ hJx hJy hB hb
    have p3 := p3'
    have p4 := p4'
    have hJ := hJ'
    have hJx := hJx'
    have hJy := hJy'
    have hB := hB'
    clear p3' p4' hJ' hJx' hJy' hB'
    have q11 := Blk.new_ w6 24 #[.int .u64 (a2 : Nat), .int .u64 (b2 : Nat), .int .u8 (c2 : Nat)] rfl
    have hb := (Below.refl w6.heap.size w6).alloc (Nat.le_refl _) (.cells #[.int .u64 (a2 : Nat), .int .u64 (b2 : Nat), .int .u8 (c2 : Nat)] 24)
    have p3' := p3.below hb p3.lt
    have p4' := p4.below hb p4.lt
    have hJ' := hJ.grow hb
    have hJx' := hJx.grow hb
    have hJy' := hJy.grow hb
    have hB' := hB.trans (hb.mono hB.size)
    clear p3 p4 hJ hJx hJy hB hb
    have p3 := p3'
    have p4 := p4'
    have hJ := hJ'
    have hJx := hJx'
    have hJy := hJy'
    have hB := hB'
    clear p3' p4' hJ' hJx' hJy' hB'
    go_upto_if 48 with fail
    generalize w6.alloc (.cells #[.int .u64 (a2 : Nat), .int .u64 (b2 : Nat), .int .u8 (c2 : Nat)] 24) = w7 at *
    generalize w6.heap.size = g11 at *
    go_cut [12] (fun v wx => Blk wx w.heap.size 24 #[.int .u64 (a0 : Nat), .int .u64 (b0 : Nat), .int .u8 (c0 : Nat)] ∧ Blk wx (w.heap.size + 1) 24 #[.int .u64 (a1 : Nat), .int .u64 (b1 : Nat), .int .u8 (c1 : Nat)] ∧ Below w7.heap.size w7 wx)
    case first =>
      have hL := hB.size
      have hB := Below.refl w7.heap.size w7
      clear HX HY HNX HM hJx hJy HRG HRH HC
      cases ok
      · clear q11 HZ hJ
        go_wp2_with fail
        go_meet
        exact ⟨p3, p4, hB⟩
      · obtain ⟨hr2, hbk, wfk⟩ := readR_ok HZ.out
        have hBy := bytes_any a2 b2 c2 wfk w7
        rw [bytesR_right hr2, ← hbk] at hBy
        have f0 := Blk.at_ q11 0 (v := .int .u64 (a2 : Nat)) rfl
        have f1 := Blk.at_ q11 1 (v := .int .u64 (b2 : Nat)) rfl
        have f2 := Blk.at_ q11 2 (v := .int .u8 (c2 : Nat)) rfl
        clear hr2 hbk wfk HZ
        go_wp2_with fail
        refine Calls.mono hBy ?_
        rintro e w8 ⟨A2, c3, rfl, hlz, hmz, hJz, hb, -⟩
        rw [← HN.out] at hlz ⊢
        clear f0 f1 f2 hBy q11
        have p3' := p3.below hb p3.lt
        have p4' := p4.below hb p4.lt
        have hJ' := hJ.grow hb
        have hB' := hB.trans (hb.mono hB.size)
        clear p3 p4 hJ hB hb
        have p3 := p3'
        have p4 := p4'
        have hJ := hJ'
        have hB := hB'
        clear p3' p4' hJ' hB'
        go_wp2_with fail
        refine Calls.mono (same_any _ _ _ _ l l n n HN.out HN.out w8 hJ hJz) ?_
        rintro e wy ⟨rfl, rfl⟩
        rw [beq_self_eq_true]
        go_wp2_with fail
        go_meet
        exact ⟨p3, p4, hB⟩
    case rest =>
    obtain ⟨p3', p4', hb⟩ := hcut
    clear p3 p4 q11 hJ HN HZ hnc hcm
    have p3 := p3'
    have p4 := p4'
    clear p3' p4'
    have hJx' := hJx.grow hb
    have hJy' := hJy.grow hb
    have hB' := hB.trans (hb.mono hB.size)
    clear hJx hJy hB hb
    have hJx := hJx'
    have hJy := hJy'
    have hB := hB'
    clear hJx' hJy' hB'
    cases rg
    · obtain rfl : cdx = 50 := HC.out.1
      have hxe : x = [] := by rw [HX.out, bytesR_wrong HRG.out]
      obtain rfl : nx = 0 := by rw [HNX.out, hxe]; rfl
      clear HX HY HNX HM hJx hJy HRG HRH HC p3 p4 hxe
      go_wp2_with fail
      refine Calls.mono (awake_any _) ?_
      rintro e wz ⟨rfl, hb⟩
      have hB2 := hB.trans (hb.mono hB.size)
      go_wp2_with fail
      go_ret
      exact ⟨rfl, hB2⟩
    · obtain rfl : cdx = 0 := HC.out.1
      have hxe : x = Hd.bytes ⟨a0, b0, c0⟩ := by rw [HX.out, bytesR_right HRG.out]
      obtain rfl : nx = 32 := by rw [HNX.out, hxe]; rfl
      have hx32 : Hid (x.length = 32) := Lib.hid HNX.out.symm
      have hRd := read_any A0 cx x 32 HNX.out hlx hmx wc hJx
      rw [show readR x = (⟨a0, b0, c0⟩, true) by rw [hxe]; exact readR_bytes wg HRG.out] at hRd
      simp only [hv] at hRd
      go_wp2_with fail
      refine Calls.mono hRd ?_
      rintro e w9 ⟨rfl, hb⟩
      clear hRd
      have p3' := p3.below hb p3.lt
      have p4' := p4.below hb p4.lt
      have hJx' := hJx.grow hb
      have hJy' := hJy.grow hb
      have hB' := hB.trans (hb.mono hB.size)
      clear p3 p4 hJx hJy hB hb
      have p3 := p3'
      have p4 := p4'
      have hJx := hJx'
      have hJy := hJy'
      have hB := hB'
      clear p3' p4' hJx' hJy' hB'
      have q15 := Blk.new_ w9 24 #[.int .u64 (a0 : Nat), .int .u64 (b0 : Nat), .int .u8 (c0 : Nat)] rfl
      have hb := (Below.refl w9.heap.size w9).alloc (Nat.le_refl _) (.cells #[.int .u64 (a0 : Nat), .int .u64 (b0 : Nat), .int .u8 (c0 : Nat)] 24)
      have p3' := p3.below hb p3.lt
      have p4' := p4.below hb p4.lt
      have hJx' := hJx.grow hb
      have hJy' := hJy.grow hb
      have hB' := hB.trans (hb.mono hB.size)
      clear p3 p4 hJx hJy hB hb
      have p3 := p3'
      have p4 := p4'
      have hJx := hJx'
      have hJy := hJy'
      have hB := hB'
      clear p3' p4' hJx' hJy' hB'
      go_upto_region 15 with fail
      generalize w9.alloc (.cells #[.int .u64 (a0 : Nat), .int .u64 (b0 : Nat), .int .u8 (c0 : Nat)] 24) = v at *
      generalize w9.heap.size = g15 at *
      cases rh
      · obtain rfl : cdy = 50 := HC.out.2
        clear HX HY HNX HRG HRH HC hxe
        refine wp_region_heldG [] (fun _ W => Blk W g15 24 #[.int .u64 (a0 : Nat), .int .u64 (b0 : Nat), .int .u8 (c0 : Nat)] ∧ Blk W w.heap.size 24 #[.int .u64 (a0 : Nat), .int .u64 (b0 : Nat), .int .u8 (c0 : Nat)] ∧ Blk W (w.heap.size + 1) 24 #[.int .u64 (a1 : Nat), .int .u64 (b1 : Nat), .int .u8 (c1 : Nat)]) (by kernel_rfl) ?_
        change wpAnyG _ _ _ _ _ _ 28 _ _ (World.drew _)
        have hS : Blk v.drew g15 24 #[.int .u64 (a0 : Nat), .int .u64 (b0 : Nat), .int .u8 (c0 : Nat)] ∧ Blk v.drew w.heap.size 24 #[.int .u64 (a0 : Nat), .int .u64 (b0 : Nat), .int .u8 (c0 : Nat)] ∧ Blk v.drew (w.heap.size + 1) 24 #[.int .u64 (a1 : Nat), .int .u64 (b1 : Nat), .int .u8 (c1 : Nat)] := ⟨q15, p3, p4⟩
        have hJx : Bytes v.drew v.drew.heap.size A0 x := hJx.drew
        have hJy : Bytes v.drew v.drew.heap.size A1 y := hJy.drew
        have hB := hB.drew
        generalize v.drew = V at *
        -- take0 take1 take2G take3G take4G take5 take6 take7G take8G take9G take10 take11 take12G take13G take14G take15G take16G take18G take19G take20G one17G take21G take22G take23 take24 one25G take26 take27 done
        refine g_take (i := 0) rfl rfl (by kernel_rfl) (by kernel_rfl) (by kernel_rfl) (by kernel_rfl) (by kernel_rfl) (fun _ _ _ h => h) hS (fun L W hL hW => by go_simp; rfl) ?_
        refine g_take (i := 1) rfl rfl (by kernel_rfl) (by kernel_rfl) (by kernel_rfl) (by kernel_rfl) (by kernel_rfl) (fun _ _ _ h => h) hS (fun L W hL hW => by go_simp; rfl) ?_
        refine g_takeG (i := 2) rfl (by simp only [Region.wanted, yielded]; go_simp) (by kernel_rfl) (by kernel_rfl) (by kernel_rfl) (by kernel_rfl) (by kernel_rfl) (fun _ _ _ h => h) hS (fun L W hL hW => by have uhW10 := Blk.at_ hW.1 0 (v := .int .u64 (a0 : Nat)) rfl; have uhW11 := Blk.at_ hW.1 1 (v := .int .u64 (b0 : Nat)) rfl; have uhW12 := Blk.at_ hW.1 2 (v := .int .u8 (c0 : Nat)) rfl; have uhW210 := Blk.at_ hW.2.1 0 (v := .int .u64 (a0 : Nat)) rfl; have uhW211 := Blk.at_ hW.2.1 1 (v := .int .u64 (b0 : Nat)) rfl; have uhW212 := Blk.at_ hW.2.1 2 (v := .int .u8 (c0 : Nat)) rfl; have uhW220 := Blk.at_ hW.2.2 0 (v := .int .u64 (a1 : Nat)) rfl; have uhW221 := Blk.at_ hW.2.2 1 (v := .int .u64 (b1 : Nat)) rfl; have uhW222 := Blk.at_ hW.2.2 2 (v := .int .u8 (c1 : Nat)) rfl; go_simp; rfl) ?_
        refine g_takeG (i := 3) rfl (by simp only [Region.wanted, yielded]; go_simp) (by kernel_rfl) (by kernel_rfl) (by kernel_rfl) (by kernel_rfl) (by kernel_rfl) (fun _ _ _ h => h) hS (fun L W hL hW => by have uhW10 := Blk.at_ hW.1 0 (v := .int .u64 (a0 : Nat)) rfl; have uhW11 := Blk.at_ hW.1 1 (v := .int .u64 (b0 : Nat)) rfl; have uhW12 := Blk.at_ hW.1 2 (v := .int .u8 (c0 : Nat)) rfl; have uhW210 := Blk.at_ hW.2.1 0 (v := .int .u64 (a0 : Nat)) rfl; have uhW211 := Blk.at_ hW.2.1 1 (v := .int .u64 (b0 : Nat)) rfl; have uhW212 := Blk.at_ hW.2.1 2 (v := .int .u8 (c0 : Nat)) rfl; have uhW220 := Blk.at_ hW.2.2 0 (v := .int .u64 (a1 : Nat)) rfl; have uhW221 := Blk.at_ hW.2.2 1 (v := .int .u64 (b1 : Nat)) rfl; have uhW222 := Blk.at_ hW.2.2 2 (v := .int .u8 (c1 : Nat)) rfl; go_simp; rfl) ?_
        refine g_takeG (i := 4) rfl (by simp only [Region.wanted, yielded]; go_simp) (by kernel_rfl) (by kernel_rfl) (by kernel_rfl) (by kernel_rfl) (by kernel_rfl) (fun _ _ _ h => h) hS (fun L W hL hW => by go_simp; rfl) ?_
        refine g_take (i := 5) rfl rfl (by kernel_rfl) (by kernel_rfl) (by kernel_rfl) (by kernel_rfl) (by kernel_rfl) (fun _ _ _ h => h) hS (fun L W hL hW => by go_simp; rfl) ?_
        refine g_take (i := 6) rfl rfl (by kernel_rfl) (by kernel_rfl) (by kernel_rfl) (by kernel_rfl) (by kernel_rfl) (fun _ _ _ h => h) hS (fun L W hL hW => by go_simp; rfl) ?_
        refine g_takeG (i := 7) rfl (by simp only [Region.wanted, yielded]; go_simp) (by kernel_rfl) (by kernel_rfl) (by kernel_rfl) (by kernel_rfl) (by kernel_rfl) (fun _ _ _ h => h) hS (fun L W hL hW => by go_simp; rfl) ?_
        refine g_takeG (i := 8) rfl (by simp only [Region.wanted, yielded]; go_simp) (by kernel_rfl) (by kernel_rfl) (by kernel_rfl) (by kernel_rfl) (by kernel_rfl) (fun _ _ _ h => h) hS (fun L W hL hW => by go_simp; rfl) ?_
        refine g_takeG (i := 9) rfl (by simp only [Region.wanted, yielded]; go_simp) (by kernel_rfl) (by kernel_rfl) (by kernel_rfl) (by kernel_rfl) (by kernel_rfl) (fun _ _ _ h => h) hS (fun L W hL hW => by go_simp; rfl) ?_
        refine g_take (i := 10) rfl rfl (by kernel_rfl) (by kernel_rfl) (by kernel_rfl) (by kernel_rfl) (by kernel_rfl) (fun _ _ _ h => h) hS (fun L W hL hW => by go_simp; rfl) ?_
        refine g_take (i := 11) rfl rfl (by kernel_rfl) (by kernel_rfl) (by kernel_rfl) (by kernel_rfl) (by kernel_rfl) (fun _ _ _ h => h) hS (fun L W hL hW => by go_simp; rfl) ?_
        refine g_takeG (i := 12) rfl (by simp only [Region.wanted, yielded]; go_simp) (by kernel_rfl) (by kernel_rfl) (by kernel_rfl) (by kernel_rfl) (by kernel_rfl) (fun _ _ _ h => h) hS (fun L W hL hW => by go_simp; rfl) ?_
        refine g_takeG (i := 13) rfl (by simp only [Region.wanted, yielded]; go_simp) (by kernel_rfl) (by kernel_rfl) (by kernel_rfl) (by kernel_rfl) (by kernel_rfl) (fun _ _ _ h => h) hS (fun L W hL hW => by go_simp; rfl) ?_
        refine g_takeG (i := 14) rfl (by simp only [Region.wanted, yielded]; go_simp) (by kernel_rfl) (by kernel_rfl) (by kernel_rfl) (by kernel_rfl) (by kernel_rfl) (fun _ _ _ h => h) hS (fun L W hL hW => by go_simp; rfl) ?_
        refine g_skip (i := 15) rfl (by simp only [Region.wanted, yielded]; go_simp) (by kernel_rfl) (by kernel_rfl) (by kernel_rfl) (by kernel_rfl) (by kernel_rfl) (fun _ _ _ h => h) hS ?_
        refine g_skip (i := 16) rfl (by simp only [Region.wanted, yielded]; go_simp) (by kernel_rfl) (by kernel_rfl) (by kernel_rfl) (by kernel_rfl) (by kernel_rfl) (fun _ _ _ h => h) hS ?_
        refine g_skip (i := 18) rfl (by simp only [Region.wanted, yielded]; go_simp) (by kernel_rfl) (by kernel_rfl) (by kernel_rfl) (by kernel_rfl) (by kernel_rfl) (fun _ _ _ h => h) hS ?_
        refine g_skip (i := 19) rfl (by simp only [Region.wanted, yielded]; go_simp) (by kernel_rfl) (by kernel_rfl) (by kernel_rfl) (by kernel_rfl) (by kernel_rfl) (fun _ _ _ h => h) hS ?_
        refine g_skip (i := 20) rfl (by simp only [Region.wanted, yielded]; go_simp) (by kernel_rfl) (by kernel_rfl) (by kernel_rfl) (by kernel_rfl) (by kernel_rfl) (fun _ _ _ h => h) hS ?_
        refine g_skip (i := 17) rfl (by simp only [Region.wanted, yielded]; go_simp) (by kernel_rfl) (by kernel_rfl) (by kernel_rfl) (by kernel_rfl) (by kernel_rfl) (fun _ _ _ h => h) hS ?_
        refine g_skip (i := 21) rfl (by simp only [Region.wanted, yielded]; go_simp) (by kernel_rfl) (by kernel_rfl) (by kernel_rfl) (by kernel_rfl) (by kernel_rfl) (fun _ _ _ h => h) hS ?_
        refine g_takeG (i := 22) rfl (by simp only [Region.wanted, yielded]; go_simp) (by kernel_rfl) (by kernel_rfl) (by kernel_rfl) (by kernel_rfl) (by kernel_rfl) (fun _ _ _ h => h) hS (fun L W hL hW => by go_simp; rfl) ?_
        refine g_take (i := 23) rfl rfl (by kernel_rfl) (by kernel_rfl) (by kernel_rfl) (by kernel_rfl) (by kernel_rfl) (fun _ _ _ h => h) hS (fun L W hL hW => by go_simp; rfl) ?_
        refine g_take (i := 24) rfl rfl (by kernel_rfl) (by kernel_rfl) (by kernel_rfl) (by kernel_rfl) (by kernel_rfl) (fun _ _ _ h => h) hS (fun L W hL hW => by go_simp; rfl) ?_
        refine g_one (i := 25) rfl (by simp only [Region.wanted, yielded]; go_simp) (by kernel_rfl) fun K hK => ?_
        go_simp
        refine Calls.mono (awake_any V) ?_
        rintro e wz ⟨rfl, hb⟩
        have hS2 : Blk wz g15 24 #[.int .u64 (a0 : Nat), .int .u64 (b0 : Nat), .int .u8 (c0 : Nat)] ∧ Blk wz w.heap.size 24 #[.int .u64 (a0 : Nat), .int .u64 (b0 : Nat), .int .u8 (c0 : Nat)] ∧ Blk wz (w.heap.size + 1) 24 #[.int .u64 (a1 : Nat), .int .u64 (b1 : Nat), .int .u8 (c1 : Nat)] := ⟨hS.1.below hb hS.1.lt, hS.2.1.below hb hS.2.1.lt, hS.2.2.below hb hS.2.2.lt⟩
        have hBf := hB.trans (hb.mono hB.size)
        refine hK _ _ hS2 ?_
        clear hK K
        refine g_take (i := 26) rfl rfl (by kernel_rfl) (by kernel_rfl) (by kernel_rfl) (by kernel_rfl) (by kernel_rfl) (fun _ _ _ h => h) hS2 (fun L W hL hW => by go_simp; rfl) ?_
        refine g_take (i := 27) rfl rfl (by kernel_rfl) (by kernel_rfl) (by kernel_rfl) (by kernel_rfl) (by kernel_rfl) (fun _ _ _ h => h) hS2 (fun L W hL hW => by go_simp; rfl) ?_
        refine wpAnyG_done (by kernel_rfl) ?_ _
        go_simp
        go_wp2_with fail
        go_ret
        exact ⟨rfl, hBf⟩
      · obtain rfl : cdy = 0 := HC.out.2
        have hye : y = Hd.bytes ⟨a1, b1, c1⟩ := by rw [HY.out, bytesR_right HRH.out]
        clear HX HY HNX HRG HRH HC
        by_cases hgh : a0 = a1 ∧ b0 = b1 ∧ c0 = c1
        · obtain ⟨rfl, rfl, rfl⟩ := hgh
          obtain rfl : x = y := hxe.trans hye.symm
          obtain rfl : m = 32 := HM.out.trans hx32.out
          clear hxe hye
          refine wp_region_heldG [] (fun _ W => Blk W g15 24 #[.int .u64 (a0 : Nat), .int .u64 (b0 : Nat), .int .u8 (c0 : Nat)] ∧ Blk W w.heap.size 24 #[.int .u64 (a0 : Nat), .int .u64 (b0 : Nat), .int .u8 (c0 : Nat)] ∧ Blk W (w.heap.size + 1) 24 #[.int .u64 (a0 : Nat), .int .u64 (b0 : Nat), .int .u8 (c0 : Nat)]) (by kernel_rfl) ?_
          change wpAnyG _ _ _ _ _ _ 28 _ _ (World.drew _)
          have hS : Blk v.drew g15 24 #[.int .u64 (a0 : Nat), .int .u64 (b0 : Nat), .int .u8 (c0 : Nat)] ∧ Blk v.drew w.heap.size 24 #[.int .u64 (a0 : Nat), .int .u64 (b0 : Nat), .int .u8 (c0 : Nat)] ∧ Blk v.drew (w.heap.size + 1) 24 #[.int .u64 (a0 : Nat), .int .u64 (b0 : Nat), .int .u8 (c0 : Nat)] := ⟨q15, p3, p4⟩
          have hJx : Bytes v.drew v.drew.heap.size A0 x := hJx.drew
          have hJy : Bytes v.drew v.drew.heap.size A1 x := hJy.drew
          have hB := hB.drew
          generalize v.drew = V at *
          -- take0 take1 take2G take3G take4G take5 take6 take7G take8G take9G take10 take11 take12G take13G take14G take15G take16G take18G take19G take20G one17G take21G take22G take23 take24 one25G take26 take27 done
          refine g_take (i := 0) rfl rfl (by kernel_rfl) (by kernel_rfl) (by kernel_rfl) (by kernel_rfl) (by kernel_rfl) (fun _ _ _ h => h) hS (fun L W hL hW => by go_simp; rfl) ?_
          refine g_take (i := 1) rfl rfl (by kernel_rfl) (by kernel_rfl) (by kernel_rfl) (by kernel_rfl) (by kernel_rfl) (fun _ _ _ h => h) hS (fun L W hL hW => by go_simp; rfl) ?_
          refine g_takeG (i := 2) rfl (by simp only [Region.wanted, yielded]; go_simp) (by kernel_rfl) (by kernel_rfl) (by kernel_rfl) (by kernel_rfl) (by kernel_rfl) (fun _ _ _ h => h) hS (fun L W hL hW => by have uhW10 := Blk.at_ hW.1 0 (v := .int .u64 (a0 : Nat)) rfl; have uhW11 := Blk.at_ hW.1 1 (v := .int .u64 (b0 : Nat)) rfl; have uhW12 := Blk.at_ hW.1 2 (v := .int .u8 (c0 : Nat)) rfl; have uhW210 := Blk.at_ hW.2.1 0 (v := .int .u64 (a0 : Nat)) rfl; have uhW211 := Blk.at_ hW.2.1 1 (v := .int .u64 (b0 : Nat)) rfl; have uhW212 := Blk.at_ hW.2.1 2 (v := .int .u8 (c0 : Nat)) rfl; have uhW220 := Blk.at_ hW.2.2 0 (v := .int .u64 (a0 : Nat)) rfl; have uhW221 := Blk.at_ hW.2.2 1 (v := .int .u64 (b0 : Nat)) rfl; have uhW222 := Blk.at_ hW.2.2 2 (v := .int .u8 (c0 : Nat)) rfl; go_simp; rfl) ?_
          refine g_takeG (i := 3) rfl (by simp only [Region.wanted, yielded]; go_simp) (by kernel_rfl) (by kernel_rfl) (by kernel_rfl) (by kernel_rfl) (by kernel_rfl) (fun _ _ _ h => h) hS (fun L W hL hW => by have uhW10 := Blk.at_ hW.1 0 (v := .int .u64 (a0 : Nat)) rfl; have uhW11 := Blk.at_ hW.1 1 (v := .int .u64 (b0 : Nat)) rfl; have uhW12 := Blk.at_ hW.1 2 (v := .int .u8 (c0 : Nat)) rfl; have uhW210 := Blk.at_ hW.2.1 0 (v := .int .u64 (a0 : Nat)) rfl; have uhW211 := Blk.at_ hW.2.1 1 (v := .int .u64 (b0 : Nat)) rfl; have uhW212 := Blk.at_ hW.2.1 2 (v := .int .u8 (c0 : Nat)) rfl; have uhW220 := Blk.at_ hW.2.2 0 (v := .int .u64 (a0 : Nat)) rfl; have uhW221 := Blk.at_ hW.2.2 1 (v := .int .u64 (b0 : Nat)) rfl; have uhW222 := Blk.at_ hW.2.2 2 (v := .int .u8 (c0 : Nat)) rfl; go_simp; rfl) ?_
          refine g_takeG (i := 4) rfl (by simp only [Region.wanted, yielded]; go_simp) (by kernel_rfl) (by kernel_rfl) (by kernel_rfl) (by kernel_rfl) (by kernel_rfl) (fun _ _ _ h => h) hS (fun L W hL hW => by go_simp; rfl) ?_
          refine g_take (i := 5) rfl rfl (by kernel_rfl) (by kernel_rfl) (by kernel_rfl) (by kernel_rfl) (by kernel_rfl) (fun _ _ _ h => h) hS (fun L W hL hW => by go_simp; rfl) ?_
          refine g_take (i := 6) rfl rfl (by kernel_rfl) (by kernel_rfl) (by kernel_rfl) (by kernel_rfl) (by kernel_rfl) (fun _ _ _ h => h) hS (fun L W hL hW => by go_simp; rfl) ?_
          refine g_takeG (i := 7) rfl (by simp only [Region.wanted, yielded]; go_simp) (by kernel_rfl) (by kernel_rfl) (by kernel_rfl) (by kernel_rfl) (by kernel_rfl) (fun _ _ _ h => h) hS (fun L W hL hW => by go_simp; rfl) ?_
          refine g_takeG (i := 8) rfl (by simp only [Region.wanted, yielded]; go_simp) (by kernel_rfl) (by kernel_rfl) (by kernel_rfl) (by kernel_rfl) (by kernel_rfl) (fun _ _ _ h => h) hS (fun L W hL hW => by go_simp; rfl) ?_
          refine g_takeG (i := 9) rfl (by simp only [Region.wanted, yielded]; go_simp) (by kernel_rfl) (by kernel_rfl) (by kernel_rfl) (by kernel_rfl) (by kernel_rfl) (fun _ _ _ h => h) hS (fun L W hL hW => by go_simp; rfl) ?_
          refine g_take (i := 10) rfl rfl (by kernel_rfl) (by kernel_rfl) (by kernel_rfl) (by kernel_rfl) (by kernel_rfl) (fun _ _ _ h => h) hS (fun L W hL hW => by go_simp; rfl) ?_
          refine g_take (i := 11) rfl rfl (by kernel_rfl) (by kernel_rfl) (by kernel_rfl) (by kernel_rfl) (by kernel_rfl) (fun _ _ _ h => h) hS (fun L W hL hW => by go_simp; rfl) ?_
          refine g_takeG (i := 12) rfl (by simp only [Region.wanted, yielded]; go_simp) (by kernel_rfl) (by kernel_rfl) (by kernel_rfl) (by kernel_rfl) (by kernel_rfl) (fun _ _ _ h => h) hS (fun L W hL hW => by go_simp; rfl) ?_
          refine g_takeG (i := 13) rfl (by simp only [Region.wanted, yielded]; go_simp) (by kernel_rfl) (by kernel_rfl) (by kernel_rfl) (by kernel_rfl) (by kernel_rfl) (fun _ _ _ h => h) hS (fun L W hL hW => by go_simp; rfl) ?_
          refine g_takeG (i := 14) rfl (by simp only [Region.wanted, yielded]; go_simp) (by kernel_rfl) (by kernel_rfl) (by kernel_rfl) (by kernel_rfl) (by kernel_rfl) (fun _ _ _ h => h) hS (fun L W hL hW => by go_simp; rfl) ?_
          refine g_takeG (i := 15) rfl (by simp only [Region.wanted, yielded]; go_simp) (by kernel_rfl) (by kernel_rfl) (by kernel_rfl) (by kernel_rfl) (by kernel_rfl) (fun _ _ _ h => h) hS (fun L W hL hW => by go_simp; rfl) ?_
          refine g_takeG (i := 16) rfl (by simp only [Region.wanted, yielded]; go_simp) (by kernel_rfl) (by kernel_rfl) (by kernel_rfl) (by kernel_rfl) (by kernel_rfl) (fun _ _ _ h => h) hS (fun L W hL hW => by go_simp; rfl) ?_
          refine g_takeG (i := 18) rfl (by simp only [Region.wanted, yielded]; go_simp) (by kernel_rfl) (by kernel_rfl) (by kernel_rfl) (by kernel_rfl) (by kernel_rfl) (fun _ _ _ h => h) hS (fun L W hL hW => by have uhW10 := Blk.at_ hW.1 0 (v := .int .u64 (a0 : Nat)) rfl; have uhW11 := Blk.at_ hW.1 1 (v := .int .u64 (b0 : Nat)) rfl; have uhW12 := Blk.at_ hW.1 2 (v := .int .u8 (c0 : Nat)) rfl; have uhW210 := Blk.at_ hW.2.1 0 (v := .int .u64 (a0 : Nat)) rfl; have uhW211 := Blk.at_ hW.2.1 1 (v := .int .u64 (b0 : Nat)) rfl; have uhW212 := Blk.at_ hW.2.1 2 (v := .int .u8 (c0 : Nat)) rfl; have uhW220 := Blk.at_ hW.2.2 0 (v := .int .u64 (a0 : Nat)) rfl; have uhW221 := Blk.at_ hW.2.2 1 (v := .int .u64 (b0 : Nat)) rfl; have uhW222 := Blk.at_ hW.2.2 2 (v := .int .u8 (c0 : Nat)) rfl; go_simp; rfl) ?_
          refine g_takeG (i := 19) rfl (by simp only [Region.wanted, yielded]; go_simp) (by kernel_rfl) (by kernel_rfl) (by kernel_rfl) (by kernel_rfl) (by kernel_rfl) (fun _ _ _ h => h) hS (fun L W hL hW => by have uhW10 := Blk.at_ hW.1 0 (v := .int .u64 (a0 : Nat)) rfl; have uhW11 := Blk.at_ hW.1 1 (v := .int .u64 (b0 : Nat)) rfl; have uhW12 := Blk.at_ hW.1 2 (v := .int .u8 (c0 : Nat)) rfl; have uhW210 := Blk.at_ hW.2.1 0 (v := .int .u64 (a0 : Nat)) rfl; have uhW211 := Blk.at_ hW.2.1 1 (v := .int .u64 (b0 : Nat)) rfl; have uhW212 := Blk.at_ hW.2.1 2 (v := .int .u8 (c0 : Nat)) rfl; have uhW220 := Blk.at_ hW.2.2 0 (v := .int .u64 (a0 : Nat)) rfl; have uhW221 := Blk.at_ hW.2.2 1 (v := .int .u64 (b0 : Nat)) rfl; have uhW222 := Blk.at_ hW.2.2 2 (v := .int .u8 (c0 : Nat)) rfl; go_simp; rfl) ?_
          refine g_takeG (i := 20) rfl (by simp only [Region.wanted, yielded]; go_simp) (by kernel_rfl) (by kernel_rfl) (by kernel_rfl) (by kernel_rfl) (by kernel_rfl) (fun _ _ _ h => h) hS (fun L W hL hW => by go_simp; rfl) ?_
          refine g_one (i := 17) rfl (by simp only [Region.wanted, yielded]; go_simp) (by kernel_rfl) fun K hK => ?_
          go_simp
          refine Calls.mono (same_any _ _ _ _ x x 32 32 hx32.out.symm HM.out V hJx hJy) ?_
          rintro e wy ⟨rfl, rfl⟩
          rw [beq_self_eq_true]
          refine hK _ _ hS ?_
          clear hK K
          refine g_takeG (i := 21) rfl (by simp only [Region.wanted, yielded]; go_simp) (by kernel_rfl) (by kernel_rfl) (by kernel_rfl) (by kernel_rfl) (by kernel_rfl) (fun _ _ _ h => h) hS (fun L W hL hW => by go_simp; rfl) ?_
          refine g_takeG (i := 22) rfl (by simp only [Region.wanted, yielded]; go_simp) (by kernel_rfl) (by kernel_rfl) (by kernel_rfl) (by kernel_rfl) (by kernel_rfl) (fun _ _ _ h => h) hS (fun L W hL hW => by go_simp; rfl) ?_
          refine g_take (i := 23) rfl rfl (by kernel_rfl) (by kernel_rfl) (by kernel_rfl) (by kernel_rfl) (by kernel_rfl) (fun _ _ _ h => h) hS (fun L W hL hW => by go_simp; rfl) ?_
          refine g_take (i := 24) rfl rfl (by kernel_rfl) (by kernel_rfl) (by kernel_rfl) (by kernel_rfl) (by kernel_rfl) (fun _ _ _ h => h) hS (fun L W hL hW => by go_simp; rfl) ?_
          refine g_one (i := 25) rfl (by simp only [Region.wanted, yielded]; go_simp) (by kernel_rfl) fun K hK => ?_
          go_simp
          refine Calls.mono (awake_any V) ?_
          rintro e wz ⟨rfl, hb⟩
          have hS2 : Blk wz g15 24 #[.int .u64 (a0 : Nat), .int .u64 (b0 : Nat), .int .u8 (c0 : Nat)] ∧ Blk wz w.heap.size 24 #[.int .u64 (a0 : Nat), .int .u64 (b0 : Nat), .int .u8 (c0 : Nat)] ∧ Blk wz (w.heap.size + 1) 24 #[.int .u64 (a0 : Nat), .int .u64 (b0 : Nat), .int .u8 (c0 : Nat)] := ⟨hS.1.below hb hS.1.lt, hS.2.1.below hb hS.2.1.lt, hS.2.2.below hb hS.2.2.lt⟩
          have hBf := hB.trans (hb.mono hB.size)
          refine hK _ _ hS2 ?_
          clear hK K
          refine g_take (i := 26) rfl rfl (by kernel_rfl) (by kernel_rfl) (by kernel_rfl) (by kernel_rfl) (by kernel_rfl) (fun _ _ _ h => h) hS2 (fun L W hL hW => by go_simp; rfl) ?_
          refine g_take (i := 27) rfl rfl (by kernel_rfl) (by kernel_rfl) (by kernel_rfl) (by kernel_rfl) (by kernel_rfl) (fun _ _ _ h => h) hS2 (fun L W hL hW => by go_simp; rfl) ?_
          refine wpAnyG_done (by kernel_rfl) ?_ _
          go_simp
          go_wp2_with fail
          go_ret
          exact ⟨rfl, hBf⟩
        · have hne : (x == y) = false := by
            rw [beq_eq_false_iff_ne, hxe, hye]
            intro e
            have := bytes_inj wg wh e
            cases this
            exact hgh ⟨rfl, rfl, rfl⟩
          obtain rfl : m = 32 := by rw [HM.out, hye]; rfl
          clear hxe hye
          by_cases ha : a0 = a1
          · subst ha
            by_cases hbb : b0 = b1
            · subst hbb
              have u3 : ¬ (c0 : Int) = (c1 : Int) := by omega
              clear hgh
              refine wp_region_heldG [] (fun _ W => Blk W g15 24 #[.int .u64 (a0 : Nat), .int .u64 (b0 : Nat), .int .u8 (c0 : Nat)] ∧ Blk W w.heap.size 24 #[.int .u64 (a0 : Nat), .int .u64 (b0 : Nat), .int .u8 (c0 : Nat)] ∧ Blk W (w.heap.size + 1) 24 #[.int .u64 (a0 : Nat), .int .u64 (b0 : Nat), .int .u8 (c1 : Nat)]) (by kernel_rfl) ?_
              change wpAnyG _ _ _ _ _ _ 28 _ _ (World.drew _)
              have hS : Blk v.drew g15 24 #[.int .u64 (a0 : Nat), .int .u64 (b0 : Nat), .int .u8 (c0 : Nat)] ∧ Blk v.drew w.heap.size 24 #[.int .u64 (a0 : Nat), .int .u64 (b0 : Nat), .int .u8 (c0 : Nat)] ∧ Blk v.drew (w.heap.size + 1) 24 #[.int .u64 (a0 : Nat), .int .u64 (b0 : Nat), .int .u8 (c1 : Nat)] := ⟨q15, p3, p4⟩
              have hJx : Bytes v.drew v.drew.heap.size A0 x := hJx.drew
              have hJy : Bytes v.drew v.drew.heap.size A1 y := hJy.drew
              have hB := hB.drew
              generalize v.drew = V at *
              -- take0 take1 take2G take3G take4G take5 take6 take7G take8G take9G take10 take11 take12G take13G take14G take15G take16G take18G take19G take20G one17G take21G take22G take23 take24 one25G take26 take27 done
              refine g_take (i := 0) rfl rfl (by kernel_rfl) (by kernel_rfl) (by kernel_rfl) (by kernel_rfl) (by kernel_rfl) (fun _ _ _ h => h) hS (fun L W hL hW => by go_simp; rfl) ?_
              refine g_take (i := 1) rfl rfl (by kernel_rfl) (by kernel_rfl) (by kernel_rfl) (by kernel_rfl) (by kernel_rfl) (fun _ _ _ h => h) hS (fun L W hL hW => by go_simp; rfl) ?_
              refine g_takeG (i := 2) rfl (by simp only [Region.wanted, yielded]; go_simp) (by kernel_rfl) (by kernel_rfl) (by kernel_rfl) (by kernel_rfl) (by kernel_rfl) (fun _ _ _ h => h) hS (fun L W hL hW => by have uhW10 := Blk.at_ hW.1 0 (v := .int .u64 (a0 : Nat)) rfl; have uhW11 := Blk.at_ hW.1 1 (v := .int .u64 (b0 : Nat)) rfl; have uhW12 := Blk.at_ hW.1 2 (v := .int .u8 (c0 : Nat)) rfl; have uhW210 := Blk.at_ hW.2.1 0 (v := .int .u64 (a0 : Nat)) rfl; have uhW211 := Blk.at_ hW.2.1 1 (v := .int .u64 (b0 : Nat)) rfl; have uhW212 := Blk.at_ hW.2.1 2 (v := .int .u8 (c0 : Nat)) rfl; have uhW220 := Blk.at_ hW.2.2 0 (v := .int .u64 (a0 : Nat)) rfl; have uhW221 := Blk.at_ hW.2.2 1 (v := .int .u64 (b0 : Nat)) rfl; have uhW222 := Blk.at_ hW.2.2 2 (v := .int .u8 (c1 : Nat)) rfl; go_simp; rfl) ?_
              refine g_takeG (i := 3) rfl (by simp only [Region.wanted, yielded]; go_simp) (by kernel_rfl) (by kernel_rfl) (by kernel_rfl) (by kernel_rfl) (by kernel_rfl) (fun _ _ _ h => h) hS (fun L W hL hW => by have uhW10 := Blk.at_ hW.1 0 (v := .int .u64 (a0 : Nat)) rfl; have uhW11 := Blk.at_ hW.1 1 (v := .int .u64 (b0 : Nat)) rfl; have uhW12 := Blk.at_ hW.1 2 (v := .int .u8 (c0 : Nat)) rfl; have uhW210 := Blk.at_ hW.2.1 0 (v := .int .u64 (a0 : Nat)) rfl; have uhW211 := Blk.at_ hW.2.1 1 (v := .int .u64 (b0 : Nat)) rfl; have uhW212 := Blk.at_ hW.2.1 2 (v := .int .u8 (c0 : Nat)) rfl; have uhW220 := Blk.at_ hW.2.2 0 (v := .int .u64 (a0 : Nat)) rfl; have uhW221 := Blk.at_ hW.2.2 1 (v := .int .u64 (b0 : Nat)) rfl; have uhW222 := Blk.at_ hW.2.2 2 (v := .int .u8 (c1 : Nat)) rfl; go_simp; rfl) ?_
              refine g_takeG (i := 4) rfl (by simp only [Region.wanted, yielded]; go_simp) (by kernel_rfl) (by kernel_rfl) (by kernel_rfl) (by kernel_rfl) (by kernel_rfl) (fun _ _ _ h => h) hS (fun L W hL hW => by go_simp; rfl) ?_
              refine g_take (i := 5) rfl rfl (by kernel_rfl) (by kernel_rfl) (by kernel_rfl) (by kernel_rfl) (by kernel_rfl) (fun _ _ _ h => h) hS (fun L W hL hW => by go_simp; rfl) ?_
              refine g_take (i := 6) rfl rfl (by kernel_rfl) (by kernel_rfl) (by kernel_rfl) (by kernel_rfl) (by kernel_rfl) (fun _ _ _ h => h) hS (fun L W hL hW => by go_simp; rfl) ?_
              refine g_takeG (i := 7) rfl (by simp only [Region.wanted, yielded]; go_simp) (by kernel_rfl) (by kernel_rfl) (by kernel_rfl) (by kernel_rfl) (by kernel_rfl) (fun _ _ _ h => h) hS (fun L W hL hW => by go_simp; rfl) ?_
              refine g_takeG (i := 8) rfl (by simp only [Region.wanted, yielded]; go_simp) (by kernel_rfl) (by kernel_rfl) (by kernel_rfl) (by kernel_rfl) (by kernel_rfl) (fun _ _ _ h => h) hS (fun L W hL hW => by go_simp; rfl) ?_
              refine g_takeG (i := 9) rfl (by simp only [Region.wanted, yielded]; go_simp) (by kernel_rfl) (by kernel_rfl) (by kernel_rfl) (by kernel_rfl) (by kernel_rfl) (fun _ _ _ h => h) hS (fun L W hL hW => by go_simp; rfl) ?_
              refine g_take (i := 10) rfl rfl (by kernel_rfl) (by kernel_rfl) (by kernel_rfl) (by kernel_rfl) (by kernel_rfl) (fun _ _ _ h => h) hS (fun L W hL hW => by go_simp; rfl) ?_
              refine g_take (i := 11) rfl rfl (by kernel_rfl) (by kernel_rfl) (by kernel_rfl) (by kernel_rfl) (by kernel_rfl) (fun _ _ _ h => h) hS (fun L W hL hW => by go_simp; rfl) ?_
              refine g_takeG (i := 12) rfl (by simp only [Region.wanted, yielded]; go_simp) (by kernel_rfl) (by kernel_rfl) (by kernel_rfl) (by kernel_rfl) (by kernel_rfl) (fun _ _ _ h => h) hS (fun L W hL hW => by go_simp; rfl) ?_
              refine g_takeG (i := 13) rfl (by simp only [Region.wanted, yielded]; go_simp) (by kernel_rfl) (by kernel_rfl) (by kernel_rfl) (by kernel_rfl) (by kernel_rfl) (fun _ _ _ h => h) hS (fun L W hL hW => by go_simp; rfl) ?_
              refine g_takeG (i := 14) rfl (by simp only [Region.wanted, yielded]; go_simp) (by kernel_rfl) (by kernel_rfl) (by kernel_rfl) (by kernel_rfl) (by kernel_rfl) (fun _ _ _ h => h) hS (fun L W hL hW => by go_simp; rfl) ?_
              refine g_takeG (i := 15) rfl (by simp only [Region.wanted, yielded]; go_simp) (by kernel_rfl) (by kernel_rfl) (by kernel_rfl) (by kernel_rfl) (by kernel_rfl) (fun _ _ _ h => h) hS (fun L W hL hW => by go_simp; rfl) ?_
              refine g_takeG (i := 16) rfl (by simp only [Region.wanted, yielded]; go_simp) (by kernel_rfl) (by kernel_rfl) (by kernel_rfl) (by kernel_rfl) (by kernel_rfl) (fun _ _ _ h => h) hS (fun L W hL hW => by go_simp; rfl) ?_
              refine g_takeG (i := 18) rfl (by simp only [Region.wanted, yielded]; go_simp) (by kernel_rfl) (by kernel_rfl) (by kernel_rfl) (by kernel_rfl) (by kernel_rfl) (fun _ _ _ h => h) hS (fun L W hL hW => by have uhW10 := Blk.at_ hW.1 0 (v := .int .u64 (a0 : Nat)) rfl; have uhW11 := Blk.at_ hW.1 1 (v := .int .u64 (b0 : Nat)) rfl; have uhW12 := Blk.at_ hW.1 2 (v := .int .u8 (c0 : Nat)) rfl; have uhW210 := Blk.at_ hW.2.1 0 (v := .int .u64 (a0 : Nat)) rfl; have uhW211 := Blk.at_ hW.2.1 1 (v := .int .u64 (b0 : Nat)) rfl; have uhW212 := Blk.at_ hW.2.1 2 (v := .int .u8 (c0 : Nat)) rfl; have uhW220 := Blk.at_ hW.2.2 0 (v := .int .u64 (a0 : Nat)) rfl; have uhW221 := Blk.at_ hW.2.2 1 (v := .int .u64 (b0 : Nat)) rfl; have uhW222 := Blk.at_ hW.2.2 2 (v := .int .u8 (c1 : Nat)) rfl; go_simp; rfl) ?_
              refine g_takeG (i := 19) rfl (by simp only [Region.wanted, yielded]; go_simp) (by kernel_rfl) (by kernel_rfl) (by kernel_rfl) (by kernel_rfl) (by kernel_rfl) (fun _ _ _ h => h) hS (fun L W hL hW => by have uhW10 := Blk.at_ hW.1 0 (v := .int .u64 (a0 : Nat)) rfl; have uhW11 := Blk.at_ hW.1 1 (v := .int .u64 (b0 : Nat)) rfl; have uhW12 := Blk.at_ hW.1 2 (v := .int .u8 (c0 : Nat)) rfl; have uhW210 := Blk.at_ hW.2.1 0 (v := .int .u64 (a0 : Nat)) rfl; have uhW211 := Blk.at_ hW.2.1 1 (v := .int .u64 (b0 : Nat)) rfl; have uhW212 := Blk.at_ hW.2.1 2 (v := .int .u8 (c0 : Nat)) rfl; have uhW220 := Blk.at_ hW.2.2 0 (v := .int .u64 (a0 : Nat)) rfl; have uhW221 := Blk.at_ hW.2.2 1 (v := .int .u64 (b0 : Nat)) rfl; have uhW222 := Blk.at_ hW.2.2 2 (v := .int .u8 (c1 : Nat)) rfl; go_simp; rfl) ?_
              refine g_takeG (i := 20) rfl (by simp only [Region.wanted, yielded]; go_simp) (by kernel_rfl) (by kernel_rfl) (by kernel_rfl) (by kernel_rfl) (by kernel_rfl) (fun _ _ _ h => h) hS (fun L W hL hW => by go_simp; rfl) ?_
              refine g_one (i := 17) rfl (by simp only [Region.wanted, yielded]; go_simp) (by kernel_rfl) fun K hK => ?_
              go_simp
              refine Calls.mono (same_any _ _ _ _ x y 32 _ hx32.out.symm HM.out V hJx hJy) ?_
              rintro e wy ⟨rfl, rfl⟩
              rw [hne]
              refine hK _ _ hS ?_
              clear hK K
              refine g_takeG (i := 21) rfl (by simp only [Region.wanted, yielded]; go_simp) (by kernel_rfl) (by kernel_rfl) (by kernel_rfl) (by kernel_rfl) (by kernel_rfl) (fun _ _ _ h => h) hS (fun L W hL hW => by go_simp; rfl) ?_
              refine g_takeG (i := 22) rfl (by simp only [Region.wanted, yielded]; go_simp) (by kernel_rfl) (by kernel_rfl) (by kernel_rfl) (by kernel_rfl) (by kernel_rfl) (fun _ _ _ h => h) hS (fun L W hL hW => by go_simp; rfl) ?_
              refine g_take (i := 23) rfl rfl (by kernel_rfl) (by kernel_rfl) (by kernel_rfl) (by kernel_rfl) (by kernel_rfl) (fun _ _ _ h => h) hS (fun L W hL hW => by go_simp; rfl) ?_
              refine g_take (i := 24) rfl rfl (by kernel_rfl) (by kernel_rfl) (by kernel_rfl) (by kernel_rfl) (by kernel_rfl) (fun _ _ _ h => h) hS (fun L W hL hW => by go_simp; rfl) ?_
              refine g_one (i := 25) rfl (by simp only [Region.wanted, yielded]; go_simp) (by kernel_rfl) fun K hK => ?_
              go_simp
              refine Calls.mono (awake_any V) ?_
              rintro e wz ⟨rfl, hb⟩
              have hS2 : Blk wz g15 24 #[.int .u64 (a0 : Nat), .int .u64 (b0 : Nat), .int .u8 (c0 : Nat)] ∧ Blk wz w.heap.size 24 #[.int .u64 (a0 : Nat), .int .u64 (b0 : Nat), .int .u8 (c0 : Nat)] ∧ Blk wz (w.heap.size + 1) 24 #[.int .u64 (a0 : Nat), .int .u64 (b0 : Nat), .int .u8 (c1 : Nat)] := ⟨hS.1.below hb hS.1.lt, hS.2.1.below hb hS.2.1.lt, hS.2.2.below hb hS.2.2.lt⟩
              have hBf := hB.trans (hb.mono hB.size)
              refine hK _ _ hS2 ?_
              clear hK K
              refine g_take (i := 26) rfl rfl (by kernel_rfl) (by kernel_rfl) (by kernel_rfl) (by kernel_rfl) (by kernel_rfl) (fun _ _ _ h => h) hS2 (fun L W hL hW => by go_simp; rfl) ?_
              refine g_take (i := 27) rfl rfl (by kernel_rfl) (by kernel_rfl) (by kernel_rfl) (by kernel_rfl) (by kernel_rfl) (fun _ _ _ h => h) hS2 (fun L W hL hW => by go_simp; rfl) ?_
              refine wpAnyG_done (by kernel_rfl) ?_ _
              go_simp
              go_wp2_with fail
              go_ret
              exact ⟨rfl, hBf⟩
            · have u3 : ¬ (b0 : Int) = (b1 : Int) := by omega
              clear hgh
              refine wp_region_heldG [] (fun _ W => Blk W g15 24 #[.int .u64 (a0 : Nat), .int .u64 (b0 : Nat), .int .u8 (c0 : Nat)] ∧ Blk W w.heap.size 24 #[.int .u64 (a0 : Nat), .int .u64 (b0 : Nat), .int .u8 (c0 : Nat)] ∧ Blk W (w.heap.size + 1) 24 #[.int .u64 (a0 : Nat), .int .u64 (b1 : Nat), .int .u8 (c1 : Nat)]) (by kernel_rfl) ?_
              change wpAnyG _ _ _ _ _ _ 28 _ _ (World.drew _)
              have hS : Blk v.drew g15 24 #[.int .u64 (a0 : Nat), .int .u64 (b0 : Nat), .int .u8 (c0 : Nat)] ∧ Blk v.drew w.heap.size 24 #[.int .u64 (a0 : Nat), .int .u64 (b0 : Nat), .int .u8 (c0 : Nat)] ∧ Blk v.drew (w.heap.size + 1) 24 #[.int .u64 (a0 : Nat), .int .u64 (b1 : Nat), .int .u8 (c1 : Nat)] := ⟨q15, p3, p4⟩
              have hJx : Bytes v.drew v.drew.heap.size A0 x := hJx.drew
              have hJy : Bytes v.drew v.drew.heap.size A1 y := hJy.drew
              have hB := hB.drew
              generalize v.drew = V at *
              -- take0 take1 take2G take3G take4G take5 take6 take7G take8G take9G take10 take11 take12G take13G take14G take15G take16G take18G take19G take20G one17G take21G take22G take23 take24 one25G take26 take27 done
              refine g_take (i := 0) rfl rfl (by kernel_rfl) (by kernel_rfl) (by kernel_rfl) (by kernel_rfl) (by kernel_rfl) (fun _ _ _ h => h) hS (fun L W hL hW => by go_simp; rfl) ?_
              refine g_take (i := 1) rfl rfl (by kernel_rfl) (by kernel_rfl) (by kernel_rfl) (by kernel_rfl) (by kernel_rfl) (fun _ _ _ h => h) hS (fun L W hL hW => by go_simp; rfl) ?_
              refine g_takeG (i := 2) rfl (by simp only [Region.wanted, yielded]; go_simp) (by kernel_rfl) (by kernel_rfl) (by kernel_rfl) (by kernel_rfl) (by kernel_rfl) (fun _ _ _ h => h) hS (fun L W hL hW => by have uhW10 := Blk.at_ hW.1 0 (v := .int .u64 (a0 : Nat)) rfl; have uhW11 := Blk.at_ hW.1 1 (v := .int .u64 (b0 : Nat)) rfl; have uhW12 := Blk.at_ hW.1 2 (v := .int .u8 (c0 : Nat)) rfl; have uhW210 := Blk.at_ hW.2.1 0 (v := .int .u64 (a0 : Nat)) rfl; have uhW211 := Blk.at_ hW.2.1 1 (v := .int .u64 (b0 : Nat)) rfl; have uhW212 := Blk.at_ hW.2.1 2 (v := .int .u8 (c0 : Nat)) rfl; have uhW220 := Blk.at_ hW.2.2 0 (v := .int .u64 (a0 : Nat)) rfl; have uhW221 := Blk.at_ hW.2.2 1 (v := .int .u64 (b1 : Nat)) rfl; have uhW222 := Blk.at_ hW.2.2 2 (v := .int .u8 (c1 : Nat)) rfl; go_simp; rfl) ?_
              refine g_takeG (i := 3) rfl (by simp only [Region.wanted, yielded]; go_simp) (by kernel_rfl) (by kernel_rfl) (by kernel_rfl) (by kernel_rfl) (by kernel_rfl) (fun _ _ _ h => h) hS (fun L W hL hW => by have uhW10 := Blk.at_ hW.1 0 (v := .int .u64 (a0 : Nat)) rfl; have uhW11 := Blk.at_ hW.1 1 (v := .int .u64 (b0 : Nat)) rfl; have uhW12 := Blk.at_ hW.1 2 (v := .int .u8 (c0 : Nat)) rfl; have uhW210 := Blk.at_ hW.2.1 0 (v := .int .u64 (a0 : Nat)) rfl; have uhW211 := Blk.at_ hW.2.1 1 (v := .int .u64 (b0 : Nat)) rfl; have uhW212 := Blk.at_ hW.2.1 2 (v := .int .u8 (c0 : Nat)) rfl; have uhW220 := Blk.at_ hW.2.2 0 (v := .int .u64 (a0 : Nat)) rfl; have uhW221 := Blk.at_ hW.2.2 1 (v := .int .u64 (b1 : Nat)) rfl; have uhW222 := Blk.at_ hW.2.2 2 (v := .int .u8 (c1 : Nat)) rfl; go_simp; rfl) ?_
              refine g_takeG (i := 4) rfl (by simp only [Region.wanted, yielded]; go_simp) (by kernel_rfl) (by kernel_rfl) (by kernel_rfl) (by kernel_rfl) (by kernel_rfl) (fun _ _ _ h => h) hS (fun L W hL hW => by go_simp; rfl) ?_
              refine g_take (i := 5) rfl rfl (by kernel_rfl) (by kernel_rfl) (by kernel_rfl) (by kernel_rfl) (by kernel_rfl) (fun _ _ _ h => h) hS (fun L W hL hW => by go_simp; rfl) ?_
              refine g_take (i := 6) rfl rfl (by kernel_rfl) (by kernel_rfl) (by kernel_rfl) (by kernel_rfl) (by kernel_rfl) (fun _ _ _ h => h) hS (fun L W hL hW => by go_simp; rfl) ?_
              refine g_takeG (i := 7) rfl (by simp only [Region.wanted, yielded]; go_simp) (by kernel_rfl) (by kernel_rfl) (by kernel_rfl) (by kernel_rfl) (by kernel_rfl) (fun _ _ _ h => h) hS (fun L W hL hW => by go_simp; rfl) ?_
              refine g_takeG (i := 8) rfl (by simp only [Region.wanted, yielded]; go_simp) (by kernel_rfl) (by kernel_rfl) (by kernel_rfl) (by kernel_rfl) (by kernel_rfl) (fun _ _ _ h => h) hS (fun L W hL hW => by go_simp; rfl) ?_
              refine g_takeG (i := 9) rfl (by simp only [Region.wanted, yielded]; go_simp) (by kernel_rfl) (by kernel_rfl) (by kernel_rfl) (by kernel_rfl) (by kernel_rfl) (fun _ _ _ h => h) hS (fun L W hL hW => by go_simp; rfl) ?_
              refine g_take (i := 10) rfl rfl (by kernel_rfl) (by kernel_rfl) (by kernel_rfl) (by kernel_rfl) (by kernel_rfl) (fun _ _ _ h => h) hS (fun L W hL hW => by go_simp; rfl) ?_
              refine g_take (i := 11) rfl rfl (by kernel_rfl) (by kernel_rfl) (by kernel_rfl) (by kernel_rfl) (by kernel_rfl) (fun _ _ _ h => h) hS (fun L W hL hW => by go_simp; rfl) ?_
              refine g_takeG (i := 12) rfl (by simp only [Region.wanted, yielded]; go_simp) (by kernel_rfl) (by kernel_rfl) (by kernel_rfl) (by kernel_rfl) (by kernel_rfl) (fun _ _ _ h => h) hS (fun L W hL hW => by go_simp; rfl) ?_
              refine g_takeG (i := 13) rfl (by simp only [Region.wanted, yielded]; go_simp) (by kernel_rfl) (by kernel_rfl) (by kernel_rfl) (by kernel_rfl) (by kernel_rfl) (fun _ _ _ h => h) hS (fun L W hL hW => by go_simp; rfl) ?_
              refine g_takeG (i := 14) rfl (by simp only [Region.wanted, yielded]; go_simp) (by kernel_rfl) (by kernel_rfl) (by kernel_rfl) (by kernel_rfl) (by kernel_rfl) (fun _ _ _ h => h) hS (fun L W hL hW => by go_simp; rfl) ?_
              refine g_takeG (i := 15) rfl (by simp only [Region.wanted, yielded]; go_simp) (by kernel_rfl) (by kernel_rfl) (by kernel_rfl) (by kernel_rfl) (by kernel_rfl) (fun _ _ _ h => h) hS (fun L W hL hW => by go_simp; rfl) ?_
              refine g_takeG (i := 16) rfl (by simp only [Region.wanted, yielded]; go_simp) (by kernel_rfl) (by kernel_rfl) (by kernel_rfl) (by kernel_rfl) (by kernel_rfl) (fun _ _ _ h => h) hS (fun L W hL hW => by go_simp; rfl) ?_
              refine g_takeG (i := 18) rfl (by simp only [Region.wanted, yielded]; go_simp) (by kernel_rfl) (by kernel_rfl) (by kernel_rfl) (by kernel_rfl) (by kernel_rfl) (fun _ _ _ h => h) hS (fun L W hL hW => by have uhW10 := Blk.at_ hW.1 0 (v := .int .u64 (a0 : Nat)) rfl; have uhW11 := Blk.at_ hW.1 1 (v := .int .u64 (b0 : Nat)) rfl; have uhW12 := Blk.at_ hW.1 2 (v := .int .u8 (c0 : Nat)) rfl; have uhW210 := Blk.at_ hW.2.1 0 (v := .int .u64 (a0 : Nat)) rfl; have uhW211 := Blk.at_ hW.2.1 1 (v := .int .u64 (b0 : Nat)) rfl; have uhW212 := Blk.at_ hW.2.1 2 (v := .int .u8 (c0 : Nat)) rfl; have uhW220 := Blk.at_ hW.2.2 0 (v := .int .u64 (a0 : Nat)) rfl; have uhW221 := Blk.at_ hW.2.2 1 (v := .int .u64 (b1 : Nat)) rfl; have uhW222 := Blk.at_ hW.2.2 2 (v := .int .u8 (c1 : Nat)) rfl; go_simp; rfl) ?_
              refine g_takeG (i := 19) rfl (by simp only [Region.wanted, yielded]; go_simp) (by kernel_rfl) (by kernel_rfl) (by kernel_rfl) (by kernel_rfl) (by kernel_rfl) (fun _ _ _ h => h) hS (fun L W hL hW => by have uhW10 := Blk.at_ hW.1 0 (v := .int .u64 (a0 : Nat)) rfl; have uhW11 := Blk.at_ hW.1 1 (v := .int .u64 (b0 : Nat)) rfl; have uhW12 := Blk.at_ hW.1 2 (v := .int .u8 (c0 : Nat)) rfl; have uhW210 := Blk.at_ hW.2.1 0 (v := .int .u64 (a0 : Nat)) rfl; have uhW211 := Blk.at_ hW.2.1 1 (v := .int .u64 (b0 : Nat)) rfl; have uhW212 := Blk.at_ hW.2.1 2 (v := .int .u8 (c0 : Nat)) rfl; have uhW220 := Blk.at_ hW.2.2 0 (v := .int .u64 (a0 : Nat)) rfl; have uhW221 := Blk.at_ hW.2.2 1 (v := .int .u64 (b1 : Nat)) rfl; have uhW222 := Blk.at_ hW.2.2 2 (v := .int .u8 (c1 : Nat)) rfl; go_simp; rfl) ?_
              refine g_takeG (i := 20) rfl (by simp only [Region.wanted, yielded]; go_simp) (by kernel_rfl) (by kernel_rfl) (by kernel_rfl) (by kernel_rfl) (by kernel_rfl) (fun _ _ _ h => h) hS (fun L W hL hW => by go_simp; rfl) ?_
              refine g_one (i := 17) rfl (by simp only [Region.wanted, yielded]; go_simp) (by kernel_rfl) fun K hK => ?_
              go_simp
              refine Calls.mono (same_any _ _ _ _ x y 32 _ hx32.out.symm HM.out V hJx hJy) ?_
              rintro e wy ⟨rfl, rfl⟩
              rw [hne]
              refine hK _ _ hS ?_
              clear hK K
              refine g_takeG (i := 21) rfl (by simp only [Region.wanted, yielded]; go_simp) (by kernel_rfl) (by kernel_rfl) (by kernel_rfl) (by kernel_rfl) (by kernel_rfl) (fun _ _ _ h => h) hS (fun L W hL hW => by go_simp; rfl) ?_
              refine g_takeG (i := 22) rfl (by simp only [Region.wanted, yielded]; go_simp) (by kernel_rfl) (by kernel_rfl) (by kernel_rfl) (by kernel_rfl) (by kernel_rfl) (fun _ _ _ h => h) hS (fun L W hL hW => by go_simp; rfl) ?_
              refine g_take (i := 23) rfl rfl (by kernel_rfl) (by kernel_rfl) (by kernel_rfl) (by kernel_rfl) (by kernel_rfl) (fun _ _ _ h => h) hS (fun L W hL hW => by go_simp; rfl) ?_
              refine g_take (i := 24) rfl rfl (by kernel_rfl) (by kernel_rfl) (by kernel_rfl) (by kernel_rfl) (by kernel_rfl) (fun _ _ _ h => h) hS (fun L W hL hW => by go_simp; rfl) ?_
              refine g_one (i := 25) rfl (by simp only [Region.wanted, yielded]; go_simp) (by kernel_rfl) fun K hK => ?_
              go_simp
              refine Calls.mono (awake_any V) ?_
              rintro e wz ⟨rfl, hb⟩
              have hS2 : Blk wz g15 24 #[.int .u64 (a0 : Nat), .int .u64 (b0 : Nat), .int .u8 (c0 : Nat)] ∧ Blk wz w.heap.size 24 #[.int .u64 (a0 : Nat), .int .u64 (b0 : Nat), .int .u8 (c0 : Nat)] ∧ Blk wz (w.heap.size + 1) 24 #[.int .u64 (a0 : Nat), .int .u64 (b1 : Nat), .int .u8 (c1 : Nat)] := ⟨hS.1.below hb hS.1.lt, hS.2.1.below hb hS.2.1.lt, hS.2.2.below hb hS.2.2.lt⟩
              have hBf := hB.trans (hb.mono hB.size)
              refine hK _ _ hS2 ?_
              clear hK K
              refine g_take (i := 26) rfl rfl (by kernel_rfl) (by kernel_rfl) (by kernel_rfl) (by kernel_rfl) (by kernel_rfl) (fun _ _ _ h => h) hS2 (fun L W hL hW => by go_simp; rfl) ?_
              refine g_take (i := 27) rfl rfl (by kernel_rfl) (by kernel_rfl) (by kernel_rfl) (by kernel_rfl) (by kernel_rfl) (fun _ _ _ h => h) hS2 (fun L W hL hW => by go_simp; rfl) ?_
              refine wpAnyG_done (by kernel_rfl) ?_ _
              go_simp
              go_wp2_with fail
              go_ret
              exact ⟨rfl, hBf⟩
          · have u3 : ¬ (a0 : Int) = (a1 : Int) := by omega
            clear hgh
            refine wp_region_heldG [] (fun _ W => Blk W g15 24 #[.int .u64 (a0 : Nat), .int .u64 (b0 : Nat), .int .u8 (c0 : Nat)] ∧ Blk W w.heap.size 24 #[.int .u64 (a0 : Nat), .int .u64 (b0 : Nat), .int .u8 (c0 : Nat)] ∧ Blk W (w.heap.size + 1) 24 #[.int .u64 (a1 : Nat), .int .u64 (b1 : Nat), .int .u8 (c1 : Nat)]) (by kernel_rfl) ?_
            change wpAnyG _ _ _ _ _ _ 28 _ _ (World.drew _)
            have hS : Blk v.drew g15 24 #[.int .u64 (a0 : Nat), .int .u64 (b0 : Nat), .int .u8 (c0 : Nat)] ∧ Blk v.drew w.heap.size 24 #[.int .u64 (a0 : Nat), .int .u64 (b0 : Nat), .int .u8 (c0 : Nat)] ∧ Blk v.drew (w.heap.size + 1) 24 #[.int .u64 (a1 : Nat), .int .u64 (b1 : Nat), .int .u8 (c1 : Nat)] := ⟨q15, p3, p4⟩
            have hJx : Bytes v.drew v.drew.heap.size A0 x := hJx.drew
            have hJy : Bytes v.drew v.drew.heap.size A1 y := hJy.drew
            have hB := hB.drew
            generalize v.drew = V at *
            -- take0 take1 take2G take3G take4G take5 take6 take7G take8G take9G take10 take11 take12G take13G take14G take15G take16G take18G take19G take20G one17G take21G take22G take23 take24 one25G take26 take27 done
            refine g_take (i := 0) rfl rfl (by kernel_rfl) (by kernel_rfl) (by kernel_rfl) (by kernel_rfl) (by kernel_rfl) (fun _ _ _ h => h) hS (fun L W hL hW => by go_simp; rfl) ?_
            refine g_take (i := 1) rfl rfl (by kernel_rfl) (by kernel_rfl) (by kernel_rfl) (by kernel_rfl) (by kernel_rfl) (fun _ _ _ h => h) hS (fun L W hL hW => by go_simp; rfl) ?_
            refine g_takeG (i := 2) rfl (by simp only [Region.wanted, yielded]; go_simp) (by kernel_rfl) (by kernel_rfl) (by kernel_rfl) (by kernel_rfl) (by kernel_rfl) (fun _ _ _ h => h) hS (fun L W hL hW => by have uhW10 := Blk.at_ hW.1 0 (v := .int .u64 (a0 : Nat)) rfl; have uhW11 := Blk.at_ hW.1 1 (v := .int .u64 (b0 : Nat)) rfl; have uhW12 := Blk.at_ hW.1 2 (v := .int .u8 (c0 : Nat)) rfl; have uhW210 := Blk.at_ hW.2.1 0 (v := .int .u64 (a0 : Nat)) rfl; have uhW211 := Blk.at_ hW.2.1 1 (v := .int .u64 (b0 : Nat)) rfl; have uhW212 := Blk.at_ hW.2.1 2 (v := .int .u8 (c0 : Nat)) rfl; have uhW220 := Blk.at_ hW.2.2 0 (v := .int .u64 (a1 : Nat)) rfl; have uhW221 := Blk.at_ hW.2.2 1 (v := .int .u64 (b1 : Nat)) rfl; have uhW222 := Blk.at_ hW.2.2 2 (v := .int .u8 (c1 : Nat)) rfl; go_simp; rfl) ?_
            refine g_takeG (i := 3) rfl (by simp only [Region.wanted, yielded]; go_simp) (by kernel_rfl) (by kernel_rfl) (by kernel_rfl) (by kernel_rfl) (by kernel_rfl) (fun _ _ _ h => h) hS (fun L W hL hW => by have uhW10 := Blk.at_ hW.1 0 (v := .int .u64 (a0 : Nat)) rfl; have uhW11 := Blk.at_ hW.1 1 (v := .int .u64 (b0 : Nat)) rfl; have uhW12 := Blk.at_ hW.1 2 (v := .int .u8 (c0 : Nat)) rfl; have uhW210 := Blk.at_ hW.2.1 0 (v := .int .u64 (a0 : Nat)) rfl; have uhW211 := Blk.at_ hW.2.1 1 (v := .int .u64 (b0 : Nat)) rfl; have uhW212 := Blk.at_ hW.2.1 2 (v := .int .u8 (c0 : Nat)) rfl; have uhW220 := Blk.at_ hW.2.2 0 (v := .int .u64 (a1 : Nat)) rfl; have uhW221 := Blk.at_ hW.2.2 1 (v := .int .u64 (b1 : Nat)) rfl; have uhW222 := Blk.at_ hW.2.2 2 (v := .int .u8 (c1 : Nat)) rfl; go_simp; rfl) ?_
            refine g_takeG (i := 4) rfl (by simp only [Region.wanted, yielded]; go_simp) (by kernel_rfl) (by kernel_rfl) (by kernel_rfl) (by kernel_rfl) (by kernel_rfl) (fun _ _ _ h => h) hS (fun L W hL hW => by go_simp; rfl) ?_
            refine g_take (i := 5) rfl rfl (by kernel_rfl) (by kernel_rfl) (by kernel_rfl) (by kernel_rfl) (by kernel_rfl) (fun _ _ _ h => h) hS (fun L W hL hW => by go_simp; rfl) ?_
            refine g_take (i := 6) rfl rfl (by kernel_rfl) (by kernel_rfl) (by kernel_rfl) (by kernel_rfl) (by kernel_rfl) (fun _ _ _ h => h) hS (fun L W hL hW => by go_simp; rfl) ?_
            refine g_takeG (i := 7) rfl (by simp only [Region.wanted, yielded]; go_simp) (by kernel_rfl) (by kernel_rfl) (by kernel_rfl) (by kernel_rfl) (by kernel_rfl) (fun _ _ _ h => h) hS (fun L W hL hW => by go_simp; rfl) ?_
            refine g_takeG (i := 8) rfl (by simp only [Region.wanted, yielded]; go_simp) (by kernel_rfl) (by kernel_rfl) (by kernel_rfl) (by kernel_rfl) (by kernel_rfl) (fun _ _ _ h => h) hS (fun L W hL hW => by go_simp; rfl) ?_
            refine g_takeG (i := 9) rfl (by simp only [Region.wanted, yielded]; go_simp) (by kernel_rfl) (by kernel_rfl) (by kernel_rfl) (by kernel_rfl) (by kernel_rfl) (fun _ _ _ h => h) hS (fun L W hL hW => by go_simp; rfl) ?_
            refine g_take (i := 10) rfl rfl (by kernel_rfl) (by kernel_rfl) (by kernel_rfl) (by kernel_rfl) (by kernel_rfl) (fun _ _ _ h => h) hS (fun L W hL hW => by go_simp; rfl) ?_
            refine g_take (i := 11) rfl rfl (by kernel_rfl) (by kernel_rfl) (by kernel_rfl) (by kernel_rfl) (by kernel_rfl) (fun _ _ _ h => h) hS (fun L W hL hW => by go_simp; rfl) ?_
            refine g_takeG (i := 12) rfl (by simp only [Region.wanted, yielded]; go_simp) (by kernel_rfl) (by kernel_rfl) (by kernel_rfl) (by kernel_rfl) (by kernel_rfl) (fun _ _ _ h => h) hS (fun L W hL hW => by go_simp; rfl) ?_
            refine g_takeG (i := 13) rfl (by simp only [Region.wanted, yielded]; go_simp) (by kernel_rfl) (by kernel_rfl) (by kernel_rfl) (by kernel_rfl) (by kernel_rfl) (fun _ _ _ h => h) hS (fun L W hL hW => by go_simp; rfl) ?_
            refine g_takeG (i := 14) rfl (by simp only [Region.wanted, yielded]; go_simp) (by kernel_rfl) (by kernel_rfl) (by kernel_rfl) (by kernel_rfl) (by kernel_rfl) (fun _ _ _ h => h) hS (fun L W hL hW => by go_simp; rfl) ?_
            refine g_takeG (i := 15) rfl (by simp only [Region.wanted, yielded]; go_simp) (by kernel_rfl) (by kernel_rfl) (by kernel_rfl) (by kernel_rfl) (by kernel_rfl) (fun _ _ _ h => h) hS (fun L W hL hW => by go_simp; rfl) ?_
            refine g_takeG (i := 16) rfl (by simp only [Region.wanted, yielded]; go_simp) (by kernel_rfl) (by kernel_rfl) (by kernel_rfl) (by kernel_rfl) (by kernel_rfl) (fun _ _ _ h => h) hS (fun L W hL hW => by go_simp; rfl) ?_
            refine g_takeG (i := 18) rfl (by simp only [Region.wanted, yielded]; go_simp) (by kernel_rfl) (by kernel_rfl) (by kernel_rfl) (by kernel_rfl) (by kernel_rfl) (fun _ _ _ h => h) hS (fun L W hL hW => by have uhW10 := Blk.at_ hW.1 0 (v := .int .u64 (a0 : Nat)) rfl; have uhW11 := Blk.at_ hW.1 1 (v := .int .u64 (b0 : Nat)) rfl; have uhW12 := Blk.at_ hW.1 2 (v := .int .u8 (c0 : Nat)) rfl; have uhW210 := Blk.at_ hW.2.1 0 (v := .int .u64 (a0 : Nat)) rfl; have uhW211 := Blk.at_ hW.2.1 1 (v := .int .u64 (b0 : Nat)) rfl; have uhW212 := Blk.at_ hW.2.1 2 (v := .int .u8 (c0 : Nat)) rfl; have uhW220 := Blk.at_ hW.2.2 0 (v := .int .u64 (a1 : Nat)) rfl; have uhW221 := Blk.at_ hW.2.2 1 (v := .int .u64 (b1 : Nat)) rfl; have uhW222 := Blk.at_ hW.2.2 2 (v := .int .u8 (c1 : Nat)) rfl; go_simp; rfl) ?_
            refine g_takeG (i := 19) rfl (by simp only [Region.wanted, yielded]; go_simp) (by kernel_rfl) (by kernel_rfl) (by kernel_rfl) (by kernel_rfl) (by kernel_rfl) (fun _ _ _ h => h) hS (fun L W hL hW => by have uhW10 := Blk.at_ hW.1 0 (v := .int .u64 (a0 : Nat)) rfl; have uhW11 := Blk.at_ hW.1 1 (v := .int .u64 (b0 : Nat)) rfl; have uhW12 := Blk.at_ hW.1 2 (v := .int .u8 (c0 : Nat)) rfl; have uhW210 := Blk.at_ hW.2.1 0 (v := .int .u64 (a0 : Nat)) rfl; have uhW211 := Blk.at_ hW.2.1 1 (v := .int .u64 (b0 : Nat)) rfl; have uhW212 := Blk.at_ hW.2.1 2 (v := .int .u8 (c0 : Nat)) rfl; have uhW220 := Blk.at_ hW.2.2 0 (v := .int .u64 (a1 : Nat)) rfl; have uhW221 := Blk.at_ hW.2.2 1 (v := .int .u64 (b1 : Nat)) rfl; have uhW222 := Blk.at_ hW.2.2 2 (v := .int .u8 (c1 : Nat)) rfl; go_simp; rfl) ?_
            refine g_takeG (i := 20) rfl (by simp only [Region.wanted, yielded]; go_simp) (by kernel_rfl) (by kernel_rfl) (by kernel_rfl) (by kernel_rfl) (by kernel_rfl) (fun _ _ _ h => h) hS (fun L W hL hW => by go_simp; rfl) ?_
            refine g_one (i := 17) rfl (by simp only [Region.wanted, yielded]; go_simp) (by kernel_rfl) fun K hK => ?_
            go_simp
            refine Calls.mono (same_any _ _ _ _ x y 32 _ hx32.out.symm HM.out V hJx hJy) ?_
            rintro e wy ⟨rfl, rfl⟩
            rw [hne]
            refine hK _ _ hS ?_
            clear hK K
            refine g_takeG (i := 21) rfl (by simp only [Region.wanted, yielded]; go_simp) (by kernel_rfl) (by kernel_rfl) (by kernel_rfl) (by kernel_rfl) (by kernel_rfl) (fun _ _ _ h => h) hS (fun L W hL hW => by go_simp; rfl) ?_
            refine g_takeG (i := 22) rfl (by simp only [Region.wanted, yielded]; go_simp) (by kernel_rfl) (by kernel_rfl) (by kernel_rfl) (by kernel_rfl) (by kernel_rfl) (fun _ _ _ h => h) hS (fun L W hL hW => by go_simp; rfl) ?_
            refine g_take (i := 23) rfl rfl (by kernel_rfl) (by kernel_rfl) (by kernel_rfl) (by kernel_rfl) (by kernel_rfl) (fun _ _ _ h => h) hS (fun L W hL hW => by go_simp; rfl) ?_
            refine g_take (i := 24) rfl rfl (by kernel_rfl) (by kernel_rfl) (by kernel_rfl) (by kernel_rfl) (by kernel_rfl) (fun _ _ _ h => h) hS (fun L W hL hW => by go_simp; rfl) ?_
            refine g_one (i := 25) rfl (by simp only [Region.wanted, yielded]; go_simp) (by kernel_rfl) fun K hK => ?_
            go_simp
            refine Calls.mono (awake_any V) ?_
            rintro e wz ⟨rfl, hb⟩
            have hS2 : Blk wz g15 24 #[.int .u64 (a0 : Nat), .int .u64 (b0 : Nat), .int .u8 (c0 : Nat)] ∧ Blk wz w.heap.size 24 #[.int .u64 (a0 : Nat), .int .u64 (b0 : Nat), .int .u8 (c0 : Nat)] ∧ Blk wz (w.heap.size + 1) 24 #[.int .u64 (a1 : Nat), .int .u64 (b1 : Nat), .int .u8 (c1 : Nat)] := ⟨hS.1.below hb hS.1.lt, hS.2.1.below hb hS.2.1.lt, hS.2.2.below hb hS.2.2.lt⟩
            have hBf := hB.trans (hb.mono hB.size)
            refine hK _ _ hS2 ?_
            clear hK K
            refine g_take (i := 26) rfl rfl (by kernel_rfl) (by kernel_rfl) (by kernel_rfl) (by kernel_rfl) (by kernel_rfl) (fun _ _ _ h => h) hS2 (fun L W hL hW => by go_simp; rfl) ?_
            refine g_take (i := 27) rfl rfl (by kernel_rfl) (by kernel_rfl) (by kernel_rfl) (by kernel_rfl) (by kernel_rfl) (fun _ _ _ h => h) hS2 (fun L W hL hW => by go_simp; rfl) ?_
            refine wpAnyG_done (by kernel_rfl) ?_ _
            go_simp
            go_wp2_with fail
            go_ret
            exact ⟨rfl, hBf⟩
end Go.Proofs.Ytpohefpiidlnjaa.HdW
