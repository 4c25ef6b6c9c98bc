/-
  The walks of the document's heads: Right, eight, number, Bytes.
-/
import Derived.Test.YtpohefpiidlnjaaHeadWalks3
import Derived.Test.YtpohefpiidlnjaaWordsMore
namespace Go.Proofs.Ytpohefpiidlnjaa.Hr
set_option linter.unusedVariables false
open Go Go.RowKit Go.Proofs Go.Proofs.Ytpohefpiidlnjaa Go.Proofs.Ytpohefpiidlnjaa.Wd
open Go.Proofs.Ytpohefpiidlnjaa.Hd (H Wf right none_ le8 un8 le8_length)
open Go.Proofs.Ytpohefpiidlnjaa.HdW (bytesR)
theorem rright (s e l : Nat) (hs : s < 18446744073709551616) (hl : l < 256) (w : World) : Calls Try.prog 26 #[.agg #[.int .u64 s, .int .u64 e, .int .u8 l]] w fun en w' => en = .returned (.bool (right ⟨s, e, l⟩)) ∧ Below w.heap.size w w' := by
  have hB := (Below.refl w.heap.size w).alloc (Nat.le_refl _) (.cells #[.int .u64 (s : Int), .int .u64 (e : Int), .int .u8 (l : Int)] 24)
  by_cases h0 : s = 0
  · have HR : Hid (right ⟨s, e, l⟩ = false) := Lib.hid (by unfold right; simp [h0])
    have u1 : ((s : Int) != 0) = false := by simp; omega
    clear h0
    go_enter Try.func26, Try.ntmps26
    go_wp2_with fail
    go_ret
    exact ⟨by rw [HR.out]; rfl, hB⟩
  have u1 : ((s : Int) != 0) = true := by simp; omega
  have u2 : ¬ (s : Int) = 0 := by omega
  by_cases h1 : l = 0
  · have HR : Hid (right ⟨s, e, l⟩ = true) := Lib.hid (by unfold right; simp; omega)
    have u3 : ((l : Int) == 0) = true := by simp; omega
    clear h0 h1
    go_enter Try.func26, Try.ntmps26
    go_wp2_with fail
    go_ret
    exact ⟨by rw [HR.out]; rfl, hB⟩
  have u3 : ((l : Int) == 0) = false := by simp; omega
  by_cases h2 : l = 1
  · have HR : Hid (right ⟨s, e, l⟩ = true) := Lib.hid (by unfold right; simp; omega)
    have u4 : ((l : Int) == 1) = true := by simp; omega
    clear h0 h1 h2
    go_enter Try.func26, Try.ntmps26
    go_wp2_with fail
    go_ret
    exact ⟨by rw [HR.out]; rfl, hB⟩
  · have HR : Hid (right ⟨s, e, l⟩ = false) := Lib.hid (by unfold right; simp; omega)
    have u4 : ((l : Int) == 1) = false := by simp; omega
    clear h0 h1 h2
    go_enter Try.func26, Try.ntmps26
    go_wp2_with fail
    go_ret
    exact ⟨by rw [HR.out]; rfl, hB⟩
/-- The eight bytes, as far as they are made; what is left. -/
def dv (n : Nat) : Nat → Nat
  | 0 => n
  | i + 1 => dv n i / 256
theorem dv_lt {n : Nat} (h : n < 18446744073709551616) : ∀ i, dv n i < 18446744073709551616
  | 0 => h
  | i + 1 => by have := dv_lt h i; show dv n i / 256 < _; omega
def dl (n : Nat) : Nat → List UInt8
  | 0 => []
  | i + 1 => dl n i ++ [UInt8.ofNat (dv n i % 256)]
theorem dl_len (n : Nat) : ∀ i, (dl n i).length = i
  | 0 => rfl
  | i + 1 => by show (dl n i ++ _).length = _; rw [List.length_append, dl_len n i]; rfl
theorem dl_eight (n : Nat) : dl n 8 = le8 n := by
  show [_, _, _, _, _, _, _, _] = [_, _, _, _, _, _, _, _]
  have e : ∀ a : Nat, UInt8.ofNat (a % 256) = UInt8.ofNat a := fun a => by apply UInt8.toNat.inj; simp
  simp only [dv, e, Nat.div_div_eq_div_mul]
set_option maxRecDepth 100000 in
theorem reight (n : Nat) (hn : n < 18446744073709551616) (w : World) : Calls Try.prog 45 #[.int .u64 n] w fun e w' => ∃ v, e = .returned v ∧ w'.ownsRow w.heap.size 5 1 v 8 (bs (le8 n)) ∧ Below w.heap.size w w' := by
  have HE := Lib.hid (dl_eight n)
  go_enter Try.func45, Try.ntmps45
  obtain ⟨i0, hi0, hz0, hz1, hz2⟩ := info_parts infoU8
  have HL0 : Hid (w.ownsRow w.heap.size 5 1 (.slice none 0 0) 0 (bs (dl n 0)) ∧ Below w.heap.size w w) := Lib.hid ⟨own_nil _ _ _, Below.refl _ _⟩
  go_wp2_with fail
  go_loopw [0, 3, 4] (fun t v i wr => ∃ j : Nat, j ≤ 8 ∧ i = .int .i64 j ∧ t = .int .u64 (dv n j : Nat) ∧ Hid (wr.ownsRow w.heap.size 5 1 v j (bs (dl n j)) ∧ Below w.heap.size w wr)) (fun t v i _ => 8 - (intOf i).toNat)
  case atStart => exact ⟨0, Nat.zero_le _, rfl, rfl, HL0⟩
  case round =>
    obtain ⟨j, hj, rfl, rfl, HS⟩ := hrel
    clear HL0
    by_cases hlt : j < 8
    · have hown := HS.out.1
      have hlow := HS.out.2
      obtain ⟨A9, c9, hv⟩ := own_form hown
      subst hv
      have hdl := dv_lt hn j
      have HD1 : Hid (dv n (j + 1) = dv n j / 256) := Lib.hid rfl
      have HDL : Hid (dl n (j + 1) = dl n j ++ [UInt8.ofNat (dv n j % 256)]) := Lib.hid rfl
      have h256 := Nat.mod_lt (dv n j) (show 0 < 256 by omega)
      have hy : ((UInt8.ofNat (dv n j % 256)).toNat : Nat) = dv n j % 256 := by rw [UInt8.toNat_ofNat_of_lt' (by simpa [UInt8.size] using h256)]
      have m1 : ((dv n j : Nat) : Int).tmod 256 = ((dv n j % 256 : Nat) : Int) := by rw [Int.tmod_eq_emod_of_nonneg (Int.natCast_nonneg _)]; rfl
      have m2 : ((dv n j : Nat) : Int).tdiv 256 = ((dv n (j + 1) : Nat) : Int) := by rw [HD1.out, Int.tdiv_eq_ediv_of_nonneg (Int.natCast_nonneg _)]; rfl
      have m3 : IntKind.u8.wrap ((dv n j % 256 : Nat) : Int) = ((dv n j % 256 : Nat) : Int) := IntWalk.u8_in _ (by omega)
      have m4 : IntKind.u64.wrap ((dv n (j + 1) : Nat) : Int) = ((dv n (j + 1) : Nat) : Int) := IntWalk.u64_in _ (by have := dv_lt hn (j + 1); omega)
      have hB1 := hlow.alloc hlow.size (.cells #[.int .u8 ((dv n j % 256 : Nat) : Int)] 5)
      have HOA := Lib.hid (own_belowW hown ((Below.refl wr.heap.size wr).alloc (Nat.le_refl _) (.cells #[.int .u8 ((dv n j % 256 : Nat) : Int)] 5)))
      have HYB : Hid (Bytes (wr.alloc (.cells #[.int .u8 ((dv n j % 256 : Nat) : Int)] 5)) (wr.heap.size + 1) (some ⟨wr.heap.size, 0, none⟩) [UInt8.ofNat (dv n j % 256)]) := Lib.hid (Bytes.new_ wr 5 _ (0, 0) _ (by simp [bs, hy]) rfl (by omega))
      have HBB := Lib.hid hB1
      have hsz : w.heap.size ≤ wr.heap.size := hlow.size
      clear hy HD1 hown hlow hB1 HS h256
      generalize dv n j % 256 = y at *
      generalize dv n j = d0 at *
      generalize dl n j = l0 at *
      go_wp2_with (at_builtin; refine wpList_append_row _ rfl (.tmp 9) (.tmp 13) _ rfl w.heap.size 5 i0 _ 1 Try.underlying25 hi0 hz0 hz1 hz2 rfl _ j (bs l0) rfl HOA.out (wr.heap.size + 1) (some ⟨wr.heap.size, 0, none⟩) 1 1 (bs [UInt8.ofNat y]) rfl rfl HYB.out (bs_one _) (by unfold maxLen; omega) (by omega) (by simp; omega) ?_)
      intro v1 w1 hown1 hgrow _ _
      have HN : Hid (w1.ownsRow w.heap.size 5 1 v1 (j + 1) (bs (dl n (j + 1))) ∧ Below w.heap.size w w1) := Lib.hid ⟨by rw [HDL.out, bs_append]; exact hown1, HBB.out.grown hgrow HBB.out.size (fun k hk => (own_row HOA.out hk).1)⟩
      clear hown1 hgrow HOA HYB HBB
      go_wp2_with fail
      go_roundw
      case rel => exact ⟨j + 1, by omega, by go_num, rfl, HN⟩
      case measure => simp [intOf]; omega
    · have hj8 : j = 8 := by omega
      subst hj8
      have HF : Hid (wr.ownsRow w.heap.size 5 1 u3 8 (bs (le8 n)) ∧ Below w.heap.size w wr) := Lib.hid (by rw [← HE.out]; exact HS.out)
      go_wp2_with fail
      go_ret
      exact ⟨_, rfl, HF.out.1, HF.out.2⟩
/-- A number's bytes, from the last one on, as far as they are added. -/
def vn (b : List UInt8) : Nat → Nat
  | 0 => 0
  | j + 1 => vn b j * 256 + (b.getD (7 - j) 0).toNat
theorem vn_lt (b : List UInt8) : ∀ j, vn b j < 256 ^ j
  | 0 => by simp [vn]
  | j + 1 => by
    have h := vn_lt b j
    have h2 := (b.getD (7 - j) 0).toNat_lt
    show vn b j * 256 + _ < _
    rw [Nat.pow_succ]
    omega
theorem vn_eight (b : List UInt8) : vn b 8 = un8 b := by
  simp only [vn, Nat.reduceSub, Nat.zero_mul, Nat.zero_add]
  unfold un8
  omega
set_option maxRecDepth 100000 in
set_option maxHeartbeats 1000000 in
theorem rnumber (A : Option Addr) (c : Nat) (b : List UInt8) (hb : b.length = 8) (w : World) (hI : Bytes w w.heap.size A b) : Calls Try.prog 46 #[.slice A 8 c] w fun e w' => e = .returned (.int .u64 (un8 b : Nat)) ∧ w = w' := by
  have HE := Lib.hid (vn_eight b)
  have HI := Lib.hid hI
  have HB := Lib.hid hb
  clear hI hb
  go_enter Try.func46, Try.ntmps46
  go_wp2_with fail
  go_loop [3, 4] (fun t i => ∃ j : Nat, j ≤ 8 ∧ i = .int .i64 (7 - (j : Int)) ∧ t = .int .u64 (vn b j : Nat)) (fun t i => (intOf i + 1).toNat)
  case atStart => exact ⟨0, Nat.zero_le _, rfl, rfl⟩
  case round =>
    obtain ⟨j, hj, rfl, rfl⟩ := hrel
    rcases (by omega : j = 8 ∨ j = 0 ∨ j = 1 ∨ j = 2 ∨ j = 3 ∨ j = 4 ∨ j = 5 ∨ j = 6 ∨ j = 7) with rfl | hj7
    · go_wp2_with fail
      go_ret
      exact ⟨by rw [← HE.out]; rfl, rfl⟩
    have hv := vn_lt b j
    have hv1 := vn_lt b (j + 1)
    have HV1 : Hid (vn b (j + 1) = vn b j * 256 + (b.getD (7 - j) 0).toNat) := Lib.hid rfl
    have hq : 256 ^ (j + 1) ≤ 256 ^ 8 := Nat.pow_le_pow_right (by omega) (by omega)
    have hq8 : (256 : Nat) ^ 8 = 18446744073709551616 := by decide
    have hl : 7 - j < b.length := by rw [HB.out]; omega
    obtain ⟨bb, off, rfl, -, hc⟩ := HI.out.at_ hl
    have hg : b.getD (7 - j) 0 = b[7 - j] := by simp [hl]
    rw [hg] at HV1
    have hlt := (b[7 - j]).toNat_lt
    generalize b[7 - j] = x at *
    have e1 := HV1.out
    have y1 : IntKind.u64.wrap (((vn b j : Nat) : Int) * 256) = ((vn b j : Nat) : Int) * 256 := IntWalk.u64_in _ (by omega)
    have y2 : IntKind.u64.wrap (((vn b j : Nat) : Int) * 256 + (x.toNat : Int)) = ((vn b (j + 1) : Nat) : Int) := by rw [show ((vn b j : Nat) : Int) * 256 + (x.toNat : Int) = ((vn b (j + 1) : Nat) : Int) by omega]; exact IntWalk.u64_in _ (by omega)
    have y3 : IntKind.u64.wrap (x.toNat : Int) = (x.toNat : Int) := IntWalk.u64_in _ (by omega)
    clear hg e1 hv hv1 hq hq8 hl HV1 hlt
    rcases hj7 with rfl | rfl | rfl | rfl | rfl | rfl | rfl | rfl
    · rw [show (7 - ((0 : Nat) : Int)) = (7 : Int) from rfl]
      have hc : w.cell? ⟨bb, off + 7, none⟩ = some (.int .u8 (x.toNat : Nat)) := hc
      have y2 : IntKind.u64.wrap (((vn b 0 : Nat) : Int) * 256 + (x.toNat : Int)) = ((vn b 1 : Nat) : Int) := y2
      go_wp2_with fail
      go_round
      case rel => exact ⟨1, by omega, rfl, rfl⟩
      case measure => simp [intOf]
    · rw [show (7 - ((1 : Nat) : Int)) = (6 : Int) from rfl]
      have hc : w.cell? ⟨bb, off + 6, none⟩ = some (.int .u8 (x.toNat : Nat)) := hc
      have y2 : IntKind.u64.wrap (((vn b 1 : Nat) : Int) * 256 + (x.toNat : Int)) = ((vn b 2 : Nat) : Int) := y2
      go_wp2_with fail
      go_round
      case rel => exact ⟨2, by omega, rfl, rfl⟩
      case measure => simp [intOf]
    · rw [show (7 - ((2 : Nat) : Int)) = (5 : Int) from rfl]
      have hc : w.cell? ⟨bb, off + 5, none⟩ = some (.int .u8 (x.toNat : Nat)) := hc
      have y2 : IntKind.u64.wrap (((vn b 2 : Nat) : Int) * 256 + (x.toNat : Int)) = ((vn b 3 : Nat) : Int) := y2
      go_wp2_with fail
      go_round
      case rel => exact ⟨3, by omega, rfl, rfl⟩
      case measure => simp [intOf]
    · rw [show (7 - ((3 : Nat) : Int)) = (4 : Int) from rfl]
      have hc : w.cell? ⟨bb, off + 4, none⟩ = some (.int .u8 (x.toNat : Nat)) := hc
      have y2 : IntKind.u64.wrap (((vn b 3 : Nat) : Int) * 256 + (x.toNat : Int)) = ((vn b 4 : Nat) : Int) := y2
      go_wp2_with fail
      go_round
      case rel => exact ⟨4, by omega, rfl, rfl⟩
      case measure => simp [intOf]
    · rw [show (7 - ((4 : Nat) : Int)) = (3 : Int) from rfl]
      have hc : w.cell? ⟨bb, off + 3, none⟩ = some (.int .u8 (x.toNat : Nat)) := hc
      have y2 : IntKind.u64.wrap (((vn b 4 : Nat) : Int) * 256 + (x.toNat : Int)) = ((vn b 5 : Nat) : Int) := y2
      go_wp2_with fail
      go_round
      case rel => exact ⟨5, by omega, rfl, rfl⟩
      case measure => simp [intOf]
    · rw [show (7 - ((5 : Nat) : Int)) = (2 : Int) from rfl]
      have hc : w.cell? ⟨bb, off + 2, none⟩ = some (.int .u8 (x.toNat : Nat)) := hc
      have y2 : IntKind.u64.wrap (((vn b 5 : Nat) : Int) * 256 + (x.toNat : Int)) = ((vn b 6 : Nat) : Int) := y2
      go_wp2_with fail
      go_round
      case rel => exact ⟨6, by omega, rfl, rfl⟩
      case measure => simp [intOf]
    · rw [show (7 - ((6 : Nat) : Int)) = (1 : Int) from rfl]
      have hc : w.cell? ⟨bb, off + 1, none⟩ = some (.int .u8 (x.toNat : Nat)) := hc
      have y2 : IntKind.u64.wrap (((vn b 6 : Nat) : Int) * 256 + (x.toNat : Int)) = ((vn b 7 : Nat) : Int) := y2
      go_wp2_with fail
      go_round
      case rel => exact ⟨7, by omega, rfl, rfl⟩
      case measure => simp [intOf]
    · rw [show (7 - ((7 : Nat) : Int)) = (0 : Int) from rfl]
      have hc : w.cell? ⟨bb, off, none⟩ = some (.int .u8 (x.toNat : Nat)) := hc
      have y2 : IntKind.u64.wrap (((vn b 7 : Nat) : Int) * 256 + (x.toNat : Int)) = ((vn b 8 : Nat) : Int) := y2
      go_wp2_with fail
      go_round
      case rel => exact ⟨8, by omega, rfl, rfl⟩
      case measure => simp [intOf]
set_option maxRecDepth 100000 in
set_option maxHeartbeats 2000000 in
theorem rbytes (s e l : Nat) (wf : Wf ⟨s, e, l⟩) (w : World) : Calls Try.prog 22 #[.agg #[.int .u64 s, .int .u64 e, .int .u8 l]] w (HdW.FreshT w (bytesR ⟨s, e, l⟩).1 (bytesR ⟨s, e, l⟩).2) := by
  have hs := wf.1
  have he := wf.2
  have hl := wf.3
  have hB := (Below.refl w.heap.size w).alloc (Nat.le_refl _) (.cells #[.int .u64 (s : Int), .int .u64 (e : Int), .int .u8 (l : Int)] 24)
  have HRT := Lib.hid (fun W => rright s e l hs hl W)
  have hbx := Blk.new_ w 24 #[.int .u64 (s : Int), .int .u64 (e : Int), .int .u8 (l : Int)] rfl
  obtain ⟨i0, hi0, hz0, hz1, hz2⟩ := info_parts infoU8
  cases hr : right ⟨s, e, l⟩
  · have HR : Hid (bytesR ⟨s, e, l⟩ = ([], 50)) := Lib.hid (by unfold HdW.bytesR; rw [hr]; rfl)
    rw [hr] at HRT
    clear hr hbx
    go_enter Try.func22, Try.ntmps22
    go_wp2_with fail
    refine Calls.mono (HRT.out _) ?_
    rintro en w1 ⟨rfl, hb⟩
    have HB1 := Lib.hid (hB.trans (hb.mono hB.size))
    clear hb
    go_wp2_with fail
    go_ret2
    rw [HR.out]
    exact ⟨none, 0, rfl, Nat.le_refl _, by simp [maxLen], Row.nil, HB1.out, fun _ _ e => by cases e⟩
  have HR : Hid (bytesR ⟨s, e, l⟩ = (Hd.bytes ⟨s, e, l⟩, 0)) := Lib.hid (by unfold HdW.bytesR; rw [hr]; rfl)
  rw [hr] at HRT
  have HBX := Lib.hid hbx
  clear hr hbx
  go_enter Try.func22, Try.ntmps22
  go_wp2_with fail
  refine Calls.mono (HRT.out _) ?_
  rintro en w1 ⟨rfl, hb⟩
  have HB1 := Lib.hid (hB.trans (hb.mono hB.size))
  have HX1 := Lib.hid (HBX.out.below hb HBX.out.lt)
  clear hb HBX HRT hB
  go_wp2_with fail
  refine wp_region_heldG [] (fun cc W => Blk W w.heap.size 24 #[.int .u64 (s : Int), .int .u64 (e : Int), .int .u8 (l : Int)]) (by kernel_rfl) ?_
  change wpAnyG _ _ _ _ _ _ 8 _ _ (World.drew w1)
  have HB2 := Lib.hid HB1.out.drew
  have hS : Blk w1.drew w.heap.size 24 #[.int .u64 (s : Int), .int .u64 (e : Int), .int .u8 (l : Int)] := HX1.out
  clear HB1 HX1
  -- take0 take1 take3 take4 one2 one5 one6 take7 done
  refine g_take (i := 0) rfl rfl (by kernel_rfl) (by kernel_rfl) (by kernel_rfl) (by kernel_rfl) (by kernel_rfl) (fun _ _ _ h => h) hS (fun L W hL hW => by go_simp; rfl) ?_
  refine g_take (i := 1) rfl rfl (by kernel_rfl) (by kernel_rfl) (by kernel_rfl) (by kernel_rfl) (by kernel_rfl) (fun _ _ _ h => h) hS (fun L W hL hW => by have q0 := hW.at_ 0 (v := .int .u64 (s : Int)) rfl; have q1 := hW.at_ 1 (v := .int .u64 (e : Int)) rfl; go_simp; rfl) ?_
  refine g_take (i := 3) rfl rfl (by kernel_rfl) (by kernel_rfl) (by kernel_rfl) (by kernel_rfl) (by kernel_rfl) (fun _ _ _ h => h) hS (fun L W hL hW => by go_simp; rfl) ?_
  refine g_take (i := 4) rfl rfl (by kernel_rfl) (by kernel_rfl) (by kernel_rfl) (by kernel_rfl) (by kernel_rfl) (fun _ _ _ h => h) hS (fun L W hL hW => by have q0 := hW.at_ 0 (v := .int .u64 (s : Int)) rfl; have q1 := hW.at_ 1 (v := .int .u64 (e : Int)) rfl; go_simp; rfl) ?_
  refine g_one (i := 2) rfl rfl (by kernel_rfl) fun K hK => ?_
  go_simp
  refine Calls.mono (reight s hs _) ?_
  rintro en w3 ⟨v3, rfl, hown3, hb3⟩
  have HB3 := Lib.hid (HB2.out.trans (hb3.mono HB2.out.size))
  have hS := hS.below hb3 hS.lt
  have HO3 := Lib.hid (own_base hown3 HB2.out.size)
  clear hown3 hb3 HB2
  refine hK _ _ hS ?_
  clear hK K
  refine g_one (i := 5) rfl rfl (by kernel_rfl) fun K hK => ?_
  go_simp
  refine Calls.mono (reight e he _) ?_
  rintro en w4 ⟨v4, rfl, hown4, hb4⟩
  have HB4 := Lib.hid (HB3.out.trans (hb4.mono HB3.out.size))
  have hS := hS.below hb4 hS.lt
  have HO4 := Lib.hid (own_belowW HO3.out hb4)
  have HR4 := Lib.hid hown4
  clear hown4 hb4 HB3 HO3
  refine hK _ _ hS ?_
  clear hK K
  refine g_one (i := 6) rfl rfl (by kernel_rfl) fun K hK => ?_
  obtain ⟨A4, c4, hv4⟩ := own_form HR4.out
  subst hv4
  obtain ⟨A3, c3, hv3⟩ := own_form HO4.out
  subst hv3
  have HY4 := Lib.hid (own_rowW HR4.out)
  refine wp_append_row _ (.tmp 10) (.tmp 13) _ rfl w.heap.size 5 i0 _ 1 Try.underlying25 hi0 hz0 hz1 hz2 rfl _ 8 (bs (le8 s)) (by go_simp) HO4.out w4.heap.size A4 8 c4 (bs (le8 e)) (by go_simp) rfl HY4.out (bs_one _) (by unfold maxLen; omega) (by omega) HB4.out.size ?_
  intro v5 w5 hown5 hgrow _ _
  have HB5 := Lib.hid (HB4.out.grown hgrow HB4.out.size (fun k hk => (own_row HO4.out hk).1))
  have hS := hS.grown hgrow (fun e => own_blk_ne HO4.out hS (by decide) e.symm)
  have hown5 : w5.ownsRow w.heap.size 5 1 v5 16 (bs (le8 s ++ le8 e)) := by rw [bs_append]; exact hown5
  clear hgrow HO4 HR4 HY4 HB4
  refine hK _ _ hS ?_
  clear hK K
  refine g_take (i := 7) rfl rfl (by kernel_rfl) (by kernel_rfl) (by kernel_rfl) (by kernel_rfl) (by kernel_rfl) (fun _ _ _ h => h) hS (fun L W hL hW => by go_simp; rfl) ?_
  refine wpAnyG_done (by kernel_rfl) ?_ _
  go_simp
  have HL3 : Hid ((le8 s ++ le8 e).length = 8 + 8) := Lib.hid rfl
  obtain ⟨A5, c5, hv5⟩ := own_form hown5
  subst hv5
  have x2 := hS.at_ 2 (v := .int .u8 (l : Int)) rfl
  have x0 := hS.at_ 0 (v := .int .u64 (s : Int)) rfl
  have hB6 := HB5.out.alloc HB5.out.size (.cells #[.int .u8 (l : Int), .int .u8 0, .int .u8 0, .int .u8 0, .int .u8 0, .int .u8 0, .int .u8 0, .int .u8 0] 5)
  have hA6 := (Below.refl w5.heap.size w5).alloc (Nat.le_refl _) (.cells #[.int .u8 (l : Int), .int .u8 0, .int .u8 0, .int .u8 0, .int .u8 0, .int .u8 0, .int .u8 0, .int .u8 0] 5)
  have HO6 := Lib.hid (own_belowW hown5 hA6)
  have HY6 : Hid (Bytes (w5.alloc (.cells #[.int .u8 (l : Int), .int .u8 0, .int .u8 0, .int .u8 0, .int .u8 0, .int .u8 0, .int .u8 0, .int .u8 0] 5)) (w5.heap.size + 1) (some ⟨w5.heap.size, 0, none⟩) (UInt8.ofNat l :: List.replicate 7 0)) := Lib.hid (Bytes.new_ w5 5 _ (0, 0) _ (by simp [bs, UInt8.toNat_ofNat_of_lt' (show l < UInt8.size by simpa [UInt8.size] using hl), List.replicate]) rfl (by omega))
  have HB6 := Lib.hid hB6
  have HX6 := Lib.hid (hS.below hA6 hS.lt)
  have hs5 := HB5.out.size
  clear hown5 hB6 hA6 hS HB5
  go_wp2_with (at_builtin; refine wpList_append_row _ rfl (.tmp 15) (.tmp 18) _ rfl w.heap.size 5 i0 _ 1 Try.underlying25 hi0 hz0 hz1 hz2 rfl _ 16 (bs (le8 s ++ le8 e)) rfl HO6.out (w5.heap.size + 1) (some ⟨w5.heap.size, 0, none⟩) 8 8 (bs (UInt8.ofNat l :: List.replicate 7 0)) rfl rfl HY6.out (bs_one _) (by unfold maxLen; omega) (by omega) (by simp; omega) ?_)
  intro v7 w7 hown7 hgrow _ _
  have HB7 := Lib.hid (HB6.out.grown hgrow HB6.out.size (fun k hk => (own_row HO6.out hk).1))
  have HX7 := Lib.hid (HX6.out.grown hgrow (fun e => own_blk_ne HO6.out HX6.out (by decide) e.symm))
  have hown7 : w7.ownsRow w.heap.size 5 1 v7 24 (bs (le8 s ++ le8 e ++ (UInt8.ofNat l :: List.replicate 7 0))) := by rw [bs_append]; exact hown7
  obtain ⟨A7, c7, hv7⟩ := own_form hown7
  subst hv7
  have HO7 := Lib.hid hown7
  clear hown7 hgrow HO6 HY6 HB6 HX6 x0 x2
  have x0 := HX7.out.at_ 0 (v := .int .u64 (s : Int)) rfl
  go_wp2_with fail
  refine Calls.mono (reight s hs _) ?_
  rintro en w8 ⟨v8, rfl, hown8, hb8⟩
  obtain ⟨A8, c8, hv8⟩ := own_form hown8
  subst hv8
  have HB8 := Lib.hid (HB7.out.trans (hb8.mono HB7.out.size))
  have HO8 := Lib.hid (own_belowW HO7.out hb8)
  have HY8 := Lib.hid (own_rowW hown8)
  have hs8 := HB8.out.size
  clear hown8 hb8 HO7 HB7 HX7 x0
  go_wp2_with (at_builtin; refine wpList_append_row _ rfl (.tmp 20) (.tmp 23) _ rfl w.heap.size 5 i0 _ 1 Try.underlying25 hi0 hz0 hz1 hz2 rfl _ 24 (bs (le8 s ++ le8 e ++ (UInt8.ofNat l :: List.replicate 7 0))) rfl HO8.out w8.heap.size A8 8 c8 (bs (le8 s)) rfl rfl HY8.out (bs_one _) (by unfold maxLen; omega) (by omega) hs8 ?_)
  intro v9 w9 hown9 hgrow _ _
  have HB9 := Lib.hid (HB8.out.grown hgrow HB8.out.size (fun k hk => (own_row HO8.out hk).1))
  have HF : Hid (w9.ownsRow w.heap.size 5 1 v9 32 (bs (Hd.bytes ⟨s, e, l⟩))) := Lib.hid (by
    have e9 : Hd.bytes ⟨s, e, l⟩ = le8 s ++ le8 e ++ (UInt8.ofNat l :: List.replicate 7 0) ++ le8 s := by
      show le8 s ++ (le8 e ++ (UInt8.ofNat l :: (List.replicate 7 0 ++ le8 s))) = _
      simp [List.append_assoc]
    rw [e9, bs_append]; exact hown9)
  obtain ⟨A9, c9, hv9⟩ := own_form hown9
  subst hv9
  clear hown9 hgrow HO8 HY8 HB8
  go_wp2_with fail
  go_ret2
  rw [HR.out]
  obtain ⟨A', c', e', h1, -, h2⟩ := own_bytes HF.out
  cases e'
  refine ⟨A9, c9, rfl, h1, own_cap' HF.out, h2, HB9.out, fun x o e => ?_⟩
  subst e
  exact (own_row HF.out (g := x) (by simp [Value.ownBlock])).1
end Go.Proofs.Ytpohefpiidlnjaa.Hr
