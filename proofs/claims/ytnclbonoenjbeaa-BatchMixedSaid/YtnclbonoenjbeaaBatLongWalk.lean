/-
  The walk of BatchLong.
-/
import Derived.Test.YtnclbonoenjbeaaBatRef
import Derived.Test.YtnclbonoenjbeaaBatAwake
import Derived.Deep.DeepCutAuto
namespace Go.Proofs.Ytnclbonoenjbeaa.BatW
set_option linter.unusedVariables false
open Go.RowKit Go.Proofs Go.Proofs.Ytnclbonoenjbeaa Go.Proofs.Ytnclbonoenjbeaa.Wd Go.Proofs.Ytnclbonoenjbeaa.RecW
open Go.Proofs.Ytnclbonoenjbeaa.Bat (B cnt scan put wrong longB rowsLong long)

theorem made_zeros (n : Nat) : madeCells #[Value.int .u8 0] n = (bs (List.replicate n 0)).toArray := by
  apply Array.ext
  · simp [madeCells, bs]
  · intro i h1 h2
    simp [madeCells, bs, Nat.mod_one]
theorem make_bytes (n : Nat) (hn : n ≤ 100000) (W : World) : (Instr.makeSlice 24 (.int .i64 (n : Int)) (.int .i64 (n : Int))).run Try.prog W = .ok (.slice (some ⟨W.heap.size, 0, none⟩) n n) (W.alloc (.cells (bs (List.replicate n 0)).toArray 5)) := by
  obtain ⟨j0, hj0, hy0, hy1, hy2⟩ := info_parts infoU8
  have h := run_make (P := Try.prog) W 24 5 j0 (.int .u8 0) Try.underlying24 hj0 hy0 .i64 .i64 (n : Int) (n : Int) (by omega) (Int.le_refl _) (by rw [hy2]; omega) (by omega)
  rw [Int.toNat_natCast, hy1, Nat.mul_one] at h
  rw [h, ← made_zeros]; rfl
theorem kept_app {w w2 : World} {base : Nat} {vk vd : Value} {ls : B} {d : List UInt8} (hd : w.ownsRow base 5 1 vd d.length (bs d)) {n : Nat} {xs : List Value} (ho : w.ownsRow base 24 1 vk n xs) (hx : RowsAt w base xs ls) (hg : w.grownBy w2 vk.ownBlock)
    {v' : Value} {m : Nat} (hm : m = ls.length + 1) (hn : w2.ownsRow base 24 1 v' m (xs ++ [vd])) : Kept w2 base v' (ls ++ [d]) := by
  subst hm
  have j8 : KeepT 5 none w w2 := KeepT.grownOther hg (row_other ho (by decide))
  exact ⟨xs ++ [vd], by simpa using hn, (hx.keep j8).snoc (own_T hd j8 (fun _ _ => by simp))⟩
/-- Rows of noughts, as long. -/
def zr (b : B) : B := b.map fun d => List.replicate d.length 0
theorem zr_take {b : B} {k : Nat} (h : k < b.length) : zr (b.take (k + 1)) = zr (b.take k) ++ [List.replicate b[k].length 0] := by
  unfold zr; rw [List.take_succ_eq_append_getElem h, List.map_append]; rfl
theorem zr_length (b : B) : (zr b).length = b.length := by simp [zr]
theorem zr_rows (b : B) : rowsLong (zr b) = rowsLong b := by
  unfold zr rowsLong
  rw [List.map_map]
  congr 1
  exact List.map_congr_left fun d _ => by simp
theorem zr_any (b : B) : (zr b).any long = b.any long := by
  unfold zr
  rw [List.any_map]
  congr 1
  funext d
  simp [long]
theorem zr_wrong (b : B) : wrong (zr b) = wrong b := by unfold wrong; rw [zr_length, zr_any]
theorem zr_long (b : B) : longB (zr b) = longB b := by unfold longB; rw [zr_wrong, zr_rows]
theorem long_right {r : B} (h0 : r.length ≠ 0) (h1 : r.length ≤ 40) (h : bytesOf r ≤ 3000) : wrong r = 0 := by
  unfold wrong
  rw [if_neg (by omega), if_neg]
  intro ha
  obtain ⟨d, hd, hl⟩ := List.any_eq_true.1 ha
  unfold long at hl
  have := le_bytesOf hd
  have : 4096 < d.length := by simpa using hl
  omega
theorem long_more {r : B} (h : wrong r = 0) (h1 : r.length ≤ 40) {m : List UInt8} (hm : m.length ≤ 200) : wrong (r ++ [m]) = 0 ∧ longB (r ++ [m]) = longB r + 9 + m.length := by
  obtain ⟨a, b, c⟩ := Bat.wrong_zero h
  have hw : wrong (r ++ [m]) = 0 := by
    unfold wrong
    rw [if_neg (by simp; omega), if_neg]
    rw [List.any_append, c]
    simp [long]; omega
  refine ⟨hw, ?_⟩
  unfold longB
  rw [if_pos hw, if_pos h, Bat.rowsLong_snoc]
  omega
set_option maxRecDepth 100000 in
set_option maxHeartbeats 8000000 in
theorem long_walk (A0 A1 : Option Addr) (n0 c0 n1 c1 : Nat) (r : B) (b : List UInt8) (h0 : n0 = r.length) (h1 : n1 = b.length) (k0 : n0 ≤ c0) (k1 : n1 ≤ c1) (m0 : c0 ≤ maxLen) (m1 : c1 ≤ maxLen) (hfit : ∀ d ∈ r, d.length ≤ 140737488351232)
    (w : World) (hr : BRows w w.heap.size A0 r) (hb : Bytes w w.heap.size A1 b) :
    Calls Try.prog 7 #[.slice A0 n0 c0, .slice A1 n1 c1] w fun e w' => e = .returned (.bool true) ∧ Below w.heap.size w w' := by
  obtain ⟨i0, hi0, hz0, hz1, hz2⟩ := info_parts infoSl
  have HR : Hid (∀ W, Below w.heap.size w W → BRows W W.heap.size A0 r) := Lib.hid fun W hW => hr.grow hW
  have HBt : Hid (∀ W, Below w.heap.size w W → Bytes W W.heap.size A1 b) := Lib.hid fun W hW => Bytes.grow hb hW
  have H0 := Lib.hid h0
  have H1 := Lib.hid h1
  have HFIT := Lib.hid hfit
  have HSUM := Lib.hid (bytesof_any A0 n0 c0 r h0 (by omega) w hr)
  have HPUT := Lib.hid (bput_any A0 n0 c0 r h0 (by omega) w hr)
  clear h0 h1 hr hb hfit
  go_enter Try.func7, Try.ntmps7
  by_cases g : n0 = 0
  · have u0 : (n0 : Int) = 0 := by omega
    clear g HSUM HPUT
    go_wp2_with fail
    refine Calls.mono (awake_any w) ?_
    rintro e w1 ⟨rfl, hb⟩
    go_wp2_with fail
    go_ret
    exact ⟨rfl, hb⟩
  have u : ¬ (n0 : Int) = 0 := by omega
  have ub : ((n0 : Int) == 0) = false := by rw [beq_eq_false_iff_ne]; exact u
  by_cases g0 : 40 < n0
  · have u0 : (40 : Int) < (n0 : Int) := by omega
    clear g0 HSUM HPUT
    go_wp2_with fail
    refine Calls.mono (awake_any w) ?_
    rintro e w1 ⟨rfl, hb⟩
    go_wp2_with fail
    go_ret
    exact ⟨rfl, hb⟩
  have u0 : ¬ (40 : Int) < (n0 : Int) := by omega
  go_wp2_with fail
  refine Calls.mono HSUM.out ?_
  rintro e w' ⟨z, rfl, rfl, z1, z2, hz⟩
  have hz' := hz ⟨by have := H0.out; omega, HFIT.out⟩
  have HZ := Lib.hid hz'
  clear HSUM hz hz'
  by_cases gz : 3000 < z
  · clear HPUT
    go_wp2_with fail
    refine Calls.mono (awake_any w) ?_
    rintro e w1 ⟨rfl, hb⟩
    go_wp2_with fail
    go_ret
    exact ⟨rfl, hb⟩
  by_cases g1 : 200 < n1
  · have u1 : (200 : Int) < (n1 : Int) := by omega
    clear HPUT
    go_wp2_with fail
    refine Calls.mono (awake_any w) ?_
    rintro e w1 ⟨rfl, hb⟩
    go_wp2_with fail
    go_ret
    exact ⟨rfl, hb⟩
  have u1 : ¬ (200 : Int) < (n1 : Int) := by omega
  have HRT := Lib.hid (long_right (r := r) (by have := H0.out; omega) (by have := H0.out; omega) (by have := HZ.out; omega))
  have HMR := Lib.hid (long_more HRT.out (by have := H0.out; omega) (m := b) (by have := H1.out; omega))
  go_wp2_with fail
  clear gz u0 u1 u ub z1 z2 HZ
  refine Calls.mono HPUT.out ?_
  rintro e w1 ⟨P1, d1, rfl, hb1, e1, e2, ho1⟩
  rw [HRT.out, Bat.put_length]
  have HB1 := Lib.hid hb1
  have HLG := Lib.hid (blong_any A0 n0 c0 r H0.out (by omega) w1 (HR.out _ hb1))
  have hlb : longB r ≤ 200000 := by
    obtain ⟨_, _, h⟩ := Bat.wrong_zero HRT.out
    have := Bat.rowsLong_le h
    have := H0.out
    unfold longB; rw [if_pos HRT.out]; omega
  obtain ⟨p, hp⟩ : ∃ p, p = longB r := ⟨_, rfl⟩
  have HP := Lib.hid hp
  rw [← hp] at hlb HLG ⊢
  rw [HRT.out] at HLG
  clear HPUT hb1 ho1 hp
  go_wp2_with fail
  refine Calls.mono HLG.out ?_
  rintro e w' ⟨rfl, rfl⟩
  -- all rows, and one more
  obtain ⟨xs, hxr, hxx, hx1⟩ := (HR.out _ HB1.out).reads
  have HXL : Hid (n0 = xs.length) := Lib.hid (by rw [hxx.1]; exact H0.out)
  have hba : Below w1.heap.size w1 (w1.alloc (.cells #[] 24)) := (Below.refl _ w1).alloc (Nat.le_refl _) _
  have HXR : Hid (Row (w1.alloc (.cells #[] 24)) w1.heap.size A0 xs) := Lib.hid (hxr.below hba)
  have HXX := Lib.hid hxx
  have HX1 := Lib.hid hx1
  have HOE := Lib.hid (own_empty w1 24 (Nat.le_refl w1.heap.size))
  clear HLG hxr hxx hx1 hba
  go_wp2_with (at_builtin; refine wpList_append_row _ rfl (.tmp 46) (.tmp 47) _ rfl w1.heap.size 24 i0 _ 24 Try.underlying37 hi0 hz0 hz1 hz2 rfl _ 0 [] rfl (by exact HOE.out) w1.heap.size A0 n0 c0 xs rfl (by exact HXL.out) (by exact HXR.out) (by exact HX1.out) (by unfold maxLen; omega) (by omega) (by simp) ?_)
  intro v2 w2 hown2 hgrow _ _
  have HB2 : Hid (Below w1.heap.size w1 w2) := Lib.hid (((Below.refl _ w1).alloc (Nat.le_refl _) (.cells #[] 24)).grown hgrow (by simp) (fun g hg => by have := (own_row HOE.out hg).1; exact this))
  have hba : Below w2.heap.size w2 (w2.alloc (.cells #[.slice A1 n1 c1] 24)) := (Below.refl _ w2).alloc (Nat.le_refl _) _
  have HB3 := Lib.hid (HB2.out.trans (hba.mono HB2.out.size))
  have HO3 := Lib.hid (own_belowT hown2 hba)
  have HRW := Lib.hid (app1 (w := w2) (t := 24) (v := .slice A1 n1 c1) HB2.out.size)
  clear hown2 hgrow hba HXR HX1
  go_wp2_with (at_builtin; refine wpList_append_row _ rfl (.tmp 48) (.tmp 50) _ rfl w1.heap.size 24 i0 _ 24 Try.underlying37 hi0 hz0 hz1 hz2 rfl _ n0 xs rfl (by exact HO3.out) (w2.heap.size + 1) (some ⟨w2.heap.size, 0, none⟩) 1 1 [.slice A1 n1 c1] rfl rfl (by exact HRW.out) (by intro u hu; simp only [List.mem_singleton] at hu; subst hu; rfl) (by unfold maxLen; omega) (by omega) (by exact HB3.out.size) ?_)
  intro v4 w4 hown4 hgrow _ _
  have HB4 := Lib.hid (HB3.out.grown hgrow HB3.out.size (fun g hg => (own_row HO3.out hg).1))
  obtain ⟨A4, c4, rfl, hr4⟩ := own_slice hown4
  have hB04 := HB1.out.trans (HB4.out.mono HB1.out.size)
  have hread : Reads w4 w4.heap.size (xs ++ [.slice A1 n1 c1]) (r ++ [b]) :=
    (((HXX.out.below HB4.out).more HB4.out.size)).append (Reads.one ⟨A1, c1, by rw [H1.out], by rw [← H1.out]; exact k1, m1, HBt.out _ hB04⟩)
  have HB04 := Lib.hid hB04
  have HLM := blong_any A4 (n0 + 1) c4 (r ++ [b]) (by rw [List.length_append, ← H0.out]; rfl) (by unfold maxLen; omega) w4 (BRows.of_row hr4 hread)
  rw [HMR.out.1, HMR.out.2, ← HP.out, ← H1.out] at HLM
  have HLM := Lib.hid HLM
  clear hown4 hgrow hr4 hB04 hread HO3 HRW HB2 HB3 HB4 HXX HXL HOE
  go_wp2_with fail
  refine Calls.mono HLM.out ?_
  rintro e w' ⟨rfl, rfl⟩
  clear HLM
  go_wp2_with fail
  go_loopw [11, 57] (fun v i wr => ∃ k : Nat, k ≤ n0 ∧ i = .int .i64 k ∧ Hid (Kept wr w4.heap.size v (zr (r.take k))) ∧ Hid (Below w4.heap.size w4 wr)) (fun _ i _ => n0 - (intOf i).toNat)
  case atStart => exact ⟨0, Nat.zero_le _, rfl, Lib.hid (Kept.nil _ _), Lib.hid (Below.refl _ _)⟩
  case round =>
    obtain ⟨k, hk, rfl, HKP, HB⟩ := hrel
    by_cases hlt : k < n0
    · have hkl : k < r.length := by have := H0.out; omega
      have hB0r := HB04.out.trans (HB.out.mono HB04.out.size)
      obtain ⟨bb, off, v0, A', c', rfl, hbb, hc, rfl, q1, q2, q3⟩ := (HR.out _ hB0r).lt hkl
      have hdl : r[k].length ≤ 4096 := by obtain ⟨_, _, h⟩ := Bat.wrong_zero HRT.out; exact Bat.short_get h hkl
      have HZT := Lib.hid (zr_take hkl)
      obtain ⟨dl, hdl2⟩ : ∃ x, x = r[k].length := ⟨_, rfl⟩
      rw [← hdl2] at hdl HZT hc
      have i1 : (0 : Int) ≤ (k : Int) := by omega
      have i2 : (k : Int) < (n0 : Int) := by omega
      have hmk := make_bytes dl (by omega)
      obtain ⟨ys, hyo, hyr⟩ := HKP.out
      obtain ⟨Ak, ck, hvk, -, -, -⟩ := HKP.out.reads
      subst hvk
      have hzl : (zr (r.take k)).length = k := by rw [zr_length, List.length_take, Nat.min_eq_left (by omega)]
      rw [hzl] at hyo ⊢
      have hbase := HB.out.size
      have h1b : Below wr.heap.size wr (wr.alloc (.cells (bs (List.replicate dl 0)).toArray 5)) := (Below.refl _ wr).alloc (Nat.le_refl _) _
      have hz8 : (wr.alloc (.cells (bs (List.replicate dl 0)).toArray 5)).ownsRow w4.heap.size 5 1 (.slice (some ⟨wr.heap.size, 0, none⟩) dl dl) (List.replicate dl (0 : UInt8)).length (bs (List.replicate dl 0)) := by
        have := Blk.own (Blk.new_ wr 5 (bs (List.replicate dl 0)).toArray rfl) hbase dl (by simp [bs]) (by simp [bs, maxLen]; omega)
        have e : (bs (List.replicate dl (0 : UInt8))).toArray.toList.take dl = bs (List.replicate dl 0) := by simp [bs]
        have e1 : (bs (List.replicate dl (0 : UInt8))).toArray.size = dl := by simp [bs]
        rw [e1, e] at this
        rw [List.length_replicate]
        exact this
      have hs1 : (wr.alloc (.cells (bs (List.replicate dl 0)).toArray 5)).heap.size = wr.heap.size + 1 := by simp
      have h2b : Below (wr.alloc (.cells (bs (List.replicate dl 0)).toArray 5)).heap.size (wr.alloc (.cells (bs (List.replicate dl 0)).toArray 5)) ((wr.alloc (.cells (bs (List.replicate dl 0)).toArray 5)).alloc (.cells #[.slice (some ⟨wr.heap.size, 0, none⟩) dl dl] 24)) := (Below.refl _ _).alloc (Nat.le_refl _) _
      have h12 := h1b.trans (h2b.mono h1b.size)
      have HYO := Lib.hid (own_belowT hyo h12)
      have HYR := Lib.hid (hyr.keep (KeepT.below h12))
      have HZ8 := Lib.hid (own_belowT hz8 h2b)
      have HBb := Lib.hid (HB.out.trans (h12.mono hbase))
      have HRW : Hid (Row ((wr.alloc (.cells (bs (List.replicate dl 0)).toArray 5)).alloc (.cells #[.slice (some ⟨wr.heap.size, 0, none⟩) dl dl] 24)) (wr.heap.size + 2) (some ⟨wr.heap.size + 1, 0, none⟩) [.slice (some ⟨wr.heap.size, 0, none⟩) dl dl]) := Lib.hid (by
        have := app1 (w := wr.alloc (.cells (bs (List.replicate dl 0)).toArray 5)) (t := 24) (v := .slice (some ⟨wr.heap.size, 0, none⟩) dl dl) (Nat.le_refl _)
        rw [hs1] at this
        exact this)
      clear hyo hyr hz8 h1b h2b h12 hs1 hB0r q3 q1 q2 HKP hdl2 hzl
      go_wp2_with (at_builtin; refine wpList_append_row _ rfl (.tmp 61) (.tmp 65) _ rfl w4.heap.size 24 i0 _ 24 Try.underlying37 hi0 hz0 hz1 hz2 rfl _ k ys rfl (by exact HYO.out) (wr.heap.size + 2) (some ⟨wr.heap.size + 1, 0, none⟩) 1 1 [.slice (some ⟨wr.heap.size, 0, none⟩) dl dl] rfl rfl (by exact HRW.out) (by intro u hu; simp only [List.mem_singleton] at hu; subst hu; rfl) (by unfold maxLen; omega) (by omega) (by exact HBb.out.size) ?_)
      intro v5 w5 hown5 hgrow _ _
      have HB5 := Lib.hid (HBb.out.grown hgrow HBb.out.size (fun g hg => (own_row HYO.out hg).1))
      have HK5 : Hid (Kept w5 w4.heap.size v5 (zr (r.take (k + 1)))) := Lib.hid (by
        rw [HZT.out]
        exact kept_app HZ8.out HYO.out HYR.out hgrow (m := k + 1) (by rw [zr_length, List.length_take, Nat.min_eq_left (by omega)]) hown5)
      clear hown5 hgrow HYO HYR HZ8 HRW HBb HZT hmk hc
      go_wp2_with fail
      go_roundw
      case rel => exact ⟨k + 1, by omega, by go_num, HK5, HB5⟩
      case measure => simp [intOf]; omega
    · obtain rfl : k = n0 := by omega
      have hall : r.take k = r := List.take_of_length_le (by have := H0.out; omega)
      obtain ⟨Ak, ck, hvk, hk1, hk2, hkr⟩ := HKP.out.reads
      subst hvk
      rw [hall] at hk1 hkr ⊢
      have HLO := blong_any Ak (zr r).length ck (zr r) rfl (by unfold maxLen at *; omega) wr hkr
      rw [zr_long, zr_wrong, HRT.out, ← HP.out] at HLO
      have HLO := Lib.hid HLO
      obtain ⟨y, hy⟩ : ∃ y, y = (zr r).length := ⟨_, rfl⟩
      rw [← hy] at HLO ⊢
      have HBF := Lib.hid (HB04.out.trans (HB.out.mono HB04.out.size))
      clear hall hk1 hkr HKP hy
      go_wp2_with fail
      refine Calls.mono HLO.out ?_
      rintro e w' ⟨rfl, rfl⟩
      clear HLO
      go_wp2_with fail
      refine Calls.mono (awake_any wr) ?_
      rintro e w9 ⟨rfl, hb9⟩
      have HB9 := Lib.hid (HBF.out.trans (hb9.mono HBF.out.size))
      clear hb9
      go_wp2_with fail
      go_ret
      exact ⟨rfl, HB9.out⟩
end Go.Proofs.Ytnclbonoenjbeaa.BatW
