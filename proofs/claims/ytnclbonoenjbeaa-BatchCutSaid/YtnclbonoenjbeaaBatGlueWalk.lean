/-
  The walk of BatchCut.
-/
import Derived.Test.YtnclbonoenjbeaaBatGlue
namespace Go.Proofs.Ytnclbonoenjbeaa.BatW
set_option linter.unusedVariables false
open Go.RowKit Go.Proofs Go.Proofs.Ytnclbonoenjbeaa Go.Proofs.Ytnclbonoenjbeaa.Wd Go.Proofs.Ytnclbonoenjbeaa.RecW
open Go.Proofs.Ytnclbonoenjbeaa.Bat (B cnt scan put wrong longB rowsLong long)

theorem cutN_take (b : List UInt8) (j : Nat) (h : j ≤ parts b.length) : ((cutN b).take j).flatten = b.take (4096 * j) := by
  induction j with
  | zero => simp
  | succ j ih =>
    have hj : j < parts b.length := by omega
    rw [List.take_succ_eq_append_getElem (by rw [cutN_length]; exact hj), List.flatten_append, ih (by omega), cutN_get hj, show 4096 * (j + 1) = 4096 * j + 4096 by omega, List.take_add]
    simp
theorem cut_flat (b : List UInt8) : (cut b).flatten = b := by
  unfold cut
  split
  · have : b = [] := List.eq_nil_of_length_eq_zero (by assumption)
    subst this; rfl
  · have := cutN_take b (parts b.length) (Nat.le_refl _)
    rw [List.take_of_length_le (by rw [cutN_length]; exact Nat.le_refl _), List.take_of_length_le (by unfold parts; omega)] at this
    exact this
theorem cut_len (b : List UInt8) : (cut b).length = if 1 < parts b.length then parts b.length else 1 := by
  by_cases h : b.length = 0
  · have hp : parts b.length = 0 := by unfold parts; omega
    rw [if_neg (by omega)]
    unfold cut; rw [if_pos h]; rfl
  · have hp : 1 ≤ parts b.length := by unfold parts; omega
    rw [cut_length (by omega)]
    split <;> omega
theorem cut_get {b : List UInt8} {j : Nat} (h : j < (cut b).length) : (cut b)[j].length = if b.length = 0 then 0 else min 4096 (b.length - 4096 * j) := by
  by_cases h0 : b.length = 0
  · rw [if_pos h0]
    have e : cut b = [[]] := by unfold cut; rw [if_pos h0]
    have hj : j = 0 := by rw [e] at h; simpa using h
    subst hj
    simp [e]
  · rw [if_neg h0]
    have e : cut b = cutN b := by unfold cut; rw [if_neg h0]
    have hj : j < parts b.length := by rw [e, cutN_length] at h; exact h
    have : (cut b)[j] = (b.drop (4096 * j)).take 4096 := by
      rw [← cutN_get hj]
      simp only [e]
    rw [this]; simp
theorem cut_short (b : List UInt8) {j : Nat} (h : j < (cut b).length) : (cut b)[j].length ≤ 4096 ∧ (j + 1 < (cut b).length → (cut b)[j].length = 4096) := by
  have hl := cut_len b
  rw [cut_get h]
  split
  · rename_i h0
    refine ⟨by omega, fun hj => ?_⟩
    have hp : parts b.length = 0 := by unfold parts; omega
    rw [hl, if_neg (by omega)] at hj
    omega
  · refine ⟨by omega, fun hj => ?_⟩
    rw [hl] at hj
    split at hj
    · unfold parts at hj; omega
    · omega
theorem cut_right {b : List UInt8} (h : b.length ≤ 30000) : wrong (cut b) = 0 := by
  have hl := cut_len b
  unfold wrong
  rw [if_neg, if_neg]
  · intro ha
    obtain ⟨d, hd, hlg⟩ := List.any_eq_true.1 ha
    obtain ⟨j, hj, rfl⟩ := List.getElem_of_mem hd
    unfold long at hlg
    have := (cut_short b hj).1
    have : 4096 < (cut b)[j].length := by simpa using hlg
    omega
  · rw [hl]; split
    · rename_i hh; unfold parts at hh ⊢; omega
    · omega
theorem cut_bytes (b : List UInt8) : bytesOf (cut b) = b.length := by rw [← flat_len, cut_flat]
/-- What row j is. -/
theorem cut_row {b : List UInt8} {G : Nat} {xs : List Value} (h0 : b.length = 0 → xs = [.slice none 0 0]) (h1 : 0 < b.length → xs = chunks G b.length (parts b.length)) {j : Nat} (hj : j < (cut b).length) :
    ∃ (Ar : Option Addr) (m : Nat), xs[j]? = some (.slice Ar m m) ∧ (0 < m → Ar = some ⟨G, 4096 * j, none⟩ ∧ 0 < b.length ∧ 4096 * j + m ≤ b.length) := by
  by_cases h : b.length = 0
  · have hl : (cut b).length = 1 := by unfold cut; rw [if_pos h]; rfl
    have : j = 0 := by omega
    subst this
    exact ⟨none, 0, by rw [h0 h]; rfl, fun h => by omega⟩
  · rw [cut_length (by omega)] at hj
    refine ⟨some ⟨G, 4096 * j, none⟩, min 4096 (b.length - 4096 * j), ?_, fun hm => ⟨rfl, by omega, by omega⟩⟩
    rw [h1 (by omega)]
    unfold chunks
    simp [hj, chunkV]
theorem grown_set {w w' : World} {G : Nat} (h : w.grownBy w' (some G)) (i : Nat) (u : Value) : w.grownBy (w'.setCell ⟨G, i, none⟩ u) (some G) :=
  ⟨h.os, h.tape, h.output, by simpa using h.size, fun k hk hne => (heap_setCell_other w' ⟨G, i, none⟩ k u (fun e => hne (by rw [e]))).trans (h.block k hk hne)⟩
/-- The bytes of block G, whichever they are. -/
def Any8 (w : World) (G n : Nat) : Prop := ∃ cur, Blk w G 5 cur ∧ ∀ i, i < n → ∃ z : Int, cur[i]? = some (.int .u8 z)
theorem Any8.set_ {w : World} {G n : Nat} (h : Any8 w G n) (p : Nat) (z : Int) : Any8 (w.setCell ⟨G, p, none⟩ (.int .u8 z)) G n := by
  obtain ⟨cur, hb, hc⟩ := h
  refine ⟨_, hb.set_ p _, fun i hi => ?_⟩
  by_cases e : p = i
  · subst e
    obtain ⟨y, hy⟩ := hc p hi
    exact ⟨z, Array.getElem?_setIfInBounds_self_of_lt (Array.getElem?_eq_some_iff.1 hy).1⟩
  · obtain ⟨y, hy⟩ := hc i hi
    exact ⟨y, by rw [Array.getElem?_setIfInBounds_ne e]; exact hy⟩
/-- What lies while a row of bytes is written over. -/
def CutInv (wk : World) (G n : Nat) (ro : Option Nat) (W : World) : Prop := wk.grownBy W ro ∧ (0 < n → ro = some G ∧ Any8 W G n)
theorem CutInv.set_ {wk W : World} {G n : Nat} {ro : Option Nat} (h : CutInv wk G n ro W) (h0 : 0 < n) (p : Nat) (z : Int) : CutInv wk G n ro (W.setCell ⟨G, p, none⟩ (.int .u8 z)) := by
  obtain ⟨h1, h2⟩ := h
  obtain ⟨rfl, h3⟩ := h2 h0
  exact ⟨grown_set h1 p _, fun _ => ⟨rfl, h3.set_ p z⟩⟩
theorem Any8.at_ {W : World} {G n : Nat} (h : Any8 W G n) {p : Nat} (hp : p < n) : ∃ z : Int, W.cell? ⟨G, p, none⟩ = some (.int .u8 z) ∧ W.frozen? ⟨G, p, none⟩ = false := by
  obtain ⟨cur, hb, hc⟩ := h
  obtain ⟨z, hz⟩ := hc p hp
  exact ⟨z, (hb.cell p).trans hz, hb.frozen p⟩
/-- Each row's cell, whatever the bytes are. -/
theorem cut_cells {wk : World} {base y c1 G n' : Nat} {A1 : Option Addr} {xs : List Value} {b : List UInt8} {ro : Option Nat} (ho : wk.ownsRow base 24 1 (.slice A1 y c1) n' xs) (hn : n' = y) (hy : y = (cut b).length)
    (h0 : b.length = 0 → xs = [.slice none 0 0]) (h1 : 0 < b.length → xs = chunks G b.length (parts b.length)) (hr : ∀ g, ro = some g → ∃ cs, Blk wk g 5 cs) (hy1 : 1 ≤ y) :
    ∃ R off, A1 = some ⟨R, off, none⟩ ∧ ∀ W, wk.grownBy W ro → ∀ j, j < y → ∃ (Ar : Option Addr) (m : Nat), W.cell? ⟨R, off + j, none⟩ = some (.slice Ar m m) ∧ (0 < m → Ar = some ⟨G, 4096 * j, none⟩ ∧ 0 < b.length ∧ 4096 * j + m ≤ b.length) := by
  subst hn
  obtain ⟨R, cur, hR⟩ := own_blk0 ho
  obtain ⟨rfl, -, hbl, hx⟩ := hR (by omega)
  refine ⟨R, 0, rfl, fun W hW j hj => ?_⟩
  obtain ⟨Ar, m, hm, hA⟩ := cut_row (G := G) h0 h1 (j := j) (by omega)
  refine ⟨Ar, m, ?_, hA⟩
  have hb2 : Blk W R 24 cur := hbl.grown hW (fun e => by
    obtain ⟨cs, hcs⟩ := hr R e.symm
    exact hbl.ne_ hcs (by decide) rfl)
  rw [Nat.zero_add]
  refine (hb2.cell j).trans ?_
  rw [← hx, List.getElem?_take_of_lt hj] at hm
  simpa using hm
set_option maxRecDepth 100000 in
set_option maxHeartbeats 8000000 in
theorem cutlaw_walk (A0 : Option Addr) (n c0 : Nat) (b : List UInt8) (h0 : n = b.length) (k0 : n ≤ c0) (m0 : c0 ≤ maxLen) (w : World) (hb : Bytes w w.heap.size A0 b) :
    Calls Try.prog 8 #[.slice A0 n c0] w fun e w' => e = .returned (.bool true) ∧ Below w.heap.size w w' := by
  have HBt : Hid (∀ W, Below w.heap.size w W → Bytes W W.heap.size A0 b) := Lib.hid fun W hW => Bytes.grow hb hW
  have H0 := Lib.hid h0
  go_enter Try.func8, Try.ntmps8
  by_cases g0 : 30000 < n
  · have u0 : (30000 : Int) < (n : Int) := by omega
    clear g0 h0 hb
    go_wp2_with fail
    refine Calls.mono (awake_any w) ?_
    rintro e w1 ⟨rfl, hb⟩
    go_wp2_with fail
    go_ret
    exact ⟨rfl, hb⟩
  have u0 : ¬ (30000 : Int) < (n : Int) := by omega
  have HCU := Lib.hid (cut_any A0 c0 b n h0 k0 (by omega) w hb)
  have HWR := Lib.hid (cut_right (b := b) (by omega))
  clear h0 hb
  go_wp2_with fail
  clear u0
  refine Calls.mono HCU.out ?_
  rintro e w1 hcut
  obtain ⟨A1, c1, he, hb1, e1, e2, hr1⟩ := hcut.rows
  obtain ⟨v, xs, he2, -, ho, hx0, hx1⟩ := hcut
  rw [he] at he2
  cases he2
  subst he
  have hxn := Lib.hid hx0
  obtain ⟨ro, G, HRO, HX1⟩ : ∃ (ro : Option Nat) (G : Nat), Hid ((∀ g, ro = some g → w.heap.size ≤ g ∧ g < w1.heap.size ∧ ∃ cs, Blk w1 g 5 cs) ∧ (0 < b.length → ro = some G ∧ Any8 w1 G b.length)) ∧ Hid (0 < b.length → xs = chunks G b.length (parts b.length)) := by
    by_cases hz : 0 < b.length
    · obtain ⟨G, cur, hG, hbl, hcur, hxx⟩ := hx1 hz
      refine ⟨some G, G, Lib.hid ⟨(fun g hg => by cases hg; exact ⟨hG, hbl.lt, _, hbl⟩), fun _ => ⟨rfl, cur, hbl, fun i hi => ?_⟩⟩, Lib.hid fun _ => hxx⟩
      have h1 : (cur.toList.take b.length)[i]? = (bs b)[i]? := by rw [hcur]
      rw [List.getElem?_take_of_lt hi] at h1
      refine ⟨((b[i]'hi).toNat : Nat), ?_⟩
      have h2 : cur[i]? = (bs b)[i]? := by rw [← h1]; simp
      rw [h2, List.getElem?_eq_getElem (by rw [bs_length]; exact hi)]
      simp [bs]
    · exact ⟨none, 0, Lib.hid ⟨(fun g hg => by cases hg), fun h => absurd h hz⟩, Lib.hid fun h => absurd h hz⟩
  have HOWN := Lib.hid ho
  have HB1 := Lib.hid hb1
  have HR1 := Lib.hid hr1
  clear HCU hb1 hr1 ho hx0 hx1
  obtain ⟨y, hy⟩ : ∃ y, y = (cut b).length := ⟨_, rfl⟩
  have HY := Lib.hid hy
  have hyb : 1 ≤ y ∧ y ≤ 30000 := by
    rw [hy, cut_len]
    have := H0.out
    split
    · rename_i hh; unfold parts at hh ⊢; omega
    · omega
  rw [← hy] at e1 ⊢
  have HGL := Lib.hid (glue_any A1 y c1 (cut b) hy (by omega) (by rw [cut_bytes, ← H0.out]; omega) w1 HR1.out)
  have HFL := Lib.hid (cut_flat b)
  rw [HFL.out, ] at HGL
  clear hy
  go_wp2_with fail
  refine Calls.mono HGL.out ?_
  rintro e w2 ⟨A2, c2, rfl, hb2, f1, f2, ho2⟩
  have HB2 := Lib.hid hb2
  have hB02 := HB1.out.trans (hb2.mono HB1.out.size)
  have HSM := same_any A2 A0 c2 c0 b b b.length n rfl H0.out w2 (own_rd ho2) (HBt.out _ hB02)
  rw [show (b == b) = true from beq_self_eq_true _, ← H0.out] at HSM
  rw [← H0.out]
  have HSM := Lib.hid HSM
  have hyq : Hid (y = if 1 < (n + 4095) / 4096 then (n + 4095) / 4096 else 1) := Lib.hid (by rw [HY.out, cut_len, ← H0.out]; rfl)
  obtain ⟨pn, hpn⟩ : ∃ x, x = (n + 4095) / 4096 := ⟨_, rfl⟩
  rw [← hpn] at hyq
  have d1 : ((n : Int) + 4096 - 1) / 4096 = (pn : Int) := by rw [hpn]; omega
  have D1 := Lib.hid d1
  have D2 : Hid (((n : Int) + 4095) / 4096 = (pn : Int)) := Lib.hid (by rw [hpn]; omega)
  have D3 : Hid (((n : Int) + 4096 - 1).tdiv 4096 = (pn : Int)) := Lib.hid (by rw [Int.tdiv_eq_ediv_of_nonneg (by omega), hpn]; omega)
  clear HGL hb2 ho2 hB02 f1 f2 d1 hpn
  go_wp2_with fail
  refine Calls.mono HSM.out ?_
  rintro e w' ⟨rfl, rfl⟩
  clear HSM
  have HRC := Lib.hid (HR1.out.grow HB2.out)
  have HPUT := Lib.hid (bput_any A1 y c1 (cut b) HY.out (by omega) w2 HRC.out)
  have HSCN : Hid (scan (put (cut b)) = ([cut b], (put (cut b)).length, 0)) := Lib.hid (by
    have := Bat.scan_put HWR.out []
    rw [List.append_nil, Bat.scan_nil] at this
    simpa using this)
  have hpl : (put (cut b)).length ≤ 40000000 := by
    obtain ⟨_, _, hq⟩ := Bat.wrong_zero HWR.out
    have := Bat.rowsLong_le hq
    rw [Bat.put_length]; unfold longB; rw [if_pos HWR.out]
    have := HY.out
    have : (cut b).length ≤ 1024 := by assumption
    omega
  have HCS : (pn = 1 ∨ pn = 0) ∧ y = 1 ∨ 1 < pn ∧ y = pn := by
    have hyp := hyq.out
    split at hyp <;> omega
  have HF : ∃ (P : Prop), P := ⟨True, trivial⟩
  obtain ⟨mx, HMX, HPN⟩ : ∃ mx : Bool, Hid (mx = true → ¬ (1 : Int) < (pn : Int) ∧ ((y : Int) != 1) = false) ∧ Hid (mx = false → (1 : Int) < (pn : Int) ∧ y = pn) := by
    rcases HCS with ⟨hp, hyp⟩ | ⟨hp, hyp⟩
    · exact ⟨true, Lib.hid fun _ => ⟨by omega, bne_eq_false_iff_eq.2 (by omega)⟩, Lib.hid (by intro h; cases h)⟩
    · exact ⟨false, Lib.hid (by intro h; cases h), Lib.hid fun _ => ⟨by omega, hyp⟩⟩
  cases mx
  all_goals
    first | (obtain ⟨v1, v3⟩ := HPN.out rfl; subst v3; have v2 := bne_self_eq_false (y : Int)) | obtain ⟨v1, v2⟩ := HMX.out rfl
    clear HMX HPN HCS
    have dd1 := D1.out
    have dd2 := D2.out
    have dd3 := D3.out
    go_wp2_with fail
    clear dd1 dd2 dd3 D1 D2 D3 hyq v1 v2 HF
    go_loop [39] (fun i => ∃ j : Nat, j ≤ y ∧ i = .int .i64 j) (fun i => y - (intOf i).toNat)
    case atStart => exact ⟨0, Nat.zero_le _, rfl⟩
    case round =>
      obtain ⟨j, hj, rfl⟩ := hrel
      by_cases hlt : j < y
      · have hjl : j < (cut b).length := by rw [← HY.out]; exact hlt
        obtain ⟨bb, off, v0, A', c', e3, hbb, hc, rfl, q1, q2, q3⟩ := HRC.out.lt hjl
        have hs := cut_short b hjl
        rw [← HY.out] at hs
        obtain ⟨dl, hdl⟩ : ∃ x, x = (cut b)[j].length := ⟨_, rfl⟩
        rw [← hdl] at hs hc
        subst e3
        have u1 : ¬ (4096 : Int) < (dl : Int) := by omega
        have i1 : (0 : Int) ≤ (j : Int) := by omega
        have i2 : (j : Int) < (y : Int) := by omega
        clear q1 q2 q3 hdl hjl
        by_cases hl : j + 1 < y
        · have hd := hs.2 hl
          have u2 : (j : Int) < (y : Int) - 1 := by omega
          have u3 : ((dl : Int) != 4096) = false := by rw [bne_eq_false_iff_eq]; omega
          clear hs hd hl
          go_wp2_with fail
          go_round
          case rel => exact ⟨j + 1, by omega, by go_num⟩
          case measure => simp [intOf]; omega
        · have u2 : ¬ (j : Int) < (y : Int) - 1 := by omega
          clear hs hl
          go_wp2_with fail
          go_round
          case rel => exact ⟨j + 1, by omega, by go_num⟩
          case measure => simp [intOf]; omega
      · have u1 : ¬ (j : Int) < (y : Int) := by omega
        clear hlt hj
        go_wp2_with fail
        clear u1
        refine Calls.mono HPUT.out ?_
        rintro e w3 ⟨A3, c3, rfl, hb3, f3, f4, ho3⟩
        rw [HWR.out]
        have HB3 := Lib.hid (HB2.out.trans (hb3.mono HB2.out.size))
        have HSC := Lib.hid (bscan_any A3 c3 (put (cut b)) (put (cut b)).length rfl f3 (by omega) w3 (own_rd ho3))
        obtain ⟨pl, hpl2⟩ : ∃ x, x = (put (cut b)).length := ⟨_, rfl⟩
        rw [← hpl2] at HSC HSCN hpl f3 ⊢
        clear HPUT hb3 ho3 hpl2
        go_wp2_with fail
        refine Calls.mono HSC.out ?_
        rintro e w4 ⟨A4, c4, rfl, hb4, f5, f6, hr4⟩
        rw [HSCN.out] at f5 hr4 ⊢
        dsimp only at f5 hr4 ⊢
        simp only [List.length_cons, List.length_nil, Nat.zero_add] at f5 ⊢
        have HB4 := Lib.hid (HB3.out.trans (hb4.mono HB3.out.size))
        obtain ⟨bb, off, v4, e4, hbb, hc4, A5, c5, hv5, f7, f8, hr5⟩ := hr4 0 (by simp)
        subst e4
        subst hv5
        simp only [List.getElem_cons_zero, Nat.add_zero] at hc4 f7 hr5
        rw [← HY.out] at hc4
        have HGL := glue_any A5 y c5 (cut b) HY.out (by omega) (by rw [cut_bytes, ← H0.out]; omega) w4 hr5
        rw [HFL.out] at HGL
        have HGL := Lib.hid HGL
        clear HSC hb4 hr4 hr5 HSCN
        go_wp2_with fail
        refine Calls.mono HGL.out ?_
        rintro e w5 ⟨A6, c6, rfl, hb5, f9, f10, ho5⟩
        have HB5 := Lib.hid (HB4.out.trans (hb5.mono HB4.out.size))
        have hB05 := HB1.out.trans (HB5.out.mono HB1.out.size)
        have HSM := same_any A6 A0 c6 c0 b b b.length n rfl H0.out w5 (own_rd ho5) (HBt.out _ hB05)
        rw [show (b == b) = true from beq_self_eq_true _, ← H0.out] at HSM
        rw [← H0.out]
        have HSM := Lib.hid HSM
        have HAN := Lib.hid (anew_any A0 c0 b n H0.out (by rw [← H0.out]; omega) w5 (HBt.out _ hB05))
        have HB05 := Lib.hid hB05
        clear HGL hb5 ho5 f9 f10 hB05 hc4
        go_wp2_with fail
        refine Calls.mono HSM.out ?_
        rintro e w' ⟨rfl, rfl⟩
        clear HSM
        go_wp2_with fail
        refine Calls.mono HAN.out ?_
        rintro e wk ⟨vk, rfl, hok, hbk⟩
        have HBk := Lib.hid (HB5.out.trans (hbk.mono HB5.out.size))
        have HB0k := Lib.hid (HB05.out.trans (hbk.mono HB05.out.size))
        obtain ⟨Ak, ck, rfl⟩ := own_form hok
        have HOK := Lib.hid hok
        have HOWk := Lib.hid (own_belowT HOWN.out HBk.out)
        rw [← HY.out] at HOWk
        have HRO' : Hid (∀ g, ro = some g → w.heap.size ≤ g ∧ g < w5.heap.size ∧ ∃ cs, Blk wk g 5 cs) := Lib.hid fun g hg => by
          obtain ⟨q1, q2, cs, q3⟩ := HRO.out.1 g hg
          exact ⟨q1, by have := HB5.out.size; omega, cs, q3.below HBk.out q2⟩
        have hHA : 0 < b.length → ro = some G ∧ Any8 wk G b.length := fun hz => by
          obtain ⟨q1, q2⟩ := HRO.out.2 hz
          obtain ⟨cur, hbl, hcc⟩ := q2
          exact ⟨q1, cur, hbl.below HBk.out hbl.lt, hcc⟩
        have HINV : Hid (CutInv wk G b.length ro wk) := Lib.hid ⟨World.grownBy.refl _ _, hHA⟩
        obtain ⟨R, off, rfl, hcells⟩ := cut_cells HOWk.out rfl HY.out hxn.out HX1.out (fun g hg => (HRO'.out g hg).2.2) hyb.1
        have HCELL := Lib.hid hcells
        clear HAN hbk hok hHA hcells
        go_wp2_with fail
        go_loopw [101] (fun i W => ∃ j : Nat, j ≤ y ∧ i = .int .i64 j ∧ Hid (CutInv wk G b.length ro W)) (fun i _ => y - (intOf i).toNat)
        case atStart => exact ⟨0, Nat.zero_le _, rfl, HINV⟩
        case round =>
          clear HINV
          obtain ⟨j, hj, rfl, HI⟩ := hrel
          by_cases hlt : j < y
          · obtain ⟨Ar, m, hc, hA⟩ := HCELL.out _ HI.out.1 j hlt
            have HA := Lib.hid hA
            have HJ := Lib.hid hlt
            have i1 : (0 : Int) ≤ (j : Int) := by omega
            have i2 : (j : Int) < (y : Int) := by omega
            clear hA
            go_wp2_with fail
            go_loopw [107] (fun i W => ∃ k : Nat, k ≤ m ∧ i = .int .i64 k ∧ Hid (CutInv wk G b.length ro W)) (fun i _ => m - (intOf i).toNat)
            case atStart => exact ⟨0, Nat.zero_le _, rfl, HI⟩
            case round =>
              clear HI hc
              obtain ⟨k, hk, rfl, HI⟩ := hrel
              by_cases hlt2 : k < m
              · obtain ⟨rfl, hz, hmb⟩ := HA.out (by omega)
                obtain ⟨oj, hoj⟩ : ∃ oj, oj = 4096 * j := ⟨_, rfl⟩
                rw [← hoj] at hmb ⊢
                obtain ⟨z, hc, hfr⟩ := (HI.out.2 hz).2.at_ (p := oj + k) (by omega)
                have hm3 : m ≤ 30000 := by have := H0.out; omega
                have i3 : (0 : Int) ≤ (k : Int) := by omega
                have i4 : (k : Int) < (m : Int) := by omega
                have HI2 := Lib.hid (fun z' => HI.out.set_ hz (oj + k) z')
                clear HI hmb hoj HA
                go_wp2_with fail
                go_roundw
                case rel => exact ⟨k + 1, by omega, by go_num, Lib.hid (HI2.out _)⟩
                case measure => simp [intOf]; omega
              · have u1 : ¬ (k : Int) < (m : Int) := by omega
                clear hlt2
                go_wp2_with fail
                go_roundw
                case rel => exact ⟨j + 1, HJ.out, by go_num, HI⟩
                case measure => simp [intOf]; have := HJ.out; omega
          · have u1 : ¬ (j : Int) < (y : Int) := by omega
            have HB : Hid (Below w.heap.size w wr) := Lib.hid (HB0k.out.grown HI.out.1 HB0k.out.size (fun g hg => (HRO'.out g hg).1))
            have HKo : Hid (wr.ownsRow w5.heap.size 5 1 (.slice Ak n ck) n (bs b)) := Lib.hid (own_keep HOK.out (fun g hg => HI.out.1.block g (by obtain ⟨_, cs, hbl⟩ := own_row HOK.out hg; exact hbl.lt) (fun e => by have q1 := (own_row HOK.out hg).1; have q2 := (HRO'.out g e.symm).2.1; omega)))
            have HBA : Hid (Bytes wr wr.heap.size A0 b) := Lib.hid (HBt.out _ HB.out)
            have HSM := same_any Ak A0 ck c0 b b n n H0.out H0.out wr (own_rd HKo.out) HBA.out
            rw [show (b == b) = true from beq_self_eq_true _] at HSM
            have HSM := Lib.hid HSM
            clear hlt HI
            go_wp2_with fail
            refine Calls.mono HSM.out ?_
            rintro e w' ⟨rfl, rfl⟩
            clear HSM
            go_wp2_with fail
            refine Calls.mono (awake_any wr) ?_
            rintro e wz ⟨rfl, hbz⟩
            have HZ := Lib.hid (HB.out.trans (hbz.mono HB.out.size))
            clear hbz
            go_wp2_with fail
            go_ret
            exact ⟨rfl, HZ.out⟩
end Go.Proofs.Ytnclbonoenjbeaa.BatW
