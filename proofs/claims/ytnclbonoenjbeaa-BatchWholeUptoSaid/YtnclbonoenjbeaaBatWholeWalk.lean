/-
  The walk of BatchWhole.
-/
import Derived.Test.YtnclbonoenjbeaaBatBehindWalk
namespace Go.Proofs.Ytnclbonoenjbeaa.BatW
set_option linter.unusedVariables false
open Go.RowKit Go.Proofs Go.Proofs.Ytnclbonoenjbeaa Go.Proofs.Ytnclbonoenjbeaa.Wd Go.Proofs.Ytnclbonoenjbeaa.RecW
open Go.Proofs.Ytnclbonoenjbeaa.Bat (B cnt scan put wrong longB rowsLong long writ allRight)

/-- Where the first j batches end. -/
def E (l : List B) (j : Nat) : Nat := (writ (l.take j)).length
theorem E_mono (l : List B) {i j : Nat} (h : i ≤ j) : E l i ≤ E l j := by
  unfold E
  have : l.take j = l.take i ++ (l.take j).drop i := by
    have := List.take_append_drop i (l.take j)
    rw [List.take_take, Nat.min_eq_left h] at this
    exact this.symm
  rw [this, Bat.writ_append, List.length_append]; omega
theorem E_all (l : List B) : E l l.length = (writ l).length := by unfold E; rw [List.take_length]
/-- Of the first j, the first m lie whole ahead of k, and no more. -/
def Whole (l : List B) (k j m : Nat) : Prop := m ≤ j ∧ E l m ≤ k ∧ (m < j → k < E l (m + 1))
theorem Whole.start (l : List B) (k : Nat) : Whole l k 0 0 := ⟨Nat.le_refl _, by simp [E, writ], fun h => by omega⟩
theorem Whole.yes {l : List B} {k j m : Nat} (h : Whole l k j m) (he : E l (j + 1) ≤ k) : Whole l k (j + 1) (m + 1) ∧ m = j := by
  obtain ⟨h1, h2, h3⟩ := h
  have : m = j := by
    rcases Nat.lt_or_ge m j with hlt | hge
    · have := h3 hlt
      have := E_mono l (show m + 1 ≤ j + 1 by omega)
      omega
    · omega
  subst this
  exact ⟨⟨Nat.le_refl _, he, fun h => by omega⟩, rfl⟩
theorem Whole.no {l : List B} {k j m : Nat} (h : Whole l k j m) (he : ¬ E l (j + 1) ≤ k) : Whole l k (j + 1) m := by
  obtain ⟨h1, h2, h3⟩ := h
  refine ⟨by omega, h2, fun _ => ?_⟩
  rcases Nat.lt_or_ge m j with hlt | hge
  · exact h3 hlt
  · have : m = j := by omega
    subst this; omega
theorem Whole.scan {l : List B} {k m : Nat} (hA : allRight l = true) (h : Whole l k l.length m) (hk : k ≤ (writ l).length) : Bat.scan ((writ l).take k) = (l.take m, E l m, if E l m = k then 0 else 32) := by
  obtain ⟨h1, h2, h3⟩ := h
  have hAt : allRight (l.take m) = true := by
    unfold allRight at *
    rw [List.all_eq_true] at *
    exact fun b hb => hA b (List.mem_of_mem_take hb)
  rcases Nat.lt_or_ge m l.length with hlt | hge
  · have h4 := h3 hlt
    have hw : wrong l[m] = 0 := by
      unfold allRight at hA
      rw [List.all_eq_true] at hA
      simpa using hA l[m] (List.getElem_mem hlt)
    have hsp : writ l = writ (l.take m) ++ (put l[m] ++ writ (l.drop (m + 1))) := by
      have e : l = l.take m ++ (l[m] :: l.drop (m + 1)) := by rw [← List.drop_eq_getElem_cons hlt, List.take_append_drop]
      have e2 : writ (l.take m ++ (l[m] :: l.drop (m + 1))) = writ (l.take m) ++ (put l[m] ++ writ (l.drop (m + 1))) := by rw [Bat.writ_append]; congr 1
      rw [← e2, ← e]
    have hE1 : E l (m + 1) = E l m + (put l[m]).length := by unfold E; rw [writ_take hlt, List.length_append]
    have hEm : (writ (l.take m)).length = E l m := rfl
    have htk : (writ l).take k = writ (l.take m) ++ (put l[m]).take (k - E l m) := by
      rw [hsp, List.take_append, List.take_of_length_le (by rw [hEm]; exact h2), hEm, List.take_append_of_le_length (by omega)]
    rw [htk, Bat.scan_writ hAt, Bat.scan_cut hw (by omega), hEm]
    dsimp only
    rw [List.append_nil, Nat.add_zero]
    congr 2
    by_cases he : E l m = k
    · rw [if_pos (by omega), if_pos he]
    · rw [if_neg (by omega), if_neg he]
  · have : m = l.length := by omega
    subst this
    have hkE : E l l.length = k := by rw [E_all] at h2 ⊢; omega
    rw [hkE, if_pos rfl]
    rw [E_all] at hkE
    rw [List.take_of_length_le (by omega), List.take_length]
    have := Bat.scan_writ hA []
    rw [List.append_nil, Bat.scan_nil, List.append_nil] at this
    rw [this]
    simp [hkE]
theorem endsV_get (l : List B) {n j : Nat} (h : j < n) : (endsV l n)[j]'(by rw [endsV_length]; exact h) = .int .i64 (E l (j + 1) : Nat) := by simp [endsV, E]
set_option maxRecDepth 100000 in
set_option maxHeartbeats 8000000 in
theorem whole_walk (A0 : Option Addr) (n0 c0 t : Nat) (ht : t < 65536) (l : List B) (h0 : n0 = l.length) (k0 : n0 ≤ c0) (m0 : c0 ≤ maxLen) (hmass : mass3 l ≤ 1048576)
    (w : World) (hl : BRows3 w w.heap.size A0 l) :
    Calls Try.prog 3 #[.slice A0 n0 c0, .int .u16 t] w fun e w' => e = .returned (.bool true) ∧ Below w.heap.size w w' := by
  have HL : Hid (∀ W, Below w.heap.size w W → BRows3 W W.heap.size A0 l) := Lib.hid fun W hW => hl.grow hW
  have H0 := Lib.hid h0
  have hwm : (writ l).length ≤ 11534336 := by have := writ_mass l; omega
  have hn0 : n0 ≤ 1048576 := by have := length_mass3 l; omega
  have HWR := Lib.hid (written_any A0 n0 c0 l h0 k0 hmass w hl)
  clear h0 hl hmass
  go_enter Try.func3, Try.ntmps3
  go_wp2_with fail
  refine Calls.mono HWR.out ?_
  rintro e w1 ⟨hb1, hno, hyes⟩
  have HB1 := Lib.hid hb1
  clear HWR hb1
  cases hA : allRight l
  · have he := hno hA
    subst he
    clear hno hyes hA
    go_wp2_with fail
    refine Calls.mono (awake_any w1) ?_
    rintro e w2 ⟨rfl, hb⟩
    have HB := Lib.hid (HB1.out.trans (hb.mono HB1.out.size))
    clear hb
    go_wp2_with fail
    go_ret
    exact ⟨rfl, HB.out⟩
  obtain ⟨Ab, cb, Ae, ce, he, q1, q2, hrb, q3, hre⟩ := hyes hA
  subst he
  have HRB := Lib.hid hrb
  have HRE := Lib.hid hre
  have HA := Lib.hid hA
  have HFEW := Lib.hid (few_any A0 n0 c0 l H0.out k0 m0 w1 (HL.out _ HB1.out))
  obtain ⟨L, hL⟩ : ∃ L, L = (writ l).length := ⟨_, rfl⟩
  have HLL := Lib.hid hL
  rw [← hL] at q1 hwm ⊢
  rw [← H0.out] at q3 ⊢
  obtain ⟨k, hk⟩ : ∃ k, k = t % (L + 1) := ⟨_, rfl⟩
  have hkL : k ≤ L := by have := Nat.mod_lt t (show 0 < L + 1 by omega); omega
  have X1 : Hid ((t : Int).tmod ((L : Int) + 1) = (k : Int)) := Lib.hid (by rw [Int.tmod_eq_emod_of_nonneg (Int.natCast_nonneg _), hk]; exact (Int.natCast_emod t (L + 1)).symm)
  have X2 : Hid ((t : Int) % ((L : Int) + 1) = (k : Int)) := Lib.hid (by rw [hk]; exact (Int.natCast_emod t (L + 1)).symm)
  clear hno hyes hA hrb hre hL hk
  go_wp2_with fail
  refine Calls.mono HFEW.out ?_
  rintro e w' ⟨q, rfl, rfl⟩
  clear HFEW
  cases q
  · go_wp2_with fail
    refine Calls.mono (awake_any w1) ?_
    rintro e w2 ⟨rfl, hb⟩
    have HB := Lib.hid (HB1.out.trans (hb.mono HB1.out.size))
    clear hb
    go_wp2_with fail
    go_ret
    exact ⟨rfl, HB.out⟩
  have x1 := X1.out
  have x2 := X2.out
  go_wp2_with fail
  clear x1 x2 X1 X2
  go_loop [9, 10, 38] (fun a b i => ∃ j m em : Nat, j ≤ n0 ∧ i = .int .i64 j ∧ a = .int .i64 m ∧ b = .int .i64 em ∧ m ≤ j ∧ Hid (Whole l k j m) ∧ Hid (em = E l m)) (fun _ _ i => n0 - (intOf i).toNat)
  case atStart => exact ⟨0, 0, 0, Nat.zero_le _, rfl, rfl, rfl, Nat.le_refl _, Lib.hid (Whole.start _ _), Lib.hid (by simp [E, writ])⟩
  case round =>
    obtain ⟨j, m, em, hj, rfl, rfl, rfl, hmj, HWH, HEM⟩ := hrel
    by_cases hlt : j < n0
    · obtain ⟨bb, off, rfl, hbb, hc⟩ := HRE.out j (by rw [endsV_length]; have := H0.out; omega)
      rw [endsV_get l (by have := H0.out; omega)] at hc
      obtain ⟨x, hx⟩ : ∃ x, x = E l (j + 1) := ⟨_, rfl⟩
      have HX := Lib.hid hx
      rw [← hx] at hc
      have i1 : (0 : Int) ≤ (j : Int) := by omega
      have i2 : (j : Int) < (n0 : Int) := by omega
      clear hx
      by_cases hle : x ≤ k
      · have u1 : (x : Int) ≤ (k : Int) := by omega
        have HY := Lib.hid (HWH.out.yes (by rw [← HX.out]; exact hle))
        have HE2 : Hid (x = E l (m + 1)) := Lib.hid (by rw [HX.out, HY.out.2])
        have hm2 : m + 1 ≤ j + 1 := by omega
        clear hle
        go_wp2_with fail
        go_round
        case rel => exact ⟨j + 1, m + 1, x, by omega, by go_num, by go_num, rfl, hm2, Lib.hid HY.out.1, HE2⟩
        case measure => simp [intOf]; omega
      · have u1 : ¬ (x : Int) ≤ (k : Int) := by omega
        have HY := Lib.hid (HWH.out.no (by rw [← HX.out]; exact hle))
        clear hle
        go_wp2_with fail
        go_round
        case rel => exact ⟨j + 1, m, em, by omega, by go_num, rfl, rfl, by omega, HY, HEM⟩
        case measure => simp [intOf]; omega
    · obtain rfl : j = n0 := by omega
      have HWl : Hid (Whole l k l.length m) := Lib.hid (by have := HWH.out; rwa [H0.out] at this)
      have HSC := Lib.hid (HWl.out.scan HA.out (by rw [← HLL.out]; exact hkL))
      rw [← HEM.out] at HSC
      have hkc : (k : Int) ≤ (cb : Int) := by omega
      have hmc : (m : Int) ≤ (c0 : Int) := by omega
      have HSN := Lib.hid (bscan_any Ab cb ((writ l).take k) k (by rw [List.length_take, ← HLL.out]; omega) (by omega) (by omega) w1 (HRB.out.head k))
      clear HWH HRE
      go_wp2_with fail
      refine Calls.mono HSN.out ?_
      rintro e w2 ⟨A2, c2, rfl, hb2, e1, e2, hr2⟩
      rw [HSC.out] at e1 hr2 ⊢
      dsimp only at e1 hr2 ⊢
      have HB2 := Lib.hid (HB1.out.trans (hb2.mono HB1.out.size))
      have hlm : (l.take m).length = m := by rw [List.length_take]; have := H0.out; omega
      rw [hlm] at e1 ⊢
      have HSM := samebatches_any A2 A0 c2 c0 (l.take m) (l.take m) m m hlm.symm hlm.symm e1 (by omega) e2 m0 w2 hr2 ((HL.out _ HB2.out).take m)
      rw [show decide (l.take m = l.take m) = true from decide_eq_true rfl] at HSM
      have HSM := Lib.hid HSM
      clear HSN hb2 hr2 hlm HSC
      by_cases hek : em = k
      · subst hek
        rw [if_pos rfl]
        go_wp2_with fail
        refine Calls.mono HSM.out ?_
        rintro e w3 ⟨rfl, hb3⟩
        have HB3 := Lib.hid (HB2.out.trans (hb3.mono HB2.out.size))
        clear hb3
        go_wp2_with fail
        refine Calls.mono (awake_any w3) ?_
        rintro e w9 ⟨rfl, hb9⟩
        have HB9 := Lib.hid (HB3.out.trans (hb9.mono HB3.out.size))
        clear hb9
        go_wp2_with fail
        go_ret
        exact ⟨rfl, HB9.out⟩
      · have u4 : ((em : Int) == (k : Int)) = false := by rw [beq_eq_false_iff_ne]; omega
        have u5 : ¬ (em : Int) = (k : Int) := by omega
        rw [if_neg hek]
        clear hek
        go_wp2_with fail
        refine Calls.mono HSM.out ?_
        rintro e w3 ⟨rfl, hb3⟩
        have HB3 := Lib.hid (HB2.out.trans (hb3.mono HB2.out.size))
        clear hb3
        go_wp2_with fail
        refine Calls.mono (awake_any w3) ?_
        rintro e w9 ⟨rfl, hb9⟩
        have HB9 := Lib.hid (HB3.out.trans (hb9.mono HB3.out.size))
        clear hb9
        go_wp2_with fail
        go_ret
        exact ⟨rfl, HB9.out⟩
end Go.Proofs.Ytnclbonoenjbeaa.BatW
