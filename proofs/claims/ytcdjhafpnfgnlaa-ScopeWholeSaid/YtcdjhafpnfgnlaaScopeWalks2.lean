/-
  The walks of the reference's Right, Ints, Own.
-/
import Derived.Test.YtcdjhafpnfgnlaaScopeWalks1
namespace Go.Proofs.Ytcdjhafpnfgnlaa.ScW
set_option linter.unusedVariables false
open Go.RowKit Go.Proofs Go.Proofs.Ytcdjhafpnfgnlaa Go.Proofs.Ytcdjhafpnfgnlaa.Wd
open Go.Proofs.Ytcdjhafpnfgnlaa.Sc (N own flow rightAt right chain place chainI deep over below owned)

set_option maxRecDepth 100000 in
set_option maxHeartbeats 4000000 in
theorem refright_any (A : Option Addr) (c : Nat) (ns : List N) (n : Nat) (hn : n = ns.length) (hnc : n ≤ c) (hcm : c ≤ maxLen) (w : World) (hI : Nodes w w.heap.size A ns) :
    Calls Try.prog 16 #[.slice A n c] w fun e w' => e = .returned (.bool (right ns)) ∧ Below w.heap.size w w' := by
  unfold maxLen at hcm
  have HN := Lib.hid hn
  clear hn
  go_enter Try.func16, Try.ntmps16
  go_wp2
  go_loopw [3] (fun i wr => ∃ k : Nat, k ≤ n ∧ i = .int .i64 k ∧ RowKit.Hid ((List.range k).all (rightAt ns) = true) ∧ Below w.heap.size w wr) (fun i _ => n - (intOf i).toNat)
  case atStart => exact ⟨0, Nat.zero_le _, rfl, Lib.hid rfl, Below.refl _ _⟩
  case round =>
    obtain ⟨k, hk, rfl, hF, hB⟩ := hrel
    by_cases hlt : k < n
    · have hkr : k < ns.length := by have := HN.out; omega
      obtain ⟨b1, o1, rfl, hb1, hc4⟩ := hI.own_at hkr
      obtain ⟨_, _, e2, _, hc3⟩ := hI.flow_at hkr
      cases e2
      have ho := (hB.cell (p := ⟨b1, _, none⟩) hb1).trans hc4
      have hf := (hB.cell (p := ⟨b1, _, none⟩) hb1).trans hc3
      have i1 : (k : Int) < (n : Int) := by omega
      have i0 : (0 : Int) ≤ (k : Int) := by omega
      have hbad : rightAt ns k = false → right ns = false := fun h => by
        rw [Bool.eq_false_iff]; intro hr
        have := List.all_eq_true.1 hr k (List.mem_range.2 hkr)
        rw [h] at this; cases this
      have hgood : rightAt ns k = true → (List.range (k + 1)).all (rightAt ns) = true := fun h => by
        rw [List.range_succ, List.all_append, hF.out]; simp [h]
      have HBAD := Lib.hid hbad
      have HGOOD := Lib.hid hgood
      have hdef : rightAt ns k = (decide (-1 ≤ own ns k) && decide (own ns k < k) && (decide (own ns k < 0) || decide (flow ns (own ns k).toNat = flow ns k))) := rfl
      have HDEF := Lib.hid hdef
      clear hbad hgood hdef hF hc3 hc4
      by_cases c1 : own ns k < -1
      · have u1 : decide (own ns k < -1) = true := by simpa using c1
        have HX := Lib.hid (HBAD.out (by rw [HDEF.out, decide_eq_false (by omega)]; rfl))
        go_wp2
        go_ret
        exact ⟨by rw [HX.out]; rfl, hB⟩
      have u1 : decide (own ns k < -1) = false := by simpa using c1
      by_cases c2 : (k : Int) ≤ own ns k
      · have u2 : decide ((k : Int) ≤ own ns k) = true := by simpa using c2
        have HX := Lib.hid (HBAD.out (by rw [HDEF.out, decide_eq_false (p := own ns k < k) (by omega)]; simp))
        go_wp2
        go_ret
        exact ⟨by rw [HX.out]; rfl, hB⟩
      have u2 : decide ((k : Int) ≤ own ns k) = false := by simpa using c2
      by_cases c3 : own ns k < 0
      · have u3 : decide ((0 : Int) ≤ own ns k) = false := by simp; omega
        have HX := Lib.hid (HGOOD.out (by rw [HDEF.out, decide_eq_true (p := -1 ≤ own ns k) (by omega), decide_eq_true (p := own ns k < k) (by omega), decide_eq_true c3]; rfl))
        go_wp2
        go_quiet (fail)
        go_wp2
        go_roundw
        case rel => exact ⟨k + 1, by omega, by go_num, HX, bdrewN hB _⟩
        case measure => simp [intOf]; omega
      obtain ⟨m, hm⟩ : ∃ m : Nat, own ns k = m := ⟨(own ns k).toNat, by omega⟩
      have hmk : m < k := by omega
      have hfm : wr.cell? ⟨b1, o1 + m * 16 + 3, none⟩ = some (.int .i64 (flow ns m)) := by
        obtain ⟨b2, o2, e2, hb2, hc2⟩ := hI.flow_at (j := m) (by omega)
        cases e2
        exact (hB.cell (p := ⟨b1, _, none⟩) hb1).trans hc2
      rw [hm] at ho u1 u2
      have u3 : (0 : Int) ≤ (m : Int) := by omega
      have u4 : (m : Int) < (n : Int) := by omega
      have HM := Lib.hid hm
      clear hm c1 c2 c3
      have HFM : Hid (flow ns (own ns k).toNat = flow ns m) := Lib.hid (by rw [HM.out]; rfl)
      generalize flow ns m = fm at *
      have hrm : rightAt ns k = decide (fm = flow ns k) := by
        rw [HDEF.out, HM.out]
        rw [decide_eq_true (p := (-1 : Int) ≤ (m : Int)) (by omega), decide_eq_true (p := (m : Int) < (k : Int)) (by omega), decide_eq_false (p := (m : Int) < 0) (by omega)]
        rw [← HFM.out, HM.out]; rfl
      have HRM := Lib.hid hrm
      clear hrm HDEF HFM HM
      by_cases c4 : fm = flow ns k
      · have u5 : (fm != flow ns k) = false := by rw [c4]; simp
        have HX := Lib.hid (HGOOD.out (by rw [HRM.out, decide_eq_true c4]))
        clear c4
        go_wp2
        go_quiet (fail)
        go_wp2
        go_roundw
        case rel => exact ⟨k + 1, by omega, by go_num, HX, bdrewN hB _⟩
        case measure => simp [intOf]; omega
      · have u5 : (fm != flow ns k) = true := by rw [bne_iff_ne]; exact c4
        have HX := Lib.hid (HBAD.out (by rw [HRM.out, decide_eq_false c4]))
        clear c4
        go_wp2
        go_quiet (fail)
        go_wp2
        go_ret
        exact ⟨by rw [HX.out]; rfl, bdrewN hB _⟩
    · obtain rfl : k = n := by omega
      have HX : Hid (right ns = true) := Lib.hid (by unfold right; rw [← HN.out]; exact hF.out)
      clear hF
      go_wp2
      go_ret
      exact ⟨by rw [HX.out]; rfl, hB⟩

theorem itake_succ {l m : List Int} {k : Nat} (hk : k < l.length) (hm : k < m.length) (h : l.take k = m.take k) : l.take (k + 1) = m.take (k + 1) ↔ l[k] = m[k] := by
  rw [List.take_succ_eq_append_getElem hk, List.take_succ_eq_append_getElem hm, h, List.append_cancel_left_eq]
  simp
theorem ine_of_get {l m : List Int} {k : Nat} (hk : k < l.length) (hm : k < m.length) (h : l[k] ≠ m[k]) : l ≠ m := by
  rintro rfl; exact h rfl
set_option maxHeartbeats 1000000 in
theorem ints_any (A B : Option Addr) (c d : Nat) (l m : List Int) (x y : Nat) (hx : x = l.length) (hy : y = m.length) (hxc : x ≤ c) (hcm : c ≤ maxLen) (w : World) (hI : Nums w w.heap.size A l) (hJ : Nums w w.heap.size B m) :
    Calls Try.prog 15 #[.slice A x c, .slice B y d] w fun e w' => e = .returned (.bool (decide (l = m))) ∧ Below w.heap.size w w' := by
  unfold maxLen at hcm
  have HX := Lib.hid hx
  have HY := Lib.hid hy
  by_cases hne : x = y
  · subst hne
    clear hx hy
    go_enter Try.func15, Try.ntmps15
    go_wp2
    go_loopw [13] (fun i wr => ∃ k : Nat, k ≤ x ∧ i = .int .i64 k ∧ RowKit.Hid (l.take k = m.take k) ∧ Below w.heap.size w wr) (fun i _ => x - (intOf i).toNat)
    case atStart => exact ⟨0, Nat.zero_le _, rfl, Lib.hid (by simp), Below.refl _ _⟩
    case round =>
      obtain ⟨k, hk, rfl, hT, hBr⟩ := hrel
      by_cases hlt : k < x
      · have hkl : k < l.length := by have := HX.out; omega
        have hkm : k < m.length := by have := HY.out; omega
        obtain ⟨b1, o1, rfl, hb1, p1⟩ := hI.at_ hkl
        obtain ⟨b2, o2, rfl, hb2, q1⟩ := hJ.at_ hkm
        have hE1 : l[k] = m[k] → l.take (k + 1) = m.take (k + 1) := (itake_succ hkl hkm hT.out).2
        have hE2 : l[k] ≠ m[k] → l ≠ m := ine_of_get hkl hkm
        generalize l[k] = r at *
        generalize m[k] = s at *
        have HE1 := Lib.hid hE1
        have HE2 := Lib.hid hE2
        have g1 := (hBr.cell (p := ⟨b1, _, none⟩) hb1).trans p1
        have g2 := (hBr.cell (p := ⟨b2, _, none⟩) hb2).trans q1
        have i1 : (0 : Int) ≤ (k : Int) := by omega
        have i2 : (k : Int) < (x : Int) := by omega
        clear hE1 hE2 p1 q1 hT
        by_cases he : r = s
        · have u5 : (r != s) = false := by rw [he]; simp
          have HN := Lib.hid (HE1.out he)
          clear he
          go_wp2
          go_quiet (fail)
          go_wp2
          go_roundw
          case rel => exact ⟨k + 1, by omega, by go_num, HN, bdrewN hBr _⟩
          case measure => simp [intOf]; omega
        · have u5 : (r != s) = true := by rw [bne_iff_ne]; exact he
          have HN := Lib.hid (HE2.out he)
          clear he
          go_wp2
          go_quiet (fail)
          go_wp2
          go_ret
          exact ⟨by rw [decide_eq_false HN.out]; rfl, bdrewN hBr _⟩
      · obtain rfl : k = x := by omega
        have hN : Hid (l = m) := Lib.hid (by have := hT.out; rwa [List.take_of_length_le (by have := HX.out; omega), List.take_of_length_le (by have := HY.out; omega)] at this)
        clear hT
        go_wp2
        go_ret
        exact ⟨by rw [decide_eq_true hN.out]; rfl, hBr⟩
  · have hn : ((x : Int) != (y : Int)) = true := by rw [bne_iff_ne]; omega
    have hN : Hid (l ≠ m) := Lib.hid (fun h => hne (by rw [hx, hy, h]))
    clear hx hy
    go_enter Try.func15, Try.ntmps15
    go_wp2
    go_ret
    exact ⟨by rw [decide_eq_false hN.out]; rfl, Below.refl _ _⟩
end Go.Proofs.Ytcdjhafpnfgnlaa.ScW
