/-
  The walks of slices.Equal, slot, Bytes.
-/
import Derived.Test.YtpohefpiidlnjaaHeadWalks1
import Derived.Test.YtpohefpiidlnjaaWordsMore
import Derived.BigQuiet
import Derived.Deep.QuietTactic
namespace Go.Proofs.Ytpohefpiidlnjaa.HdW
set_option linter.unusedVariables false
open Go Go.RowKit Go.Shelf Go.Proofs Go.Proofs.Ytpohefpiidlnjaa Go.Proofs.Ytpohefpiidlnjaa.Wd Go.Proofs.Ytpohefpiidlnjaa.Dk Go.Proofs.Ytpohefpiidlnjaa.Hd

theorem slot_any (s e l : Nat) (hs : s < 18446744073709551616) (w : World) : Calls Try.prog 36 #[.agg #[.int .u64 s, .int .u64 e, .int .u8 l]] w fun en w' => en = .returned (.int .i64 (s % 2 : Nat)) ∧ Below w.heap.size w w' := by
  have hb := (Below.refl w.heap.size w).alloc (Nat.le_refl _) (.cells #[.int .u64 s, .int .u64 e, .int .u8 l] 24)
  obtain ⟨k, hk⟩ : ∃ k, k = s % 2 := ⟨_, rfl⟩
  have hk2 : k < 2 := by omega
  have t1 : (s : Int).tmod 2 = (k : Int) := by rw [Int.tmod_eq_emod_of_nonneg (Int.natCast_nonneg _)]; omega
  have y1 : IntKind.u64.wrap (k : Int) = (k : Int) := by rw [IntKind.wrap_u64]; omega
  have y2 : IntKind.i64.wrap (k : Int) = (k : Int) := IntWalk.i64_in _ (by omega)
  rw [← hk]
  clear hk
  go_enter Try.func36, Try.ntmps36
  go_wp2
  go_ret
  exact ⟨rfl, hb⟩
set_option maxRecDepth 100000 in
set_option maxHeartbeats 1000000 in
theorem equal_any (A B : Option Addr) (c d : Nat) (l k : List UInt8) (n m : Nat) (hn : n = l.length) (hm : m = k.length) (hnc : n ≤ c) (hmd : m ≤ d) (hs : n ≤ 1000000) (w : World) (hI : Bytes w w.heap.size A l) (hJ : Bytes w w.heap.size B k) :
    Calls Try.prog 35 #[.slice A n c, .slice B m d] w fun e w' => e = .returned (.bool (l == k)) ∧ Below w.heap.size w w' := by
  have HN := Lib.hid hn
  have HM := Lib.hid hm
  have HI : Hid (∀ W, Below w.heap.size w W → Bytes W w.heap.size A l ∧ Bytes W w.heap.size B k) := Lib.hid fun W hW => ⟨Row.below hI hW, Row.below hJ hW⟩
  clear hI hJ hn hm
  by_cases hnm : n = m
  · subst hnm
    go_enter Try.func35, Try.ntmps35
    go_wp2_with fail
    go_loopw [13] (fun ix wr => ∃ (i : Nat), i ≤ n ∧ ix = .int .i64 i ∧ Below w.heap.size w wr ∧ Hid (l.take i = k.take i)) (fun ix _ => n - (intOf ix).toNat)
    case atStart => exact ⟨0, Nat.zero_le _, rfl, Below.refl _ _, Lib.hid rfl⟩
    case round =>
      obtain ⟨i, hi, rfl, hB, hE⟩ := hrel
      by_cases hlt : i < n
      · have hil : i < l.length := by rw [← HN.out]; exact hlt
        have hik : i < k.length := by rw [← HM.out]; exact hlt
        have hbs := HI.out _ hB
        obtain ⟨b1, o1, e1, -, hc1⟩ := hbs.1.at_ (j := i) hil
        obtain ⟨b2, o2, e2, -, hc2⟩ := hbs.2.at_ (j := i) hik
        have i1 : (0 : Int) ≤ (i : Int) := by omega
        have i2 : (i : Int) < (n : Int) := by omega
        have hBd := bdrewN hB 1
        subst e1 e2
        by_cases hxy : l[i] = k[i]
        · have HX : Hid (l.take (i + 1) = k.take (i + 1)) := Lib.hid (by rw [List.take_succ_eq_append_getElem hil, List.take_succ_eq_append_getElem hik, hE.out, hxy])
          rw [← hxy] at hc2
          generalize (l[i]).toNat = x at *
          clear hxy hbs hil hik
          go_wp2_with fail
          go_quiet (fail)
          go_wp2_with fail
          go_roundw
          case rel => exact ⟨i + 1, by omega, by go_num, by first | exact bdrewN hB _ | exact hBd | exact hB.drew | exact hB, HX⟩
          case measure => simp [intOf]; omega
        · have HX : Hid ((l == k) = false) := Lib.hid (by rw [beq_eq_false_iff_ne]; intro e; subst e; exact hxy rfl)
          have hne : ¬ ((l[i]).toNat : Int) = ((k[i]).toNat : Int) := fun e => hxy (UInt8.toNat_inj.1 (by omega))
          generalize (l[i]).toNat = x at *
          generalize (k[i]).toNat = y at *
          clear hxy hbs hil hik
          go_wp2_with fail
          go_quiet (fail)
          go_wp2_with fail
          go_ret
          rw [HX.out]
          exact ⟨rfl, by first | exact bdrewN hB _ | exact hBd | exact hB.drew | exact hB⟩
      · obtain rfl : i = n := by omega
        have HX : Hid ((l == k) = true) := Lib.hid (by
          have h := hE.out
          rw [List.take_of_length_le (by rw [← HN.out]; exact Nat.le_refl _), List.take_of_length_le (by rw [← HM.out]; exact Nat.le_refl _)] at h
          rw [h]; exact beq_self_eq_true _)
        go_wp2_with fail
        go_ret
        rw [HX.out]
        exact ⟨rfl, hB⟩
  · have HX : Hid ((l == k) = false) := Lib.hid (by rw [beq_eq_false_iff_ne]; intro e; subst e; exact hnm (HN.out.trans HM.out.symm))
    have u1 : ¬ (n : Int) = (m : Int) := by omega
    clear hnm
    go_enter Try.func35, Try.ntmps35
    go_wp2
    go_ret
    rw [HX.out]
    exact ⟨rfl, Below.refl _ _⟩
end Go.Proofs.Ytpohefpiidlnjaa.HdW
