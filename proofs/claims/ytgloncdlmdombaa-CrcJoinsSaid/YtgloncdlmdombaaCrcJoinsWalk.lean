/-
  The walk of the statement CrcJoins.
-/
import Derived.Test.YtgloncdlmdombaaCrcTellsWalk
namespace Go.Proofs.Ytgloncdlmdombaa.CrcW
open Go.RowKit Go.Proofs Go.Proofs.Ytgloncdlmdombaa Go.Proofs.Ytgloncdlmdombaa.Wd
open Go.Proofs.Ytgloncdlmdombaa.Crc (sumB sumB_lt sumB_snoc sumB_append)

set_option maxRecDepth 100000 in
set_option maxHeartbeats 2000000 in
theorem joins_walk (A B C : Option Addr) (ca cb cc : Nat) (a b c : List UInt8) (w : World) (hA : Bytes w w.heap.size A a) (hB : Bytes w w.heap.size B b) (hC : Bytes w w.heap.size C c) :
    Calls Try.prog 4 #[.slice A a.length ca, .slice B b.length cb, .slice C c.length cc] w fun e w' => e = .returned (.bool true) ∧ Below w.heap.size w w' := by
  by_cases ha : 200 < a.length
  · go_enter Try.func4, Try.ntmps4
    go_wp2_with fail
    refine Calls.mono (awake_any _) ?_
    rintro e w7 ⟨rfl, hB7⟩
    go_wp2
    go_ret
    exact ⟨rfl, hB7⟩
  by_cases hb : 200 < b.length
  · go_enter Try.func4, Try.ntmps4
    go_wp2_with fail
    refine Calls.mono (awake_any _) ?_
    rintro e w7 ⟨rfl, hB7⟩
    go_wp2
    go_ret
    exact ⟨rfl, hB7⟩
  by_cases hc : 200 < c.length
  · go_enter Try.func4, Try.ntmps4
    go_wp2_with fail
    refine Calls.mono (awake_any _) ?_
    rintro e w7 ⟨rfl, hB7⟩
    go_wp2
    go_ret
    exact ⟨rfl, hB7⟩
  obtain ⟨i0, hi0, hz0, hz1, hz2⟩ := info_parts infoU8
  go_enter Try.func4, Try.ntmps4
  go_wp2_with (at_builtin; refine wpList_append_row _ rfl (.tmp 31) (.tmp 32) _ rfl w.heap.size 5 i0 _ 1 Try.underlying23 hi0 hz0 hz1 hz2 rfl _ 0 [] rfl (by exact own_empty _ _ (Nat.le_refl _)) w.heap.size A a.length ca (bs a) rfl (bs_length a).symm (by exact hA.alloc (Nat.le_refl _) _) (bs_one a) (by unfold maxLen; omega) (by omega) (by simp) ?_)
  intro v1 w1 hown1 hgrow1 _ hat1
  have hB1 : Below w.heap.size w w1 := ((Below.refl _ w).alloc (Nat.le_refl _) _).grown hgrow1 (by simp) (by simp [Value.ownBlock])
  have hbase1 := hB1.size
  have hsz1 : w.heap.size + 1 ≤ w1.heap.size := by have := hgrow1.size; simpa using this
  clear hgrow1
  go_wp2_with (at_builtin; refine wpList_append_row _ rfl (.tmp 33) (.tmp 34) _ rfl w.heap.size 5 i0 _ 1 Try.underlying23 hi0 hz0 hz1 hz2 rfl _ _ _ rfl hown1 w.heap.size B b.length cb (bs b) rfl (bs_length b).symm (by exact hB.below hB1) (bs_one b) (by unfold maxLen; omega) (by omega) hbase1 ?_)
  intro v2 w2 hown2 hgrow2 _ hat2
  have hB2 : Below w.heap.size w w2 := hB1.grown hgrow2 hbase1 (fun k hk => by
    rcases hat1 with e | e <;> rw [e] at hk <;> simp [Value.ownBlock] at hk <;> omega)
  have hbase2 := hB2.size
  obtain ⟨A2, c2, rfl, hR2⟩ := own_slice hown2
  have hD2 : Bytes w2 w2.heap.size A2 (a ++ b) := by unfold Bytes; rw [bs_append]; exact hR2
  have hl2 : ((a ++ b).length : Nat) = a.length + b.length := List.length_append
  clear hgrow2 hown1 hown2 hat1 hat2 hR2 hB1 hbase1 hsz1
  go_wp2_with (at_builtin; refine wpList_append_row _ rfl (.tmp 36) (.tmp 37) _ rfl w2.heap.size 5 i0 _ 1 Try.underlying23 hi0 hz0 hz1 hz2 rfl _ 0 [] rfl (by exact own_empty _ _ (Nat.le_refl _)) w2.heap.size A2 (a.length + b.length) c2 (bs (a ++ b)) rfl (by rw [bs_length, hl2]) (by exact hD2.alloc (Nat.le_refl _) _) (bs_one _) (by unfold maxLen; omega) (by omega) (by simp) ?_)
  intro v3 w3 hown3 hgrow3 _ hat3
  have hB3' : Below w2.heap.size w2 w3 := ((Below.refl _ w2).alloc (Nat.le_refl _) _).grown hgrow3 (by simp) (by simp [Value.ownBlock])
  have hbase3 := hB3'.size
  have hsz3 : w2.heap.size + 1 ≤ w3.heap.size := by have := hgrow3.size; simpa using this
  clear hgrow3
  go_wp2_with (at_builtin; refine wpList_append_row _ rfl (.tmp 38) (.tmp 39) _ rfl w2.heap.size 5 i0 _ 1 Try.underlying23 hi0 hz0 hz1 hz2 rfl _ _ _ rfl hown3 w2.heap.size C c.length cc (bs c) rfl (bs_length c).symm (by exact ((hC.below hB2).more hB2.size).below hB3') (bs_one c) (by unfold maxLen; omega) (by omega) hbase3 ?_)
  intro v4 w4 hown4 hgrow4 _ hat4
  have hB4' : Below w2.heap.size w2 w4 := hB3'.grown hgrow4 hbase3 (fun k hk => by
    rcases hat3 with e | e <;> rw [e] at hk <;> simp [Value.ownBlock] at hk <;> omega)
  have hB4 := hB2.trans (hB4'.mono hB2.size)
  obtain ⟨A4, c4, rfl, hR4⟩ := own_slice hown4
  have hE4 : Bytes w4 w4.heap.size A4 (a ++ b ++ c) := by unfold Bytes; rw [bs_append]; exact hR4
  have hl4 : ((a ++ b ++ c).length : Nat) = a.length + b.length + c.length := by rw [List.length_append, List.length_append]
  have hD4 := (hD2.below hB4').more hB4'.size
  have hA4 := (hA.below hB4).more hB4.size
  have hBb4 := (hB.below hB4).more hB4.size
  have hC4 := (hC.below hB4).more hB4.size
  have HL2 := Lib.hid hl2
  have HL4 := Lib.hid hl4
  clear hgrow4 hown3 hown4 hat3 hat4 hR4 hB3' hbase3 hsz3 hB4' hB2 hbase2 hD2 hl2 hl4 hA hB hC
  have e1 := Lib.hid (show ((Crc.join (sumB a) (sumB b) b.length : Nat) : Int) = ((sumB (a ++ b) : Nat) : Int) by rw [sumB_append])
  have e2 := Lib.hid (show ((Crc.join (sumB (a ++ b)) (sumB c) c.length : Nat) : Int) = ((sumB (a ++ b ++ c) : Nat) : Int) by rw [sumB_append (a ++ b)])
  have e3 := Lib.hid (show ((Crc.join (sumB b) (sumB c) c.length : Nat) : Int) = ((sumB (b ++ c) : Nat) : Int) by rw [sumB_append])
  have e4 := Lib.hid (show ((Crc.join (sumB a) (sumB (b ++ c)) (b.length + c.length) : Nat) : Int) = ((sumB (a ++ b ++ c) : Nat) : Int) by rw [List.append_assoc, sumB_append a, List.length_append])
  go_wp2_with fail
  refine Calls.mono (sum_any A ca a (by omega) _ hA4) ?_
  rintro e w5 ⟨rfl, hb5⟩
  have hB5 := hB4.trans (hb5.mono hB4.size)
  have hBb5 := (hBb4.below hb5).more hb5.size
  have hC5 := (hC4.below hb5).more hb5.size
  have hD5 := (hD4.below hb5).more hb5.size
  have hE5 := (hE4.below hb5).more hb5.size
  clear hB4 hA4 hBb4 hC4 hD4 hE4 hb5
  go_wp2_with fail
  refine Calls.mono (sum_any B cb b (by omega) _ hBb5) ?_
  rintro e w6 ⟨rfl, hb6⟩
  have hB6 := hB5.trans (hb6.mono hB5.size)
  have hBb6 := (hBb5.below hb6).more hb6.size
  have hC6 := (hC5.below hb6).more hb6.size
  have hD6 := (hD5.below hb6).more hb6.size
  have hE6 := (hE5.below hb6).more hb6.size
  clear hB5 hBb5 hC5 hD5 hE5 hb6
  go_wp2_with fail
  refine Calls.mono (sum_any C cc c (by omega) _ hC6) ?_
  rintro e w7 ⟨rfl, hb7⟩
  have hB7 := hB6.trans (hb7.mono hB6.size)
  have hBb7 := (hBb6.below hb7).more hb7.size
  have hD7 := (hD6.below hb7).more hb7.size
  have hE7 := (hE6.below hb7).more hb7.size
  clear hB6 hBb6 hC6 hD6 hE6 hb7
  go_wp2_with fail
  refine Calls.mono (join_in _ _ (sumB_lt a) (sumB_lt b) b.length (by omega) _) ?_
  rintro e w8 ⟨rfl, hb8⟩
  have hB8 := hB7.trans (hb8.mono hB7.size)
  have hBb8 := (hBb7.below hb8).more hb8.size
  have hD8 := (hD7.below hb8).more hb8.size
  have hE8 := (hE7.below hb8).more hb8.size
  clear hB7 hBb7 hD7 hE7 hb8
  rw [e1.out]
  go_wp2_with fail
  have hs := sum_any A2 c2 (a ++ b) (by rw [HL2.out]; omega) _ hD8
  rw [HL2.out] at hs
  refine Calls.mono hs ?_
  clear hs
  rintro e w9 ⟨rfl, hb9⟩
  have hB9 := hB8.trans (hb9.mono hB8.size)
  have hBb9 := (hBb8.below hb9).more hb9.size
  have hD9 := (hD8.below hb9).more hb9.size
  have hE9 := (hE8.below hb9).more hb9.size
  clear hB8 hBb8 hD8 hE8 hb9
  go_wp2_with fail
  go_loopw [12, 58] (fun v i wr => ∃ k : Nat, k ≤ b.length ∧ i = .int .i64 k ∧ v = .int .u32 (sumB (a ++ b.take k) : Nat) ∧ Below w9.heap.size w9 wr) (fun _ i _ => b.length - (intOf i).toNat)
  case atStart => exact ⟨0, Nat.zero_le _, rfl, by simp, Below.refl _ _⟩
  case round =>
    obtain ⟨k, hk, rfl, rfl, hBr⟩ := hrel
    by_cases hlt : k < b.length
    · have HS := Lib.hid (show sumB (a ++ b.take (k + 1)) = Crc.nxt (sumB (a ++ b.take k)) b[k].toNat by rw [List.take_succ_eq_append_getElem hlt, ← List.append_assoc, sumB_snoc])
      have hxl := b[k].toNat_lt
      obtain ⟨bb, off, rfl, hbb, hcx⟩ := Bytes.at_ (hBb9.below hBr) hlt
      go_wp2_with fail
      refine Calls.mono (next_any _ _ (sumB_lt _) hxl _) ?_
      rintro e w10 ⟨rfl, hb10⟩
      have hBr' := hBr.trans (hb10.mono hBr.size)
      clear hb10 hBr
      go_wp2
      go_roundw
      case rel => exact ⟨k + 1, by omega, by go_num, by rw [HS.out], hBr'⟩
      case measure => simp [intOf]; omega
    · obtain rfl : k = b.length := by omega
      rw [List.take_length]
      have hB10 := hB9.trans (hBr.mono hB9.size)
      have hD10 := (hD9.below hBr).more hBr.size
      have hE10 := (hE9.below hBr).more hBr.size
      clear hB9 hBb9 hD9 hE9 hBr
      go_wp2_with fail
      refine Calls.mono (join_in _ _ (sumB_lt a) (sumB_lt b) b.length (by omega) _) ?_
      rintro e w11 ⟨rfl, hb11⟩
      have hB11 := hB10.trans (hb11.mono hB10.size)
      have hD11 := (hD10.below hb11).more hb11.size
      have hE11 := (hE10.below hb11).more hb11.size
      clear hB10 hD10 hE10 hb11
      rw [e1.out]
      go_wp2_with fail
      refine Calls.mono (join_in _ _ (sumB_lt (a ++ b)) (sumB_lt c) c.length (by omega) _) ?_
      rintro e w12 ⟨rfl, hb12⟩
      have hB12 := hB11.trans (hb12.mono hB11.size)
      have hD12 := (hD11.below hb12).more hb12.size
      have hE12 := (hE11.below hb12).more hb12.size
      clear hB11 hD11 hE11 hb12
      rw [e2.out]
      go_wp2_with fail
      refine Calls.mono (join_in _ _ (sumB_lt b) (sumB_lt c) c.length (by omega) _) ?_
      rintro e w13 ⟨rfl, hb13⟩
      have hB13 := hB12.trans (hb13.mono hB12.size)
      have hD13 := (hD12.below hb13).more hb13.size
      have hE13 := (hE12.below hb13).more hb13.size
      clear hB12 hD12 hE12 hb13
      rw [e3.out]
      go_wp2_with fail
      refine Calls.mono (join_in _ _ (sumB_lt a) (sumB_lt (b ++ c)) (b.length + c.length) (by omega) _) ?_
      rintro e w14 ⟨rfl, hb14⟩
      have hB14 := hB13.trans (hb14.mono hB13.size)
      have hD14 := (hD13.below hb14).more hb14.size
      have hE14 := (hE13.below hb14).more hb14.size
      clear hB13 hD13 hE13 hb14
      rw [e4.out]
      go_wp2_with fail
      have hs := sum_any A2 c2 (a ++ b) (by rw [HL2.out]; omega) _ hD14
      rw [HL2.out] at hs
      refine Calls.mono hs ?_
      clear hs
      rintro e w15 ⟨rfl, hb15⟩
      have hB15 := hB14.trans (hb15.mono hB14.size)
      have hE15 := (hE14.below hb15).more hb15.size
      clear hB14 hD14 hE14 hb15
      go_wp2_with fail
      have hs := sum_any A4 c4 (a ++ b ++ c) (by rw [HL4.out]; omega) _ hE15
      rw [HL4.out] at hs
      refine Calls.mono hs ?_
      clear hs
      rintro e w16 ⟨rfl, hb16⟩
      have hB16 := hB15.trans (hb16.mono hB15.size)
      clear hB15 hE15 hb16
      go_wp2_with fail
      refine Calls.mono (awake_any _) ?_
      rintro e w17 ⟨rfl, hb17⟩
      go_wp2
      go_ret
      exact ⟨rfl, hB16.trans (hb17.mono hB16.size)⟩
end Go.Proofs.Ytgloncdlmdombaa.CrcW
