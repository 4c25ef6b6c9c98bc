/-
  The walks of package head's small functions.
-/
import Derived.Test.YtpohefpiidlnjaaHeadPlain
import Derived.Test.YtpohefpiidlnjaaDiskSlotPl
import Derived.Laws.Bits64b
namespace Go.Proofs.Ytpohefpiidlnjaa.HdW
set_option linter.unusedVariables false
open Go Go.RowKit Go.Shelf Go.Proofs Go.Proofs.Ytpohefpiidlnjaa Go.Proofs.Ytpohefpiidlnjaa.Wd Go.Proofs.Ytpohefpiidlnjaa.Dk Go.Proofs.Ytpohefpiidlnjaa.Hd

theorem right_any (s e l : Nat) (w : World) : Calls Try.prog 11 #[.agg #[.int .u64 s, .int .u64 e, .int .u8 l]] w fun en w' => en = .returned (.bool (right ⟨s, e, l⟩)) ∧ Below w.heap.size w w' := by
  have hb := (Below.refl w.heap.size w).alloc (Nat.le_refl _) (.cells #[.int .u64 s, .int .u64 e, .int .u8 l] 24)
  by_cases h1 : 0 < s
  · by_cases h2 : l < 2
    · have u1 : (0 : Int) < (s : Int) := by omega
      have u2 : (l : Int) < 2 := by omega
      have HR : Hid (right ⟨s, e, l⟩ = true) := Lib.hid (by unfold right; simp [h1, h2])
      go_enter Try.func11, Try.ntmps11
      go_wp2
      go_ret
      exact ⟨by rw [HR.out]; rfl, hb⟩
    · have u1 : (0 : Int) < (s : Int) := by omega
      have u2 : ¬ (l : Int) < 2 := by omega
      have HR : Hid (right ⟨s, e, l⟩ = false) := Lib.hid (by unfold right; simp [h2])
      go_enter Try.func11, Try.ntmps11
      go_wp2
      go_ret
      exact ⟨by rw [HR.out]; rfl, hb⟩
  · have u1 : ¬ (0 : Int) < (s : Int) := by omega
    have HR : Hid (right ⟨s, e, l⟩ = false) := Lib.hid (by unfold right; simp [h1])
    go_enter Try.func11, Try.ntmps11
    go_wp2
    go_ret
    exact ⟨by rw [HR.out]; rfl, hb⟩
/-- So many of a number's bytes are put. -/
def putN (l : List UInt8) (a n i : Nat) : List UInt8 := l.take a ++ (le8 n).take i ++ l.drop (a + i)
theorem putN_zero (l : List UInt8) (a n : Nat) : putN l a n 0 = l := by unfold putN; simp
theorem putN_length {l : List UInt8} {a n i : Nat} (h : a + 8 ≤ l.length) (hi : i ≤ 8) : (putN l a n i).length = l.length := by
  unfold putN; simp [le8_length]; omega
theorem set_mid {α : Type} (l x : List α) (a i : Nat) (h : a + x.length ≤ l.length) (hi : i < x.length) : (l.take a ++ x.take i ++ l.drop (a + i)).set (a + i) x[i] = l.take a ++ x.take (i + 1) ++ l.drop (a + (i + 1)) := by
  have e : (l.take a ++ x.take i).length = a + i := by rw [List.length_append, List.length_take, List.length_take]; omega
  rw [List.drop_eq_getElem_cons (l := l) (i := a + i) (by omega), List.set_append_right _ _ (by omega), e, Nat.sub_self, List.set_cons_zero, List.take_succ_eq_append_getElem hi]
  simp only [List.append_assoc, List.cons_append, List.nil_append, Nat.add_assoc]
theorem putN_succ {l : List UInt8} {a n i : Nat} (h : a + 8 ≤ l.length) (hi : i < (le8 n).length) : (putN l a n i).set (a + i) (le8 n)[i] = putN l a n (i + 1) := set_mid l (le8 n) a i (by rw [le8_length]; exact h) hi
theorem le8_at (n i : Nat) (hi : i < 8) : (n : Int) / 2 ^ (8 * i) % 256 = ((((le8 n)[i]'(by rw [le8_length]; exact hi)).toNat : Nat) : Int) := by
  match i, hi with
  | 0, _ => simp [le8]
  | 1, _ => simp [le8]
  | 2, _ => simp [le8]
  | 3, _ => simp [le8]
  | 4, _ => simp [le8]
  | 5, _ => simp [le8]
  | 6, _ => simp [le8]
  | 7, _ => simp [le8]
  | k + 8, h => exact absurd h (by omega)
set_option maxRecDepth 100000 in
set_option maxHeartbeats 1000000 in
theorem put_any (a n : Nat) (hn : n < 18446744073709551616) (ha : a + 8 ≤ 32) (l : List UInt8) (hl : l.length = 32) {t : TypeId} {r : Nat} (w : World) (q : Blk w r t (bs l).toArray) :
    Calls Try.prog 33 #[.slice (some ⟨r, 0, none⟩) 32 32, .int .i64 a, .int .u64 n] w fun e w' => (∃ v, e = .returned v) ∧ Blk w' r t (bs (putN l a n 8)).toArray ∧ Fr (fun x => x = r) w w' := by
  have HL := Lib.hid hl
  have Q0 := Lib.hid q
  have y1 : IntKind.i64.wrap ((a : Int) + 8) = (a : Int) + 8 := IntWalk.i64_in _ (by omega)
  have j1 : (0 : Int) ≤ (a : Int) := by omega
  have j2 : (a : Int) ≤ (a : Int) + 8 := by omega
  have j3 : (a : Int) + 8 ≤ 32 := by omega
  have j4 : ((a : Int) + 8).toNat = a + 8 := by omega
  clear hl q
  go_enter Try.func33, Try.ntmps33
  go_wp2_with fail
  go_loopw [15] (fun ix wr => ∃ (i : Nat), i ≤ 8 ∧ ix = .int .i64 i ∧ Blk wr r t (bs (putN l a n i)).toArray ∧ Fr (fun x => x = r) w wr) (fun ix _ => 8 - (intOf ix).toNat)
  case atStart => exact ⟨0, by omega, rfl, by rw [putN_zero]; exact Q0.out, Fr.refl _ _⟩
  case round =>
    obtain ⟨i, hi, rfl, q, hfr⟩ := hrel
    by_cases hlt : i < 8
    · have hll := putN_length (l := l) (a := a) (n := n) (i := i) (by rw [HL.out]; exact ha) hi
      obtain ⟨ov, hov⟩ : ∃ v, (bs (putN l a n i))[a + i]? = some v := ⟨_, List.getElem?_eq_getElem (by rw [bs_length, hll, HL.out]; omega)⟩
      have hc := Blk.at_ q (a + i) (v := ov) (by rw [List.getElem?_toArray]; exact hov)
      have fz := q.frozen (a + i)
      obtain ⟨u, hdef⟩ : ∃ u : Int, u = (n : Int) / 2 ^ (8 * i) % 256 := ⟨_, rfl⟩
      have hu : u = ((((le8 n)[i]'(by rw [le8_length]; exact hlt)).toNat : Nat) : Int) := by rw [hdef]; exact le8_at n i hlt
      have q3 := q.set_ (a + i) (.int .u8 u)
      have e : (bs (putN l a n i)).toArray.setIfInBounds (a + i) (.int .u8 u) = (bs (putN l a n (i + 1))).toArray := by
        rw [hu, List.setIfInBounds_toArray, bs_set, putN_succ (by rw [HL.out]; exact ha)]
      rw [e] at q3
      have hfr3 : Fr (fun x => x = r) w (wr.setCell ⟨r, a + i, none⟩ (.int .u8 u)) := Fr.setCell (F := fun x => x = r) (p := ⟨r, a + i, none⟩) hfr (.inl rfl) _
      have HQ := Lib.hid q3
      have HF := Lib.hid hfr3
      have y2 : IntKind.i64.wrap ((a : Int) + i) = (a : Int) + i := IntWalk.i64_in _ (by omega)
      have y3 : IntKind.i64.wrap (8 * (i : Int)) = 8 * (i : Int) := IntWalk.i64_in _ (by omega)
      have i1 : (i : Int) < 8 := by omega
      have i2 : (0 : Int) ≤ (a : Int) + i := by omega
      have i3 : (a : Int) + i < 32 := by omega
      have i4 : ((a : Int) + i).toNat = a + i := by omega
      clear hll hov q q3 e hfr hfr3
      have HD := Lib.hid hdef
      clear hdef hu
      go_wp2_with fail
      go_roundw
      case rel => exact ⟨i + 1, by omega, by go_num, by rw [← HD.out]; exact HQ.out, by rw [← HD.out]; exact HF.out⟩
      case measure => simp [intOf]; omega
    · obtain rfl : i = 8 := by omega
      simp only [Int.cast_ofNat_Int]
      go_wp2_with fail
      go_end0
      exact ⟨⟨_, rfl⟩, q, hfr⟩
/-- So many of a number's bytes are got. -/
def gotN (l : List UInt8) : Nat → Nat
  | 0 => 0
  | i + 1 => gotN l i + (l.getD i 0).toNat * 2 ^ (8 * i)
theorem gotN_lt (l : List UInt8) : ∀ i, gotN l i < 2 ^ (8 * i)
  | 0 => by simp [gotN]
  | i + 1 => by
    have h1 := gotN_lt l i
    have h2 := (l.getD i 0).toNat_lt
    show gotN l i + (l.getD i 0).toNat * 2 ^ (8 * i) < _
    rw [show 8 * (i + 1) = 8 * i + 8 by omega, Nat.pow_add]
    have : (l.getD i 0).toNat * 2 ^ (8 * i) ≤ 255 * 2 ^ (8 * i) := Nat.mul_le_mul_right _ (by omega)
    omega
theorem gotN_eight (l : List UInt8) : gotN l 8 = un8 l := by
  simp only [gotN, un8]
  omega
theorem gotN_or (l : List UInt8) (i : Nat) (hi : i < 8) : bits .or .u64 (gotN l i : Int) (((l.getD i 0).toNat : Int) * 2 ^ (8 * i)) = ((gotN l (i + 1) : Nat) : Int) := by
  have h1 := gotN_lt l i
  have h2 := gotN_lt l (i + 1)
  have h3 : 2 ^ (8 * (i + 1)) ≤ 2 ^ 64 := Nat.pow_le_pow_right (by omega) (by omega)
  have h4 : gotN l (i + 1) = gotN l i + (l.getD i 0).toNat * 2 ^ (8 * i) := rfl
  have h64 : (2 : Nat) ^ 64 = 18446744073709551616 := by decide
  have := bits_or_u64_nat (gotN l i) ((l.getD i 0).toNat * 2 ^ (8 * i)) (by omega) (by omega)
  rw [h4]
  have e : gotN l i ||| (l.getD i 0).toNat * 2 ^ (8 * i) = gotN l i + (l.getD i 0).toNat * 2 ^ (8 * i) := by
    rw [Nat.or_comm, ← Nat.shiftLeft_eq, ← Nat.shiftLeft_add_eq_or_of_lt h1, Nat.add_comm]
  rw [e] at this
  rw [← this]
  congr 1
/-- A byte, moved up. -/
theorem up_wrap (l : List UInt8) (i : Nat) (hi : i < 8) : IntKind.u64.wrap (((l.getD i 0).toNat : Int) * 2 ^ (8 * i)) = ((l.getD i 0).toNat : Int) * 2 ^ (8 * i) := by
  have h2 := gotN_lt l (i + 1)
  have h3 : 2 ^ (8 * (i + 1)) ≤ 2 ^ 64 := Nat.pow_le_pow_right (by omega) (by omega)
  have h4 : gotN l (i + 1) = gotN l i + (l.getD i 0).toNat * 2 ^ (8 * i) := rfl
  have h64 : (2 : Nat) ^ 64 = 18446744073709551616 := by decide
  have e : ((l.getD i 0).toNat : Int) * 2 ^ (8 * i) = (((l.getD i 0).toNat * 2 ^ (8 * i) : Nat) : Int) := by simp
  rw [e, IntKind.wrap_u64]
  omega
set_option maxRecDepth 100000 in
set_option maxHeartbeats 1000000 in
theorem get_any (A : Option Addr) (c a : Nat) (ha : a + 8 ≤ 32) (l : List UInt8) (hl : l.length = 32) (hc : 32 ≤ c) (hcm : c ≤ maxLen) (w : World) (hI : Bytes w w.heap.size A l) :
    Calls Try.prog 34 #[.slice A 32 c, .int .i64 a] w fun e w' => e = .returned (.int .u64 (un8 (l.drop a) : Nat)) ∧ w = w' := by
  unfold maxLen at hcm
  obtain ⟨b, off, rfl, hb, h0⟩ := hI.at_ (j := 0) (by omega)
  have HC : Hid (∀ i, i < 8 → w.cell? ⟨b, off + a + i, none⟩ = some (.int .u8 (((l.drop a).getD i 0).toNat : Nat))) := Lib.hid fun i hi => by
    obtain ⟨b', off', e', _, h⟩ := hI.at_ (j := a + i) (by omega)
    cases e'
    rw [Nat.add_assoc, h]
    simp [List.getD_eq_getElem?_getD, List.getElem?_drop, show a + i < l.length by omega]
  have y1 : IntKind.i64.wrap ((a : Int) + 8) = (a : Int) + 8 := IntWalk.i64_in _ (by omega)
  have j1 : (0 : Int) ≤ (a : Int) := by omega
  have j2 : (a : Int) ≤ (a : Int) + 8 := by omega
  have j3 : (a : Int) + 8 ≤ (c : Int) := by omega
  have j4 : ((a : Int) + 8).toNat = a + 8 := by omega
  have HE := Lib.hid (gotN_eight (l.drop a))
  generalize l.drop a = m at *
  clear hl hI h0
  go_enter Try.func34, Try.ntmps34
  go_wp2_with fail
  go_loop [5, 16] (fun v ix => ∃ (i : Nat), i ≤ 8 ∧ ix = .int .i64 i ∧ v = .int .u64 (gotN m i : Nat)) (fun _ ix => 8 - (intOf ix).toNat)
  case atStart => exact ⟨0, by omega, rfl, rfl⟩
  case round =>
    obtain ⟨i, hi, rfl, rfl⟩ := hrel
    by_cases hlt : i < 8
    · have hcl := HC.out i hlt
      have i1 : (i : Int) < 8 := by omega
      have i2 : (0 : Int) ≤ (i : Int) := by omega
      have y3 : IntKind.i64.wrap (8 * (i : Int)) = 8 * (i : Int) := IntWalk.i64_in _ (by omega)
      have y4 := up_wrap m i hlt
      have y5 := gotN_or m i hlt
      obtain ⟨g1, hg⟩ : ∃ g, g = gotN m (i + 1) := ⟨_, rfl⟩
      rw [← hg] at y5
      have HG := Lib.hid hg
      have hx := (m.getD i 0).toNat_lt
      generalize (m.getD i 0).toNat = x at *
      have y6 : IntKind.u64.wrap (x : Int) = (x : Int) := by rw [IntKind.wrap_u64]; omega
      clear hg
      go_wp2_with fail
      go_round
      case rel => exact ⟨i + 1, by omega, by go_num, by rw [HG.out]⟩
      case measure => simp [intOf]; omega
    · obtain rfl : i = 8 := by omega
      simp only [Int.cast_ofNat_Int]
      go_wp2_with fail
      go_ret
      exact ⟨by rw [HE.out]; rfl, rfl⟩
end Go.Proofs.Ytpohefpiidlnjaa.HdW
