/-
  Words and walks, one behind the other: HeadPlain, HeadWalks1, HeadWalks2, HeadWalks3, HeadWalks4, HeadWalks5, HeadWalks6, HeadWalks7, HeadPl.
-/
import Derived.Test.YtmkijkkddoamgaaJW
import Derived.Test.YtmkijkkddoamgaaJD
import Derived.Laws.Bits64b
import Derived.BigQuiet
import Derived.Deep.QuietTactic
namespace Go.Proofs.Ytmkijkkddoamgaa.Hd
set_option linter.unusedVariables false

def le8 (n : Nat) : List UInt8 := [UInt8.ofNat n, UInt8.ofNat (n / 256), UInt8.ofNat (n / 65536), UInt8.ofNat (n / 16777216), UInt8.ofNat (n / 4294967296), UInt8.ofNat (n / 1099511627776), UInt8.ofNat (n / 281474976710656), UInt8.ofNat (n / 72057594037927936)]
def un8 (l : List UInt8) : Nat := (l.getD 0 0).toNat + 256 * (l.getD 1 0).toNat + 65536 * (l.getD 2 0).toNat + 16777216 * (l.getD 3 0).toNat + 4294967296 * (l.getD 4 0).toNat + 1099511627776 * (l.getD 5 0).toNat + 281474976710656 * (l.getD 6 0).toNat + 72057594037927936 * (l.getD 7 0).toNat
theorem le8_length (n : Nat) : (le8 n).length = 8 := rfl
theorem un8_le8 {n : Nat} (h : n < 18446744073709551616) (r : List UInt8) : un8 (le8 n ++ r) = n := by
  simp only [un8, le8, List.cons_append, List.getD_cons_zero, List.getD_cons_succ, UInt8.toNat_ofNat']
  omega
theorem un8_lt (l : List UInt8) : un8 l < 18446744073709551616 := by
  have h0 := (l.getD 0 0).toNat_lt
  have h1 := (l.getD 1 0).toNat_lt
  have h2 := (l.getD 2 0).toNat_lt
  have h3 := (l.getD 3 0).toNat_lt
  have h4 := (l.getD 4 0).toNat_lt
  have h5 := (l.getD 5 0).toNat_lt
  have h6 := (l.getD 6 0).toNat_lt
  have h7 := (l.getD 7 0).toNat_lt
  unfold un8
  omega
/-- A head. -/
structure H where
  serial : Nat
  epoch : Nat
  live : Nat
deriving DecidableEq
structure Wf (h : H) : Prop where
  serial : h.serial < 18446744073709551616
  epoch : h.epoch < 18446744073709551616
  live : h.live < 256
def none_ : H := ⟨0, 0, 0⟩
def right (h : H) : Bool := decide (0 < h.serial) && decide (h.live < 2)
def bytes (h : H) : List UInt8 := le8 h.serial ++ (le8 h.epoch ++ (UInt8.ofNat h.live :: (List.replicate 7 0 ++ le8 h.serial)))
theorem bytes_length (h : H) : (bytes h).length = 32 := rfl
def seen (b : List UInt8) : H := ⟨un8 b, un8 (b.drop 8), (b.getD 16 0).toNat⟩
def read (b : List UInt8) : Option H := if b.length = 32 ∧ right (seen b) = true ∧ b = bytes (seen b) then some (seen b) else none
theorem seen_wf (b : List UInt8) : Wf (seen b) := ⟨un8_lt _, un8_lt _, (b.getD 16 0).toNat_lt⟩
theorem seen_bytes {h : H} (w : Wf h) : seen (bytes h) = h := by
  unfold seen
  have e1 : un8 (bytes h) = h.serial := un8_le8 w.serial _
  have e2 : (bytes h).drop 8 = le8 h.epoch ++ (UInt8.ofNat h.live :: (List.replicate 7 0 ++ le8 h.serial)) := rfl
  have e3 : (bytes h).getD 16 0 = UInt8.ofNat h.live := rfl
  rw [e1, e2, e3, un8_le8 w.epoch, UInt8.toNat_ofNat']
  have := w.live
  rw [Nat.mod_eq_of_lt (by omega)]
theorem read_bytes {h : H} (w : Wf h) (r : right h = true) : read (bytes h) = some h := by
  unfold read
  rw [seen_bytes w, if_pos ⟨rfl, r, rfl⟩]
theorem read_some {b : List UInt8} {h : H} (e : read b = some h) : right h = true ∧ b = bytes h ∧ Wf h := by
  unfold read at e
  split at e
  · rename_i hh
    cases e
    exact ⟨hh.2.1, hh.2.2, seen_wf b⟩
  · cases e
theorem bytes_inj {g h : H} (wg : Wf g) (wh : Wf h) (e : bytes g = bytes h) : g = h := by
  rw [← seen_bytes wg, ← seen_bytes wh, e]
/-- The later one of two. -/
def pick (zero one : List UInt8) : H :=
  let a := match read zero with | some h => if h.serial % 2 = 0 then h else none_ | none => none_
  match read one with | some h => if h.serial % 2 = 1 ∧ a.serial < h.serial then h else a | none => a
theorem le8_inj {m n : Nat} (hm : m < 18446744073709551616) (hn : n < 18446744073709551616) (e : le8 m = le8 n) : m = n := by
  have h1 := un8_le8 hm []
  have h2 := un8_le8 hn []
  rw [← h1, ← h2, e]
/-- A torn head is the new one, the old one, or none. -/
theorem torn {a b : H} (wa : Wf a) (wb : Wf b) (hne : a.serial ≠ b.serial) {k : Nat} (hk : k ≤ 32) {x : H} (hx : read ((bytes b).take k ++ (bytes a).drop k) = some x) : x = a ∨ x = b := by
  obtain ⟨hr, e, wx⟩ := read_some hx
  have l8 : ∀ h : H, (bytes h).take 8 = le8 h.serial := fun h => rfl
  have l24 : ∀ h : H, (bytes h).drop 24 = le8 h.serial := fun h => rfl
  have m : ∀ h : H, bytes h = le8 h.serial ++ ((bytes h).drop 8) := fun h => rfl
  by_cases h24 : k ≤ 24
  · -- its end is the old one's
    have e1 : (bytes x).drop 24 = (bytes a).drop 24 := by
      rw [← e, List.drop_append, List.drop_eq_nil_of_le (by rw [List.length_take, bytes_length]; omega), List.nil_append, List.drop_drop, List.length_take, bytes_length]
      congr 1; omega
    rw [l24, l24] at e1
    have s1 := le8_inj wx.serial wa.serial e1
    left
    by_cases h8 : 8 ≤ k
    · exfalso
      have e2 : (bytes x).take 8 = (bytes b).take 8 := by
        rw [← e, List.take_append_of_le_length (by rw [List.length_take, bytes_length]; omega), List.take_take, Nat.min_eq_left h8]
      rw [l8, l8] at e2
      exact hne (s1.symm.trans (le8_inj wx.serial wb.serial e2))
    · have e2 : (bytes x).drop 8 = (bytes a).drop 8 := by
        rw [← e, List.drop_append, List.drop_eq_nil_of_le (by rw [List.length_take, bytes_length]; omega), List.nil_append, List.drop_drop, List.length_take, bytes_length]
        congr 1; omega
      refine bytes_inj wx wa ?_
      rw [m x, m a, e2, s1]
  · right
    have e1 : (bytes x).take 8 = (bytes b).take 8 := by
      rw [← e, List.take_append_of_le_length (by rw [List.length_take, bytes_length]; omega), List.take_take, Nat.min_eq_left (by omega)]
    rw [l8, l8] at e1
    have s1 := le8_inj wx.serial wb.serial e1
    have e2 : (bytes x).take 24 = (bytes b).take 24 := by
      rw [← e, List.take_append_of_le_length (by rw [List.length_take, bytes_length]; omega), List.take_take, Nat.min_eq_left (by omega)]
    refine bytes_inj wx wb ?_
    rw [← List.take_append_drop 24 (bytes x), ← List.take_append_drop 24 (bytes b), e2, l24, l24, s1]
end Go.Proofs.Ytmkijkkddoamgaa.Hd

namespace Go.Proofs.Ytmkijkkddoamgaa.HdW
set_option linter.unusedVariables false
open Go Go.RowKit Go.Shelf Go.Proofs Go.Proofs.Ytmkijkkddoamgaa Go.Proofs.Ytmkijkkddoamgaa.Wd Go.Proofs.Ytmkijkkddoamgaa.Dk Go.Proofs.Ytmkijkkddoamgaa.Hd

theorem right_any (s e l : Nat) (w : World) : Calls Try.prog 86 #[.agg #[.int .u64 s, .int .u64 e, .int .u8 l]] w fun en w' => en = .returned (.bool (right ⟨s, e, l⟩)) ∧ Below w.heap.size w w' := by
  have hb := (Below.refl w.heap.size w).alloc (Nat.le_refl _) (.cells #[.int .u64 s, .int .u64 e, .int .u8 l] 35)
  by_cases h1 : 0 < s
  · by_cases h2 : l < 2
    · have u1 : (0 : Int) < (s : Int) := by omega
      have u2 : (l : Int) < 2 := by omega
      have HR : Hid (right ⟨s, e, l⟩ = true) := Lib.hid (by unfold right; simp [h1, h2])
      go_enter Try.func86, Try.ntmps86
      go_wp2
      go_ret
      exact ⟨by rw [HR.out]; rfl, hb⟩
    · have u1 : (0 : Int) < (s : Int) := by omega
      have u2 : ¬ (l : Int) < 2 := by omega
      have HR : Hid (right ⟨s, e, l⟩ = false) := Lib.hid (by unfold right; simp [h2])
      go_enter Try.func86, Try.ntmps86
      go_wp2
      go_ret
      exact ⟨by rw [HR.out]; rfl, hb⟩
  · have u1 : ¬ (0 : Int) < (s : Int) := by omega
    have HR : Hid (right ⟨s, e, l⟩ = false) := Lib.hid (by unfold right; simp [h1])
    go_enter Try.func86, Try.ntmps86
    go_wp2
    go_ret
    exact ⟨by rw [HR.out]; rfl, hb⟩
/-- So many of a number's bytes are put. -/
def putN (l : List UInt8) (a n i : Nat) : List UInt8 := l.take a ++ (le8 n).take i ++ l.drop (a + i)
theorem putN_zero (l : List UInt8) (a n : Nat) : putN l a n 0 = l := by unfold putN; simp
theorem putN_length {l : List UInt8} {a n i : Nat} (h : a + 8 ≤ l.length) (hi : i ≤ 8) : (putN l a n i).length = l.length := by
  unfold putN; simp [le8_length]; omega
theorem set_mid {α : Type} (l x : List α) (a i : Nat) (h : a + x.length ≤ l.length) (hi : i < x.length) : (l.take a ++ x.take i ++ l.drop (a + i)).set (a + i) x[i] = l.take a ++ x.take (i + 1) ++ l.drop (a + (i + 1)) := by
  have e : (l.take a ++ x.take i).length = a + i := by rw [List.length_append, List.length_take, List.length_take]; omega
  rw [List.drop_eq_getElem_cons (l := l) (i := a + i) (by omega), List.set_append_right _ _ (by omega), e, Nat.sub_self, List.set_cons_zero, List.take_succ_eq_append_getElem hi]
  simp only [List.append_assoc, List.cons_append, List.nil_append, Nat.add_assoc]
theorem putN_succ {l : List UInt8} {a n i : Nat} (h : a + 8 ≤ l.length) (hi : i < (le8 n).length) : (putN l a n i).set (a + i) (le8 n)[i] = putN l a n (i + 1) := set_mid l (le8 n) a i (by rw [le8_length]; exact h) hi
theorem le8_at (n i : Nat) (hi : i < 8) : (n : Int) / 2 ^ (8 * i) % 256 = ((((le8 n)[i]'(by rw [le8_length]; exact hi)).toNat : Nat) : Int) := by
  match i, hi with
  | 0, _ => simp [le8]
  | 1, _ => simp [le8]
  | 2, _ => simp [le8]
  | 3, _ => simp [le8]
  | 4, _ => simp [le8]
  | 5, _ => simp [le8]
  | 6, _ => simp [le8]
  | 7, _ => simp [le8]
  | k + 8, h => exact absurd h (by omega)
set_option maxRecDepth 100000 in
set_option maxHeartbeats 1000000 in
theorem put_any (a n : Nat) (hn : n < 18446744073709551616) (ha : a + 8 ≤ 32) (l : List UInt8) (hl : l.length = 32) {t : TypeId} {r : Nat} (w : World) (q : Blk w r t (bs l).toArray) :
    Calls Try.prog 87 #[.slice (some ⟨r, 0, none⟩) 32 32, .int .i64 a, .int .u64 n] w fun e w' => (∃ v, e = .returned v) ∧ Blk w' r t (bs (putN l a n 8)).toArray ∧ Fr (fun x => x = r) w w' := by
  have HL := Lib.hid hl
  have Q0 := Lib.hid q
  have y1 : IntKind.i64.wrap ((a : Int) + 8) = (a : Int) + 8 := IntWalk.i64_in _ (by omega)
  have j1 : (0 : Int) ≤ (a : Int) := by omega
  have j2 : (a : Int) ≤ (a : Int) + 8 := by omega
  have j3 : (a : Int) + 8 ≤ 32 := by omega
  have j4 : ((a : Int) + 8).toNat = a + 8 := by omega
  clear hl q
  go_enter Try.func87, Try.ntmps87
  go_wp2_with fail
  go_loopw [15] (fun ix wr => ∃ (i : Nat), i ≤ 8 ∧ ix = .int .i64 i ∧ Blk wr r t (bs (putN l a n i)).toArray ∧ Fr (fun x => x = r) w wr) (fun ix _ => 8 - (intOf ix).toNat)
  case atStart => exact ⟨0, by omega, rfl, by rw [putN_zero]; exact Q0.out, Fr.refl _ _⟩
  case round =>
    obtain ⟨i, hi, rfl, q, hfr⟩ := hrel
    by_cases hlt : i < 8
    · have hll := putN_length (l := l) (a := a) (n := n) (i := i) (by rw [HL.out]; exact ha) hi
      obtain ⟨ov, hov⟩ : ∃ v, (bs (putN l a n i))[a + i]? = some v := ⟨_, List.getElem?_eq_getElem (by rw [bs_length, hll, HL.out]; omega)⟩
      have hc := Blk.at_ q (a + i) (v := ov) (by rw [List.getElem?_toArray]; exact hov)
      have fz := q.frozen (a + i)
      obtain ⟨u, hdef⟩ : ∃ u : Int, u = (n : Int) / 2 ^ (8 * i) % 256 := ⟨_, rfl⟩
      have hu : u = ((((le8 n)[i]'(by rw [le8_length]; exact hlt)).toNat : Nat) : Int) := by rw [hdef]; exact le8_at n i hlt
      have q3 := q.set_ (a + i) (.int .u8 u)
      have e : (bs (putN l a n i)).toArray.setIfInBounds (a + i) (.int .u8 u) = (bs (putN l a n (i + 1))).toArray := by
        rw [hu, List.setIfInBounds_toArray, bs_set, putN_succ (by rw [HL.out]; exact ha)]
      rw [e] at q3
      have hfr3 : Fr (fun x => x = r) w (wr.setCell ⟨r, a + i, none⟩ (.int .u8 u)) := Fr.setCell (F := fun x => x = r) (p := ⟨r, a + i, none⟩) hfr (.inl rfl) _
      have HQ := Lib.hid q3
      have HF := Lib.hid hfr3
      have y2 : IntKind.i64.wrap ((a : Int) + i) = (a : Int) + i := IntWalk.i64_in _ (by omega)
      have y3 : IntKind.i64.wrap (8 * (i : Int)) = 8 * (i : Int) := IntWalk.i64_in _ (by omega)
      have i1 : (i : Int) < 8 := by omega
      have i2 : (0 : Int) ≤ (a : Int) + i := by omega
      have i3 : (a : Int) + i < 32 := by omega
      have i4 : ((a : Int) + i).toNat = a + i := by omega
      clear hll hov q q3 e hfr hfr3
      have HD := Lib.hid hdef
      clear hdef hu
      go_wp2_with fail
      go_roundw
      case rel => exact ⟨i + 1, by omega, by go_num, by rw [← HD.out]; exact HQ.out, by rw [← HD.out]; exact HF.out⟩
      case measure => simp [intOf]; omega
    · obtain rfl : i = 8 := by omega
      simp only [Int.cast_ofNat_Int]
      go_wp2_with fail
      go_end0
      exact ⟨⟨_, rfl⟩, q, hfr⟩
/-- So many of a number's bytes are got. -/
def gotN (l : List UInt8) : Nat → Nat
  | 0 => 0
  | i + 1 => gotN l i + (l.getD i 0).toNat * 2 ^ (8 * i)
theorem gotN_lt (l : List UInt8) : ∀ i, gotN l i < 2 ^ (8 * i)
  | 0 => by simp [gotN]
  | i + 1 => by
    have h1 := gotN_lt l i
    have h2 := (l.getD i 0).toNat_lt
    show gotN l i + (l.getD i 0).toNat * 2 ^ (8 * i) < _
    rw [show 8 * (i + 1) = 8 * i + 8 by omega, Nat.pow_add]
    have : (l.getD i 0).toNat * 2 ^ (8 * i) ≤ 255 * 2 ^ (8 * i) := Nat.mul_le_mul_right _ (by omega)
    omega
theorem gotN_eight (l : List UInt8) : gotN l 8 = un8 l := by
  simp only [gotN, un8]
  omega
theorem gotN_or (l : List UInt8) (i : Nat) (hi : i < 8) : bits .or .u64 (gotN l i : Int) (((l.getD i 0).toNat : Int) * 2 ^ (8 * i)) = ((gotN l (i + 1) : Nat) : Int) := by
  have h1 := gotN_lt l i
  have h2 := gotN_lt l (i + 1)
  have h3 : 2 ^ (8 * (i + 1)) ≤ 2 ^ 64 := Nat.pow_le_pow_right (by omega) (by omega)
  have h4 : gotN l (i + 1) = gotN l i + (l.getD i 0).toNat * 2 ^ (8 * i) := rfl
  have h64 : (2 : Nat) ^ 64 = 18446744073709551616 := by decide
  have := bits_or_u64_nat (gotN l i) ((l.getD i 0).toNat * 2 ^ (8 * i)) (by omega) (by omega)
  rw [h4]
  have e : gotN l i ||| (l.getD i 0).toNat * 2 ^ (8 * i) = gotN l i + (l.getD i 0).toNat * 2 ^ (8 * i) := by
    rw [Nat.or_comm, ← Nat.shiftLeft_eq, ← Nat.shiftLeft_add_eq_or_of_lt h1, Nat.add_comm]
  rw [e] at this
  rw [← this]
  congr 1
/-- A byte, moved up. -/
theorem up_wrap (l : List UInt8) (i : Nat) (hi : i < 8) : IntKind.u64.wrap (((l.getD i 0).toNat : Int) * 2 ^ (8 * i)) = ((l.getD i 0).toNat : Int) * 2 ^ (8 * i) := by
  have h2 := gotN_lt l (i + 1)
  have h3 : 2 ^ (8 * (i + 1)) ≤ 2 ^ 64 := Nat.pow_le_pow_right (by omega) (by omega)
  have h4 : gotN l (i + 1) = gotN l i + (l.getD i 0).toNat * 2 ^ (8 * i) := rfl
  have h64 : (2 : Nat) ^ 64 = 18446744073709551616 := by decide
  have e : ((l.getD i 0).toNat : Int) * 2 ^ (8 * i) = (((l.getD i 0).toNat * 2 ^ (8 * i) : Nat) : Int) := by simp
  rw [e, IntKind.wrap_u64]
  omega
set_option maxRecDepth 100000 in
set_option maxHeartbeats 1000000 in
theorem get_any (A : Option Addr) (c a : Nat) (ha : a + 8 ≤ 32) (l : List UInt8) (hl : l.length = 32) (hc : 32 ≤ c) (hcm : c ≤ maxLen) (w : World) (hI : Bytes w w.heap.size A l) :
    Calls Try.prog 85 #[.slice A 32 c, .int .i64 a] w fun e w' => e = .returned (.int .u64 (un8 (l.drop a) : Nat)) ∧ w = w' := by
  unfold maxLen at hcm
  obtain ⟨b, off, rfl, hb, h0⟩ := hI.at_ (j := 0) (by omega)
  have HC : Hid (∀ i, i < 8 → w.cell? ⟨b, off + a + i, none⟩ = some (.int .u8 (((l.drop a).getD i 0).toNat : Nat))) := Lib.hid fun i hi => by
    obtain ⟨b', off', e', _, h⟩ := hI.at_ (j := a + i) (by omega)
    cases e'
    rw [Nat.add_assoc, h]
    simp [List.getD_eq_getElem?_getD, List.getElem?_drop, show a + i < l.length by omega]
  have y1 : IntKind.i64.wrap ((a : Int) + 8) = (a : Int) + 8 := IntWalk.i64_in _ (by omega)
  have j1 : (0 : Int) ≤ (a : Int) := by omega
  have j2 : (a : Int) ≤ (a : Int) + 8 := by omega
  have j3 : (a : Int) + 8 ≤ (c : Int) := by omega
  have j4 : ((a : Int) + 8).toNat = a + 8 := by omega
  have HE := Lib.hid (gotN_eight (l.drop a))
  generalize l.drop a = m at *
  clear hl hI h0
  go_enter Try.func85, Try.ntmps85
  go_wp2_with fail
  go_loop [5, 16] (fun v ix => ∃ (i : Nat), i ≤ 8 ∧ ix = .int .i64 i ∧ v = .int .u64 (gotN m i : Nat)) (fun _ ix => 8 - (intOf ix).toNat)
  case atStart => exact ⟨0, by omega, rfl, rfl⟩
  case round =>
    obtain ⟨i, hi, rfl, rfl⟩ := hrel
    by_cases hlt : i < 8
    · have hcl := HC.out i hlt
      have i1 : (i : Int) < 8 := by omega
      have i2 : (0 : Int) ≤ (i : Int) := by omega
      have y3 : IntKind.i64.wrap (8 * (i : Int)) = 8 * (i : Int) := IntWalk.i64_in _ (by omega)
      have y4 := up_wrap m i hlt
      have y5 := gotN_or m i hlt
      obtain ⟨g1, hg⟩ : ∃ g, g = gotN m (i + 1) := ⟨_, rfl⟩
      rw [← hg] at y5
      have HG := Lib.hid hg
      have hx := (m.getD i 0).toNat_lt
      generalize (m.getD i 0).toNat = x at *
      have y6 : IntKind.u64.wrap (x : Int) = (x : Int) := by rw [IntKind.wrap_u64]; omega
      clear hg
      go_wp2_with fail
      go_round
      case rel => exact ⟨i + 1, by omega, by go_num, by rw [HG.out]⟩
      case measure => simp [intOf]; omega
    · obtain rfl : i = 8 := by omega
      simp only [Int.cast_ofNat_Int]
      go_wp2_with fail
      go_ret
      exact ⟨by rw [HE.out]; rfl, rfl⟩
end Go.Proofs.Ytmkijkkddoamgaa.HdW

namespace Go.Proofs.Ytmkijkkddoamgaa.HdW
set_option linter.unusedVariables false
open Go Go.RowKit Go.Shelf Go.Proofs Go.Proofs.Ytmkijkkddoamgaa Go.Proofs.Ytmkijkkddoamgaa.Wd Go.Proofs.Ytmkijkkddoamgaa.Dk Go.Proofs.Ytmkijkkddoamgaa.Hd

theorem slot_any (s e l : Nat) (hs : s < 18446744073709551616) (w : World) : Calls Try.prog 78 #[.agg #[.int .u64 s, .int .u64 e, .int .u8 l]] w fun en w' => en = .returned (.int .i64 (s % 2 : Nat)) ∧ Below w.heap.size w w' := by
  have hb := (Below.refl w.heap.size w).alloc (Nat.le_refl _) (.cells #[.int .u64 s, .int .u64 e, .int .u8 l] 35)
  obtain ⟨k, hk⟩ : ∃ k, k = s % 2 := ⟨_, rfl⟩
  have hk2 : k < 2 := by omega
  have t1 : (s : Int).tmod 2 = (k : Int) := by rw [Int.tmod_eq_emod_of_nonneg (Int.natCast_nonneg _)]; omega
  have y1 : IntKind.u64.wrap (k : Int) = (k : Int) := by rw [IntKind.wrap_u64]; omega
  have y2 : IntKind.i64.wrap (k : Int) = (k : Int) := IntWalk.i64_in _ (by omega)
  rw [← hk]
  clear hk
  go_enter Try.func78, Try.ntmps78
  go_wp2
  go_ret
  exact ⟨rfl, hb⟩
set_option maxRecDepth 100000 in
set_option maxHeartbeats 1000000 in
theorem equal_any (A B : Option Addr) (c d : Nat) (l k : List UInt8) (n m : Nat) (hn : n = l.length) (hm : m = k.length) (hnc : n ≤ c) (hmd : m ≤ d) (hs : n ≤ 1000000) (w : World) (hI : Bytes w w.heap.size A l) (hJ : Bytes w w.heap.size B k) :
    Calls Try.prog 80 #[.slice A n c, .slice B m d] w fun e w' => e = .returned (.bool (l == k)) ∧ Below w.heap.size w w' := by
  have HN := Lib.hid hn
  have HM := Lib.hid hm
  have HI : Hid (∀ W, Below w.heap.size w W → Bytes W w.heap.size A l ∧ Bytes W w.heap.size B k) := Lib.hid fun W hW => ⟨Row.below hI hW, Row.below hJ hW⟩
  clear hI hJ hn hm
  by_cases hnm : n = m
  · subst hnm
    go_enter Try.func80, Try.ntmps80
    go_wp2_with fail
    go_loopw [13] (fun ix wr => ∃ (i : Nat), i ≤ n ∧ ix = .int .i64 i ∧ Below w.heap.size w wr ∧ Hid (l.take i = k.take i)) (fun ix _ => n - (intOf ix).toNat)
    case atStart => exact ⟨0, Nat.zero_le _, rfl, Below.refl _ _, Lib.hid rfl⟩
    case round =>
      obtain ⟨i, hi, rfl, hB, hE⟩ := hrel
      by_cases hlt : i < n
      · have hil : i < l.length := by rw [← HN.out]; exact hlt
        have hik : i < k.length := by rw [← HM.out]; exact hlt
        have hbs := HI.out _ hB
        obtain ⟨b1, o1, e1, -, hc1⟩ := hbs.1.at_ (j := i) hil
        obtain ⟨b2, o2, e2, -, hc2⟩ := hbs.2.at_ (j := i) hik
        have i1 : (0 : Int) ≤ (i : Int) := by omega
        have i2 : (i : Int) < (n : Int) := by omega
        have hBd := bdrewN hB 1
        subst e1 e2
        by_cases hxy : l[i] = k[i]
        · have HX : Hid (l.take (i + 1) = k.take (i + 1)) := Lib.hid (by rw [List.take_succ_eq_append_getElem hil, List.take_succ_eq_append_getElem hik, hE.out, hxy])
          rw [← hxy] at hc2
          generalize (l[i]).toNat = x at *
          clear hxy hbs hil hik
          go_wp2_with fail
          go_quiet (fail)
          go_wp2_with fail
          go_roundw
          case rel => exact ⟨i + 1, by omega, by go_num, by first | exact bdrewN hB _ | exact hBd | exact hB.drew | exact hB, HX⟩
          case measure => simp [intOf]; omega
        · have HX : Hid ((l == k) = false) := Lib.hid (by rw [beq_eq_false_iff_ne]; intro e; subst e; exact hxy rfl)
          have hne : ¬ ((l[i]).toNat : Int) = ((k[i]).toNat : Int) := fun e => hxy (UInt8.toNat_inj.1 (by omega))
          generalize (l[i]).toNat = x at *
          generalize (k[i]).toNat = y at *
          clear hxy hbs hil hik
          go_wp2_with fail
          go_quiet (fail)
          go_wp2_with fail
          go_ret
          rw [HX.out]
          exact ⟨rfl, by first | exact bdrewN hB _ | exact hBd | exact hB.drew | exact hB⟩
      · obtain rfl : i = n := by omega
        have HX : Hid ((l == k) = true) := Lib.hid (by
          have h := hE.out
          rw [List.take_of_length_le (by rw [← HN.out]; exact Nat.le_refl _), List.take_of_length_le (by rw [← HM.out]; exact Nat.le_refl _)] at h
          rw [h]; exact beq_self_eq_true _)
        go_wp2_with fail
        go_ret
        rw [HX.out]
        exact ⟨rfl, hB⟩
  · have HX : Hid ((l == k) = false) := Lib.hid (by rw [beq_eq_false_iff_ne]; intro e; subst e; exact hnm (HN.out.trans HM.out.symm))
    have u1 : ¬ (n : Int) = (m : Int) := by omega
    clear hnm
    go_enter Try.func80, Try.ntmps80
    go_wp2
    go_ret
    rw [HX.out]
    exact ⟨rfl, Below.refl _ _⟩
end Go.Proofs.Ytmkijkkddoamgaa.HdW

namespace Go.Proofs.Ytmkijkkddoamgaa.HdW
set_option linter.unusedVariables false
open Go Go.RowKit Go.Shelf Go.Proofs Go.Proofs.Ytmkijkkddoamgaa Go.Proofs.Ytmkijkkddoamgaa.Wd Go.Proofs.Ytmkijkkddoamgaa.Dk Go.Proofs.Ytmkijkkddoamgaa.Hd

/-- Bytes and a code, in new memory. -/
def FreshT (w : World) (l : List UInt8) (code : Nat) (e : Ending) (w' : World) : Prop :=
  ∃ A c, e = .returned (.tuple #[.slice A l.length c, .int .i64 code]) ∧ l.length ≤ c ∧ c ≤ maxLen ∧ Bytes w' w'.heap.size A l ∧ Below w.heap.size w w' ∧ ∀ x o, A = some ⟨x, o, none⟩ → w.heap.size ≤ x
/-- What Bytes answers. -/
def bytesR (h : H) : List UInt8 × Nat := if right h then (Hd.bytes h, 0) else ([], 50)
theorem zero32 : ∀ w, (zeroValue 55).run Try.prog w = .ok (.agg (bs (List.replicate 32 0)).toArray) w := fun w => by kernel_rfl
theorem laid (s e l : Nat) : putN ((putN (putN (List.replicate 32 0) 0 s 8) 8 e 8).set 16 (UInt8.ofNat l)) 24 s 8 = Hd.bytes ⟨s, e, l⟩ := rfl
set_option maxRecDepth 100000 in
set_option maxHeartbeats 1000000 in
theorem bytes_any (s e l : Nat) (wf : Wf ⟨s, e, l⟩) (w : World) : Calls Try.prog 81 #[.agg #[.int .u64 s, .int .u64 e, .int .u8 l]] w (FreshT w (bytesR ⟨s, e, l⟩).1 (bytesR ⟨s, e, l⟩).2) := by
  obtain ⟨hs, he, hl⟩ := wf
  have b0 := Blk.new_ w 35 #[.int .u64 s, .int .u64 e, .int .u8 l] rfl
  have hB0 := (Below.refl w.heap.size w).alloc (Nat.le_refl _) (.cells #[.int .u64 s, .int .u64 e, .int .u8 l] 35)
  go_enter Try.func81, Try.ntmps81
  go_wp2_with fail
  generalize w.alloc (.cells #[.int .u64 s, .int .u64 e, .int .u8 l] 35) = w1 at *
  refine Calls.mono (right_any s e l w1) ?_
  rintro en y1 ⟨rfl, hb⟩
  have b1 := b0.below hb b0.lt
  have hB := hB0.trans (hb.mono hB0.size)
  have hlt := b1.lt
  clear b0 hB0 hb
  cases hr : right ⟨s, e, l⟩
  · have HR : Hid (bytesR ⟨s, e, l⟩ = ([], 50)) := Lib.hid (by unfold bytesR; rw [hr]; rfl)
    clear hr
    go_wp2
    refine bodyPost_ret (v := .tuple #[.slice none 0 0, .int .i64 50]) (by simp [results, Try.results81, go_sem]) rfl ?_
    rw [HR.out]
    exact ⟨none, 0, rfl, Nat.le_refl _, by simp [maxLen], Row.nil, hB, fun _ _ e => by cases e⟩
  · have HR : Hid (bytesR ⟨s, e, l⟩ = (Hd.bytes ⟨s, e, l⟩, 0)) := Lib.hid (by unfold bytesR; rw [hr]; rfl)
    clear hr
    have hz := zero32
    obtain ⟨l0, hl0⟩ : ∃ l : List UInt8, l = List.replicate 32 0 := ⟨_, rfl⟩
    rw [← hl0] at hz
    have HL1 : Hid (l0.length = 32) := Lib.hid (by rw [hl0]; rfl)
    have HL2 : Hid ((putN l0 0 s 8).length = 32) := Lib.hid (by rw [putN_length (by rw [HL1.out]; omega) (by omega)]; exact HL1.out)
    have HL3 : Hid (((putN (putN l0 0 s 8) 8 e 8).set 16 (UInt8.ofNat l)).length = 32) := Lib.hid (by rw [List.length_set, putN_length (by rw [HL2.out]; omega) (by omega)]; exact HL2.out)
    have HX : Hid (putN ((putN (putN l0 0 s 8) 8 e 8).set 16 (UInt8.ofNat l)) 24 s 8 = Hd.bytes ⟨s, e, l⟩) := Lib.hid (by rw [hl0]; exact laid s e l)
    have q := Blk.new_ y1 55 (bs l0).toArray rfl
    have b3 := b1.alloc (.cells (bs l0).toArray 55)
    have hg := hB.size
    have hB3 := hB.alloc hg (.cells (bs l0).toArray 55)
    have hne : ¬ w.heap.size = y1.heap.size := by omega
    clear b1 hB hl0
    have b1 := b3
    have hB := hB3
    clear b3 hB3
    go_wp2_with fail
    generalize y1.alloc (.cells (bs l0).toArray 55) = W1 at *
    clear hz
    refine wp_region_heldG [] (fun _ W => W.cell? ⟨w.heap.size, 0, none⟩ = some (.int .u64 (s : Nat))) (by kernel_rfl) ?_
    change wpAnyG _ _ _ _ _ _ 4 _ _ (World.drew _)
    have q3 := q.drew
    have b3 := b1.drew
    have hB3 := hB.drew
    generalize W1.drew = V1 at *
    clear q b1 hB
    have q := q3
    have b1 := b3
    have hB := hB3
    clear q3 b3 hB3
    have hS : V1.cell? ⟨w.heap.size, 0, none⟩ = some (.int .u64 (s : Nat)) := Blk.at_ b1 0 rfl
    -- take0 take1 take2 one3 done
    refine g_take (i := 0) rfl rfl (by kernel_rfl) (by kernel_rfl) (by kernel_rfl) (by kernel_rfl) (by kernel_rfl) (fun _ _ _ h => h) hS (fun L W hL hW => by go_simp; rfl) ?_
    refine g_take (i := 1) rfl rfl (by kernel_rfl) (by kernel_rfl) (by kernel_rfl) (by kernel_rfl) (by kernel_rfl) (fun _ _ _ h => h) hS (fun L W hL hW => by go_simp; rfl) ?_
    refine g_take (i := 2) rfl rfl (by kernel_rfl) (by kernel_rfl) (by kernel_rfl) (by kernel_rfl) (by kernel_rfl) (fun _ _ _ h => h) hS (fun L W hL hW => by have q1 := hW; go_simp; rfl) ?_
    refine g_one (i := 3) rfl rfl (by kernel_rfl) fun K hK => ?_
    go_simp
    refine Calls.mono (put_any 0 s hs (by omega) l0 HL1.out _ q) ?_
    rintro e x1 ⟨⟨v1, rfl⟩, q3, hfr⟩
    have b3 := b1.fr hfr hne
    have hB3 := hB.trans (hfr.below hB.size fun j e => by cases e; exact hg)
    clear q b1 hB hfr
    have q := q3
    have b1 := b3
    have hB := hB3
    clear q3 b3 hB3
    refine hK _ _ (Blk.at_ b1 0 rfl) ?_
    clear hK K
    refine wpAnyG_done (by kernel_rfl) ?_ _
    go_simp
    go_wp2_with fail
    refine wp_region_heldG [] (fun _ W => W.cell? ⟨w.heap.size, 1, none⟩ = some (.int .u64 (e : Nat))) (by kernel_rfl) ?_
    change wpAnyG _ _ _ _ _ _ 4 _ _ (World.drew _)
    have q3 := q.drew
    have b3 := b1.drew
    have hB3 := hB.drew
    generalize x1.drew = V2 at *
    clear q b1 hB
    have q := q3
    have b1 := b3
    have hB := hB3
    clear q3 b3 hB3
    have hS : V2.cell? ⟨w.heap.size, 1, none⟩ = some (.int .u64 (e : Nat)) := Blk.at_ b1 1 rfl
    -- take0 take1 take2 one3 done
    refine g_take (i := 0) rfl rfl (by kernel_rfl) (by kernel_rfl) (by kernel_rfl) (by kernel_rfl) (by kernel_rfl) (fun _ _ _ h => h) hS (fun L W hL hW => by go_simp; rfl) ?_
    refine g_take (i := 1) rfl rfl (by kernel_rfl) (by kernel_rfl) (by kernel_rfl) (by kernel_rfl) (by kernel_rfl) (fun _ _ _ h => h) hS (fun L W hL hW => by go_simp; rfl) ?_
    refine g_take (i := 2) rfl rfl (by kernel_rfl) (by kernel_rfl) (by kernel_rfl) (by kernel_rfl) (by kernel_rfl) (fun _ _ _ h => h) hS (fun L W hL hW => by have q1 := hW; go_simp; rfl) ?_
    refine g_one (i := 3) rfl rfl (by kernel_rfl) fun K hK => ?_
    go_simp
    refine Calls.mono (put_any 8 e he (by omega) _ HL2.out _ q) ?_
    rintro e x2 ⟨⟨v2, rfl⟩, q3, hfr⟩
    have b3 := b1.fr hfr hne
    have hB3 := hB.trans (hfr.below hB.size fun j e => by cases e; exact hg)
    clear q b1 hB hfr
    have q := q3
    have b1 := b3
    have hB := hB3
    clear q3 b3 hB3
    refine hK _ _ (Blk.at_ b1 1 rfl) ?_
    clear hK K
    refine wpAnyG_done (by kernel_rfl) ?_ _
    go_simp
    have c2 := Blk.at_ b1 2 (v := .int .u8 (l : Nat)) rfl
    obtain ⟨ov, hov⟩ : ∃ v, (bs (putN (putN l0 0 s 8) 8 e 8))[16]? = some v := ⟨_, List.getElem?_eq_getElem (by rw [bs_length, putN_length (by rw [HL2.out]; omega) (by omega), HL2.out]; omega)⟩
    have c16 := Blk.at_ q 16 (v := ov) (by rw [List.getElem?_toArray]; exact hov)
    have fz := q.frozen 16
    have q3 := q.set_ 16 (.int .u8 (l : Nat))
    have e3 : (bs (putN (putN l0 0 s 8) 8 e 8)).toArray.setIfInBounds 16 (.int .u8 (l : Nat)) = (bs ((putN (putN l0 0 s 8) 8 e 8).set 16 (UInt8.ofNat l))).toArray := by
      rw [List.setIfInBounds_toArray, ← bs_set]
      congr 3
      simp; omega
    rw [e3] at q3
    have hfs : Fr (fun j => j = y1.heap.size) x2 (x2.setCell ⟨y1.heap.size, 16, none⟩ (.int .u8 (l : Nat))) := Fr.setCell (F := fun j => j = y1.heap.size) (p := ⟨y1.heap.size, 16, none⟩) (Fr.refl _ _) (.inl rfl) _
    have b3 := b1.fr hfs hne
    have hB3 := hB.trans (hfs.below hB.size fun j e => by cases e; exact hg)
    clear q b1 hB hfs hov e3
    have b1 := b3
    have hB := hB3
    have Q3 := Lib.hid q3
    clear b3 hB3 q3
    go_wp2_with fail
    clear c2 c16 fz
    generalize x2.setCell ⟨y1.heap.size, 16, none⟩ (.int .u8 (l : Nat)) = W3 at *
    have q := Q3.out
    refine wp_region_heldG [] (fun _ W => W.cell? ⟨w.heap.size, 0, none⟩ = some (.int .u64 (s : Nat))) (by kernel_rfl) ?_
    change wpAnyG _ _ _ _ _ _ 4 _ _ (World.drew _)
    have q3 := q.drew
    have b3 := b1.drew
    have hB3 := hB.drew
    generalize W3.drew = V3 at *
    clear q b1 hB
    have q := q3
    have b1 := b3
    have hB := hB3
    clear q3 b3 hB3
    have hS : V3.cell? ⟨w.heap.size, 0, none⟩ = some (.int .u64 (s : Nat)) := Blk.at_ b1 0 rfl
    -- take0 take1 take2 one3 done
    refine g_take (i := 0) rfl rfl (by kernel_rfl) (by kernel_rfl) (by kernel_rfl) (by kernel_rfl) (by kernel_rfl) (fun _ _ _ h => h) hS (fun L W hL hW => by go_simp; rfl) ?_
    refine g_take (i := 1) rfl rfl (by kernel_rfl) (by kernel_rfl) (by kernel_rfl) (by kernel_rfl) (by kernel_rfl) (fun _ _ _ h => h) hS (fun L W hL hW => by go_simp; rfl) ?_
    refine g_take (i := 2) rfl rfl (by kernel_rfl) (by kernel_rfl) (by kernel_rfl) (by kernel_rfl) (by kernel_rfl) (fun _ _ _ h => h) hS (fun L W hL hW => by have q1 := hW; go_simp; rfl) ?_
    refine g_one (i := 3) rfl rfl (by kernel_rfl) fun K hK => ?_
    go_simp
    refine Calls.mono (put_any 24 s hs (by omega) _ HL3.out _ q) ?_
    rintro e x3 ⟨⟨v3, rfl⟩, q3, hfr⟩
    have b3 := b1.fr hfr hne
    have hB3 := hB.trans (hfr.below hB.size fun j e => by cases e; exact hg)
    clear q b1 hB hfr
    have q := q3
    have b1 := b3
    have hB := hB3
    clear q3 b3 hB3
    refine hK _ _ (Blk.at_ b1 0 rfl) ?_
    clear hK K
    refine wpAnyG_done (by kernel_rfl) ?_ _
    go_simp
    go_wp2_with fail
    refine bodyPost_ret (v := .tuple #[.slice (some ⟨y1.heap.size, 0, none⟩) 32 32, .int .i64 0]) (by simp [results, Try.results81, go_sem]) rfl ?_
    rw [HR.out]
    rw [HX.out] at q
    exact ⟨_, 32, rfl, Nat.le_refl _, by simp [maxLen], Bytes.blk q q.lt _ rfl, hB, fun _ _ e => by cases e; exact hg⟩
end Go.Proofs.Ytmkijkkddoamgaa.HdW

namespace Go.Proofs.Ytmkijkkddoamgaa.HdW
set_option linter.unusedVariables false
open Go Go.RowKit Go.Shelf Go.Proofs Go.Proofs.Ytmkijkkddoamgaa Go.Proofs.Ytmkijkkddoamgaa.Wd Go.Proofs.Ytmkijkkddoamgaa.Dk Go.Proofs.Ytmkijkkddoamgaa.Hd

/-- Two results, the first of them a row that lies in memory. -/
theorem results_cell_row2 {P : Program} {fn : Func} {p t : Tmp} {ty : TypeId} (h : fn.results = #[.cell p ty, .tmp t]) (tmps : Array Value) (w : World) (g : Nat) (te : TypeId) (cs : Array Value) (fr : Nat × Nat) (d : TypeDesc)
    (hp : tmps.getD p undef = .pointer (some ⟨g, 0, none⟩)) (hg : w.heap[g]? = some (.cells cs te fr))
    (hu : P.underlying ty = some d) (hd : (match d with | .struct _ | .array _ _ => true | _ => false) = true) (hi : (P.info? ty).map (·.size) = some cs.size) :
    (results fn tmps).run P w = .ok (.tuple #[.agg cs, tmps.getD t undef]) w := by
  have hp' : tmps[p]?.getD undef = .pointer (some ⟨g, 0, none⟩) := by simpa using hp
  simp [results, h, hp', asAddr, run_loadVar_row w g te ty cs fr d hg hu hd hi]
theorem op_put_row {P : Program} {o : Oper} {a : Act} {w : World} {K : Act → World → Prop} {Q : Exit → Act → World → Prop} (hgd : o.guard = none) (hd : o.dst = none) (ty : TypeId) (x v : Operand) (ho : o.op = .store ty x v)
    (g : Nat) (hx : a.eval x = .pointer (some ⟨g, 0, none⟩)) (t : TypeId) (old cs : Array Value) (hv : a.eval v = .agg cs) (hg : Blk w g t old)
    (hi : (P.info? ty).map (·.size) = some cs.size) (hs : old.size = cs.size) (h1 : ∀ u ∈ cs.toList, u.oneCell' = true)
    (h : K a (w.setRow g cs)) : o.wp P a w K Q := by
  have h : K (a.put o.dst undef) (w.setRow g cs) := by rw [hd]; exact h
  unfold Oper.wp execOp
  have hrun := run_storeVar_row (P := P) w g t ty old cs hg hi hs (by rw [Array.all_eq_true']; exact fun u hu => h1 u (by simpa using hu))
  simp only [ho, hx, hv, Instr.storeAt, Instr.sureAddr, Sem.run_bind, Sem.run_pure, Result.andThen_ok, hrun]
  exact h
theorem below_row {B : Nat} {w w' : World} (h : Below B w w') {g : Nat} (hg : B ≤ g) (cs : Array Value) : Below B w (w'.setRow g cs) := h.trans ⟨rfl, rfl, rfl, by simp [World.setRow], fun j hj => setRow_other _ _ _ _ (by omega)⟩
/-- A head's cells. -/
def hv (h : H) : Array Value := #[.int .u64 h.serial, .int .u64 h.epoch, .int .u8 h.live]
/-- What Read answers. -/
def readR (b : List UInt8) : H × Bool := match Hd.read b with | some h => (h, true) | none => (none_, false)
set_option maxRecDepth 100000 in
set_option maxHeartbeats 1000000 in
theorem read_any (A : Option Addr) (c : Nat) (b : List UInt8) (n : Nat) (hn : n = b.length) (hc0 : n ≤ c) (hcm : c ≤ maxLen) (w : World) (hI : Bytes w w.heap.size A b) :
    Calls Try.prog 77 #[.slice A n c] w fun e w' => e = .returned (.tuple #[.agg (hv (readR b).1), .bool (readR b).2]) ∧ Below w.heap.size w w' := by
  have hB := (Below.refl w.heap.size w).alloc (Nat.le_refl _) (.cells #[.int .u64 0, .int .u64 0, .int .u8 0] 35)
  have q0 := Blk.new_ w 35 #[.int .u64 0, .int .u64 0, .int .u8 0] rfl
  by_cases h32 : n = 32
  rotate_left
  · have HR : Hid (readR b = (none_, false)) := Lib.hid (by
      unfold readR Hd.read
      rw [if_neg (by rw [← hn]; exact fun h => h32 h.1)])
    have u1 : ¬ (n : Int) = 32 := by omega
    clear hI hn hc0 hcm
    go_enter Try.func77, Try.ntmps77
    go_wp2_with fail
    refine bodyPost_ret (results_cell_row2 rfl _ _ w.heap.size 35 _ (0, 0) _ rfl q0.out Try.underlying35 rfl (by kernel_rfl)) rfl ?_
    rw [HR.out]
    exact ⟨rfl, hB⟩
  · subst h32
    have HL : Hid (b.length = 32) := Lib.hid hn.symm
    obtain ⟨r, off, rfl, hr0, hc1⟩ := hI.at_ (j := 16) (by omega)
    have hc := hc0
    have hHB : Hid (∀ W, Below (w.alloc (.cells #[.int .u64 0, .int .u64 0, .int .u8 0] 35)).heap.size (w.alloc (.cells #[.int .u64 0, .int .u64 0, .int .u8 0] 35)) W → Bytes W W.heap.size (some ⟨r, off, none⟩) b) := Lib.hid fun W hW => ((hI.grow hB).grow hW)
    have HB := hHB
    obtain ⟨x, hx⟩ : ∃ x : Nat, x = (b.getD 16 0).toNat := ⟨_, rfl⟩
    have hcx : (w.alloc (.cells #[.int .u64 0, .int .u64 0, .int .u8 0] 35)).cell? ⟨r, off + 16, none⟩ = some (.int .u8 (x : Nat)) := by
      refine (hB.cell (p := ⟨r, off + 16, none⟩) hr0).trans ?_
      rw [hc1, hx]
      simp [List.getD_eq_getElem?_getD, show 16 < b.length by omega]
    have hrl0 : r < (w.alloc (.cells #[.int .u64 0, .int .u64 0, .int .u8 0] 35)).heap.size := Nat.lt_of_lt_of_le hr0 hB.size
    have HSN : Hid (hv (Hd.seen b) = #[.int .u64 (un8 (b.drop 0) : Nat), .int .u64 (un8 (b.drop 8) : Nat), .int .u8 (x : Nat)]) := Lib.hid (by rw [hx]; rfl)
    have hc2 : (16 : Int) < 32 := by omega
    clear hHB hI hc1 hx hn
    go_enter Try.func77, Try.ntmps77
    go_upto_region 3 with fail
    generalize w.alloc (.cells #[.int .u64 0, .int .u64 0, .int .u8 0] 35) = w1 at *
    go_cut [4] (fun v wx => ∃ g, v = .pointer (some ⟨g, 0, none⟩) ∧ w1.heap.size ≤ g ∧ Blk wx g 35 (hv (Hd.seen b)) ∧ Below w1.heap.size w1 wx)
    case first =>
      clear q0 hB
      refine wp_region_heldG [] (fun _ W => W.cell? ⟨r, off + 16, none⟩ = some (.int .u8 (x : Nat))) (by kernel_rfl) ?_
      change wpAnyG _ _ _ _ _ _ 10 _ _ (World.drew _)
      have hb0 := (Below.refl w1.heap.size w1).drew
      have hS : w1.drew.cell? ⟨r, off + 16, none⟩ = some (.int .u8 (x : Nat)) := hcx
      have hrl : r < w1.drew.heap.size := hrl0
      generalize w1.drew = U at *
      -- take0 take2 take4 take5 take6
      refine g_take (i := 0) rfl rfl (by kernel_rfl) (by kernel_rfl) (by kernel_rfl) (by kernel_rfl) (by kernel_rfl) (fun _ _ _ h => h) hS (fun L W hL hW => by go_simp; rfl) ?_
      refine g_take (i := 2) rfl rfl (by kernel_rfl) (by kernel_rfl) (by kernel_rfl) (by kernel_rfl) (by kernel_rfl) (fun _ _ _ h => h) hS (fun L W hL hW => by go_simp; rfl) ?_
      refine g_take (i := 4) rfl rfl (by kernel_rfl) (by kernel_rfl) (by kernel_rfl) (by kernel_rfl) (by kernel_rfl) (fun _ _ _ h => h) hS (fun L W hL hW => by go_simp; rfl) ?_
      refine g_take (i := 5) rfl rfl (by kernel_rfl) (by kernel_rfl) (by kernel_rfl) (by kernel_rfl) (by kernel_rfl) (fun _ _ _ h => h) hS (fun L W hL hW => by go_simp; rfl) ?_
      refine g_take (i := 6) rfl rfl (by kernel_rfl) (by kernel_rfl) (by kernel_rfl) (by kernel_rfl) (by kernel_rfl) (fun _ _ _ h => h) hS (fun L W hL hW => by have q1 := hW; go_simp; rfl) ?_
      refine g_two (i := 1) (j := 8) (by kernel_rfl) rfl rfl rfl rfl (fun K hK => ?_) (fun K hK => ?_)
      · go_simp
        refine Calls.mono (get_any _ c 0 (by omega) b HL.out hc hcm _ (HB.out _ hb0)) ?_
        rintro en z ⟨rfl, rfl⟩
        refine hK _ _ hS ?_
        clear hK K
        refine g_two (i := 3) (j := 8) (by kernel_rfl) rfl rfl rfl rfl (fun K hK => ?_) (fun K hK => ?_)
        · go_simp
          refine Calls.mono (get_any _ c 8 (by omega) b HL.out hc hcm _ (HB.out _ hb0)) ?_
          rintro en z ⟨rfl, rfl⟩
          refine hK _ _ hS ?_
          clear hK K
          refine g_take (i := 7) rfl rfl (by kernel_rfl) (by kernel_rfl) (by kernel_rfl) (by kernel_rfl) (by kernel_rfl) (fun _ _ _ h => h) hS (fun L W hL hW => by go_simp; rfl) ?_
          refine g_one (i := 8) rfl rfl (by kernel_rfl) fun K hK => ?_
          have hb1 := hb0.alloc hb0.size (.cells #[.int .u64 0, .int .u64 0, .int .u8 0] 35)
          have q := Blk.new_ U 35 #[.int .u64 0, .int .u64 0, .int .u8 0] rfl
          have hg := hb0.size
          have hS1 := (((Below.refl _ U).alloc (Nat.le_refl _) (.cells #[.int .u64 0, .int .u64 0, .int .u8 0] 35)).cell (p := ⟨r, off + 16, none⟩) hrl).trans hS
          clear hb0 hS
          have hb0 := hb1
          have hS := hS1
          clear hb1 hS1
          go_simp
          refine hK _ _ hS ?_
          clear hK K
          generalize U.alloc (.cells #[.int .u64 0, .int .u64 0, .int .u8 0] 35) = U2 at *
          refine g_one (i := 9) rfl rfl (by kernel_rfl) fun K hK => ?_
          refine op_put_row rfl rfl _ _ _ rfl _ rfl _ _ #[.int .u64 (un8 (b.drop 0) : Nat), .int .u64 (un8 (b.drop 8) : Nat), .int .u8 (x : Nat)] rfl q (by kernel_rfl) rfl (fun u hu => by simp at hu; rcases hu with rfl | rfl | rfl <;> rfl) ?_
          refine hK _ _ ((cell_setRow_other _ _ _ _ (Nat.ne_of_lt hrl)).trans hS) ?_
          clear hK K
          refine wpAnyG_done (by kernel_rfl) ?_ _
          go_simp
          go_wp2_with fail
          go_meet
          exact ⟨_, rfl, hg, by rw [HSN.out]; exact q.row _, below_row hb0 hg _⟩
        · have hb1 := hb0.alloc hb0.size (.cells #[.int .u64 0, .int .u64 0, .int .u8 0] 35)
          have q := Blk.new_ U 35 #[.int .u64 0, .int .u64 0, .int .u8 0] rfl
          have hg := hb0.size
          have hS1 := (((Below.refl _ U).alloc (Nat.le_refl _) (.cells #[.int .u64 0, .int .u64 0, .int .u8 0] 35)).cell (p := ⟨r, off + 16, none⟩) hrl).trans hS
          clear hb0 hS
          have hb0 := hb1
          have hS := hS1
          clear hb1 hS1
          go_simp
          refine hK _ _ hS ?_
          clear hK K
          generalize U.alloc (.cells #[.int .u64 0, .int .u64 0, .int .u8 0] 35) = U2 at *
          refine g_one (i := 3) rfl rfl (by kernel_rfl) fun K hK => ?_
          go_simp
          refine Calls.mono (get_any _ c 8 (by omega) b HL.out hc hcm _ (HB.out _ hb0)) ?_
          rintro en z ⟨rfl, rfl⟩
          refine hK _ _ hS ?_
          clear hK K
          refine g_take (i := 7) rfl rfl (by kernel_rfl) (by kernel_rfl) (by kernel_rfl) (by kernel_rfl) (by kernel_rfl) (fun _ _ _ h => h) hS (fun L W hL hW => by go_simp; rfl) ?_
          refine g_one (i := 9) rfl rfl (by kernel_rfl) fun K hK => ?_
          refine op_put_row rfl rfl _ _ _ rfl _ rfl _ _ #[.int .u64 (un8 (b.drop 0) : Nat), .int .u64 (un8 (b.drop 8) : Nat), .int .u8 (x : Nat)] rfl q (by kernel_rfl) rfl (fun u hu => by simp at hu; rcases hu with rfl | rfl | rfl <;> rfl) ?_
          refine hK _ _ ((cell_setRow_other _ _ _ _ (Nat.ne_of_lt hrl)).trans hS) ?_
          clear hK K
          refine wpAnyG_done (by kernel_rfl) ?_ _
          go_simp
          go_wp2_with fail
          go_meet
          exact ⟨_, rfl, hg, by rw [HSN.out]; exact q.row _, below_row hb0 hg _⟩
      · have hb1 := hb0.alloc hb0.size (.cells #[.int .u64 0, .int .u64 0, .int .u8 0] 35)
        have q := Blk.new_ U 35 #[.int .u64 0, .int .u64 0, .int .u8 0] rfl
        have hg := hb0.size
        have hS1 := (((Below.refl _ U).alloc (Nat.le_refl _) (.cells #[.int .u64 0, .int .u64 0, .int .u8 0] 35)).cell (p := ⟨r, off + 16, none⟩) hrl).trans hS
        clear hb0 hS
        have hb0 := hb1
        have hS := hS1
        clear hb1 hS1
        go_simp
        refine hK _ _ hS ?_
        clear hK K
        generalize U.alloc (.cells #[.int .u64 0, .int .u64 0, .int .u8 0] 35) = U2 at *
        refine g_one (i := 1) rfl rfl (by kernel_rfl) fun K hK => ?_
        go_simp
        refine Calls.mono (get_any _ c 0 (by omega) b HL.out hc hcm _ (HB.out _ hb0)) ?_
        rintro en z ⟨rfl, rfl⟩
        refine hK _ _ hS ?_
        clear hK K
        refine g_one (i := 3) rfl rfl (by kernel_rfl) fun K hK => ?_
        go_simp
        refine Calls.mono (get_any _ c 8 (by omega) b HL.out hc hcm _ (HB.out _ hb0)) ?_
        rintro en z ⟨rfl, rfl⟩
        refine hK _ _ hS ?_
        clear hK K
        refine g_take (i := 7) rfl rfl (by kernel_rfl) (by kernel_rfl) (by kernel_rfl) (by kernel_rfl) (by kernel_rfl) (fun _ _ _ h => h) hS (fun L W hL hW => by go_simp; rfl) ?_
        refine g_one (i := 9) rfl rfl (by kernel_rfl) fun K hK => ?_
        refine op_put_row rfl rfl _ _ _ rfl _ rfl _ _ #[.int .u64 (un8 (b.drop 0) : Nat), .int .u64 (un8 (b.drop 8) : Nat), .int .u8 (x : Nat)] rfl q (by kernel_rfl) rfl (fun u hu => by simp at hu; rcases hu with rfl | rfl | rfl <;> rfl) ?_
        refine hK _ _ ((cell_setRow_other _ _ _ _ (Nat.ne_of_lt hrl)).trans hS) ?_
        clear hK K
        refine wpAnyG_done (by kernel_rfl) ?_ _
        go_simp
        go_wp2_with fail
        go_meet
        exact ⟨_, rfl, hg, by rw [HSN.out]; exact q.row _, below_row hb0 hg _⟩
    case rest =>
    obtain ⟨g, rfl, hg, q, hb⟩ := hcut
    have hBc := hB.trans (hb.mono hB.size)
    have q2 := q0.below hb q0.lt
    have HBc := HB.out _ hb
    clear q0 hB hb HSN HB hcx hrl0
    obtain ⟨⟨s, e, l⟩, hse⟩ : ∃ h : H, h = Hd.seen b := ⟨_, rfl⟩
    have wf : Wf ⟨s, e, l⟩ := hse ▸ seen_wf b
    rw [← hse] at q
    have hcr : Hid (readR b = if right ⟨s, e, l⟩ = true ∧ b = Hd.bytes ⟨s, e, l⟩ then (⟨s, e, l⟩, true) else (none_, false)) := Lib.hid (by
      unfold readR Hd.read
      rw [← hse]
      by_cases hh : right ⟨s, e, l⟩ = true ∧ b = Hd.bytes ⟨s, e, l⟩
      · rw [if_pos hh, if_pos ⟨HL.out, hh⟩]
      · rw [if_neg hh, if_neg (fun h => hh h.2)])
    clear hse
    have f0 := Blk.at_ q 0 (v := .int .u64 (s : Nat)) rfl
    have f1 := Blk.at_ q 1 (v := .int .u64 (e : Nat)) rfl
    have f2 := Blk.at_ q 2 (v := .int .u8 (l : Nat)) rfl
    have z0 := Blk.at_ q2 0 (v := .int .u64 0) rfl
    have z1 := Blk.at_ q2 1 (v := .int .u64 0) rfl
    have z2 := Blk.at_ q2 2 (v := .int .u8 0) rfl
    have zf := q2.frozen
    have hBy := bytes_any s e l wf wc
    have hlt := q2.lt
    cases hr : right ⟨s, e, l⟩
    · have HX : bytesR ⟨s, e, l⟩ = ([], 50) := by unfold bytesR; rw [hr]; rfl
      have HR : Hid (readR b = (none_, false)) := Lib.hid (by rw [hcr.out, hr]; simp)
      rw [HX] at hBy
      clear hr hcr HX
      go_wp2_with fail
      refine Calls.mono hBy ?_
      rintro en y1 ⟨A2, c2, rfl, hl2, hcm2, hJ, hb3, -⟩
      have q3 := q2.below hb3 q2.lt
      have hB3 := hBc.trans (hb3.mono hBc.size)
      clear q2 z0 z1 z2 zf f0 f1 f2 q hb3 hBc hBy
      have z0 := Blk.at_ q3 0 (v := .int .u64 0) rfl
      have z1 := Blk.at_ q3 1 (v := .int .u64 0) rfl
      have z2 := Blk.at_ q3 2 (v := .int .u8 0) rfl
      have zf := q3.frozen
      go_wp2_with fail
      have q4 := ((q3.set_ 0 (.int .u64 0)).set_ 1 (.int .u64 0)).set_ 2 (.int .u8 0)
      have hB4 := ((hB3.setCell (p := ⟨w.heap.size, 0, none⟩) (Nat.le_refl _) (.int .u64 0)).setCell (p := ⟨w.heap.size, 1, none⟩) (Nat.le_refl _) (.int .u64 0)).setCell (p := ⟨w.heap.size, 2, none⟩) (Nat.le_refl _) (.int .u8 0)
      refine bodyPost_ret (results_cell_row2 rfl _ _ w.heap.size 35 #[.int .u64 0, .int .u64 0, .int .u8 0] (0, 0) _ rfl q4.out Try.underlying35 rfl (by kernel_rfl)) rfl ?_
      rw [HR.out]
      exact ⟨rfl, hB4⟩
    · obtain ⟨k, hk⟩ : ∃ k, k = Hd.bytes ⟨s, e, l⟩ := ⟨_, rfl⟩
      have hk32 : k.length = 32 := by rw [hk]; rfl
      have HK : Hid (k.length = 32) := Lib.hid hk32
      have HX : bytesR ⟨s, e, l⟩ = (k, 0) := by unfold bytesR; rw [hr, hk]; rfl
      have HC : Hid (readR b = if (b == k) = true then (⟨s, e, l⟩, true) else (none_, false)) := Lib.hid (by rw [hcr.out, hr, hk]; simp)
      rw [HX] at hBy
      clear hr hcr HX hk
      go_wp2_with fail
      refine Calls.mono hBy ?_
      rintro en y1 ⟨A2, c2, rfl, hl2, hcm2, hJ, hb3, -⟩
      rw [HK.out] at hl2
      have q3 := q2.below hb3 q2.lt
      have qq := q.below hb3 q.lt
      have hB3 := hBc.trans (hb3.mono hBc.size)
      have hI := HBc.grow hb3
      clear q2 z0 z1 z2 zf f0 f1 f2 q hb3 hBc hBy HBc hlt
      rw [hk32]
      have HQ3 := Lib.hid q3
      have HQQ := Lib.hid qq
      have HJ := Lib.hid hJ
      have HI := Lib.hid hI
      clear q3 qq hJ hI hk32
      go_wp2_with fail
      refine Calls.mono (equal_any (some ⟨r, off, none⟩) A2 c c2 b k 32 32 HL.out.symm HK.out.symm hc0 hl2 (by omega) _ HI.out HJ.out) ?_
      rintro en y2 ⟨rfl, hb4⟩
      have q3 := HQ3.out.below hb4 HQ3.out.lt
      have qq := HQQ.out.below hb4 HQQ.out.lt
      have hB3 := hB3.trans (hb4.mono hB3.size)
      clear hb4
      have f0 := Blk.at_ qq 0 (v := .int .u64 (s : Nat)) rfl
      have f1 := Blk.at_ qq 1 (v := .int .u64 (e : Nat)) rfl
      have f2 := Blk.at_ qq 2 (v := .int .u8 (l : Nat)) rfl
      have z0 := Blk.at_ q3 0 (v := .int .u64 0) rfl
      have z1 := Blk.at_ q3 1 (v := .int .u64 0) rfl
      have z2 := Blk.at_ q3 2 (v := .int .u8 0) rfl
      have zf := q3.frozen
      cases hq : (b == k)
      · have HR : Hid (readR b = (none_, false)) := Lib.hid (by rw [HC.out, hq]; rfl)
        clear hq HC qq
        go_wp2_with fail
        have q4 := ((q3.set_ 0 (.int .u64 0)).set_ 1 (.int .u64 0)).set_ 2 (.int .u8 0)
        have hB4 := ((hB3.setCell (p := ⟨w.heap.size, 0, none⟩) (Nat.le_refl _) (.int .u64 0)).setCell (p := ⟨w.heap.size, 1, none⟩) (Nat.le_refl _) (.int .u64 0)).setCell (p := ⟨w.heap.size, 2, none⟩) (Nat.le_refl _) (.int .u8 0)
        refine bodyPost_ret (results_cell_row2 rfl _ _ w.heap.size 35 #[.int .u64 0, .int .u64 0, .int .u8 0] (0, 0) _ rfl q4.out Try.underlying35 rfl (by kernel_rfl)) rfl ?_
        rw [HR.out]
        exact ⟨rfl, hB4⟩
      · have HR : Hid (readR b = (⟨s, e, l⟩, true)) := Lib.hid (by rw [HC.out, hq]; rfl)
        clear hq HC
        go_wp2_with fail
        have q4 := ((q3.set_ 0 (.int .u64 (s : Nat))).set_ 1 (.int .u64 (e : Nat))).set_ 2 (.int .u8 (l : Nat))
        have hB4 := ((hB3.setCell (p := ⟨w.heap.size, 0, none⟩) (Nat.le_refl _) (.int .u64 (s : Nat))).setCell (p := ⟨w.heap.size, 1, none⟩) (Nat.le_refl _) (.int .u64 (e : Nat))).setCell (p := ⟨w.heap.size, 2, none⟩) (Nat.le_refl _) (.int .u8 (l : Nat))
        refine bodyPost_ret (results_cell_row2 rfl _ _ w.heap.size 35 #[.int .u64 (s : Nat), .int .u64 (e : Nat), .int .u8 (l : Nat)] (0, 0) _ rfl q4.out Try.underlying35 rfl (by kernel_rfl)) rfl ?_
        rw [HR.out]
        exact ⟨rfl, hB4⟩
end Go.Proofs.Ytmkijkkddoamgaa.HdW

namespace Go.Proofs.Ytmkijkkddoamgaa.HdW
set_option linter.unusedVariables false
open Go Go.RowKit Go.Shelf Go.Proofs Go.Proofs.Ytmkijkkddoamgaa Go.Proofs.Ytmkijkkddoamgaa.Wd Go.Proofs.Ytmkijkkddoamgaa.Dk Go.Proofs.Ytmkijkkddoamgaa.Hd

/-- The best one, one more seen. -/
def pk (i : Nat) (a : H) (r : H × Bool) : H := if r.2 = true ∧ r.1.serial % 2 = i ∧ a.serial < r.1.serial then r.1 else a
def best (zero one : List UInt8) : Nat → H
  | 0 => none_
  | 1 => pk 0 none_ (readR zero)
  | _ => pk 1 (pk 0 none_ (readR zero)) (readR one)
theorem readR_wf (b : List UInt8) : Wf (readR b).1 := by
  unfold readR
  cases h : Hd.read b with
  | none => exact ⟨by decide, by decide, by decide⟩
  | some x => exact (read_some h).2.2
theorem best_pick (zero one : List UInt8) : best zero one 2 = Hd.pick zero one := by
  show pk 1 (pk 0 none_ (readR zero)) (readR one) = _
  have e : pk 0 none_ (readR zero) = (match Hd.read zero with | some h => if h.serial % 2 = 0 then h else none_ | none => none_) := by
    unfold pk readR
    cases h : Hd.read zero with
    | none => simp
    | some x =>
      have hr := (read_some h).1
      have : 0 < x.serial := by simp [right] at hr; exact hr.1
      simp [none_, this]
  rw [e]
  unfold pk readR Hd.pick
  cases h : Hd.read one with
  | none => first | (simp; done) | (simp; rfl)
  | some x => first | (simp; done) | (simp; rfl)
/-- One of two rows. -/
theorem index_two (a b : Value) (W : World) : (Instr.index 128 (.agg #[a, b]) (.int .i64 0)).run Try.prog W = .ok a W ∧ (Instr.index 128 (.agg #[a, b]) (.int .i64 1)).run Try.prog W = .ok b W := by
  have hz : (Try.prog.info? 23).map (fun i => i.size) = some 1 := by kernel_rfl
  obtain ⟨i, hi, hs⟩ := Option.map_eq_some_iff.1 hz
  constructor <;> simp [Instr.index, run_underlying Try.underlying128, asIntOf, go_sem, sizeOf, typeInfo, hi, hs]
theorem best_wf (zero one : List UInt8) : ∀ i, Wf (best zero one i) := by
  have h0 : Wf none_ := ⟨by decide, by decide, by decide⟩
  have hp : ∀ i a r, Wf a → Wf r.1 → Wf (pk i a r) := fun i a r ha hr => by unfold pk; split <;> assumption
  intro i
  match i with
  | 0 => exact h0
  | 1 => exact hp _ _ _ h0 (readR_wf _)
  | _ + 2 => exact hp _ _ _ (hp _ _ _ h0 (readR_wf _)) (readR_wf _)
set_option maxRecDepth 100000 in
set_option maxHeartbeats 1000000 in
theorem pick_any (A0 A1 : Option Addr) (c0 c1 n0 n1 : Nat) (zero one : List UInt8) (hn0 : n0 = zero.length) (hn1 : n1 = one.length) (hc0 : n0 ≤ c0) (hc1 : n1 ≤ c1) (hcm0 : c0 ≤ maxLen) (hcm1 : c1 ≤ maxLen) (w : World) (hJ0 : Bytes w w.heap.size A0 zero) (hJ1 : Bytes w w.heap.size A1 one) :
    Calls Try.prog 65 #[.slice A0 n0 c0, .slice A1 n1 c1] w fun e w' => e = .returned (.tuple #[.agg (hv (Hd.pick zero one)), .bool (decide (0 < (Hd.pick zero one).serial))]) ∧ Below w.heap.size w w' := by
  have hI0 : Hid (∀ W, Below w.heap.size w W → Bytes W W.heap.size A0 zero) := Lib.hid fun W hW => hJ0.grow hW
  have hI1 : Hid (∀ W, Below w.heap.size w W → Bytes W W.heap.size A1 one) := Lib.hid fun W hW => hJ1.grow hW
  clear hJ0 hJ1
  have HN0 := Lib.hid hn0
  have HN1 := Lib.hid hn1
  clear hn0 hn1
  have q4 := (Blk.new_ w 35 #[.int .u64 0, .int .u64 0, .int .u8 0] rfl).alloc (.cells #[.int .u64 0, .int .u64 0, .int .u8 0] 35)
  have q6 := Blk.new_ (w.alloc (.cells #[.int .u64 0, .int .u64 0, .int .u8 0] 35)) 35 #[.int .u64 0, .int .u64 0, .int .u8 0] (n := w.heap.size + 1) (by simp)
  have hB := ((Below.refl w.heap.size w).alloc (Nat.le_refl _) (.cells #[.int .u64 0, .int .u64 0, .int .u8 0] 35)).alloc (by simp) (.cells #[.int .u64 0, .int .u64 0, .int .u8 0] 35)
  rw [← best_pick]
  go_enter Try.func65, Try.ntmps65
  go_wp2_with fail
  generalize (w.alloc (.cells #[.int .u64 0, .int .u64 0, .int .u8 0] 35)).alloc (.cells #[.int .u64 0, .int .u64 0, .int .u8 0] 35) = w2 at *
  go_loopw [14] (fun ix wr => ∃ (i : Nat) (h : H), (i = 0 ∧ ix = .int .i64 0 ∨ i = 1 ∧ ix = .int .i64 1 ∨ i = 2 ∧ ix = .int .i64 2) ∧ h = best zero one i ∧ Blk wr (w.heap.size + 1) 35 (hv h) ∧ Blk wr w.heap.size 35 #[.int .u64 0, .int .u64 0, .int .u8 0] ∧ Below w.heap.size w wr) (fun ix _ => 2 - (intOf ix).toNat)
  case atStart => exact ⟨0, none_, .inl ⟨rfl, rfl⟩, rfl, q6, q4, hB⟩
  case round =>
    clear q4 q6 hB
    obtain ⟨i, h, hi, hh, hq6, hq4, hB⟩ := hrel
    rcases hi with ⟨rfl, rfl⟩ | ⟨rfl, rfl⟩ | ⟨rfl, rfl⟩
    · obtain ⟨⟨⟨s, e, l⟩, ok⟩, hRz⟩ : ∃ r, readR zero = r := ⟨_, rfl⟩
      have hwf := readR_wf zero
      have HST : Hid (best zero one 1 = pk 0 h (⟨s, e, l⟩, ok)) := Lib.hid (by rw [← hRz, hh]; rfl)
      rw [hRz] at hwf
      obtain ⟨ws, we, wl⟩ : s < 18446744073709551616 ∧ e < 18446744073709551616 ∧ l < 256 := ⟨hwf.serial, hwf.epoch, hwf.live⟩
      obtain ⟨h0, h1, h2⟩ := h
      have hix := fun W => (index_two (.slice A0 n0 c0) (.slice A1 n1 c1) W).1
      have hRd := fun W hW => read_any A0 c0 zero n0 HN0.out hc0 hcm0 W (hI0.out W hW)
      rw [hRz] at hRd
      simp only [hv] at hRd hq6
      clear hRz hh hwf
      go_wp2_with fail
      refine Calls.mono (hRd _ hB) ?_
      rintro en y1 ⟨rfl, hb⟩
      have r6 := hq6.below hb hq6.lt
      have r4 := hq4.below hb hq4.lt
      have hB2 := hB.trans (hb.mono hB.size)
      clear hB hb hRd hq6 hq4
      have hq9 := Blk.new_ y1 35 #[.int .u64 (s : Nat), .int .u64 (e : Nat), .int .u8 (l : Nat)] rfl
      have q6 := r6.alloc (.cells #[.int .u64 (s : Nat), .int .u64 (e : Nat), .int .u8 (l : Nat)] 35)
      have q4 := r4.alloc (.cells #[.int .u64 (s : Nat), .int .u64 (e : Nat), .int .u8 (l : Nat)] 35)
      have hB := hB2.alloc hB2.size (.cells #[.int .u64 (s : Nat), .int .u64 (e : Nat), .int .u8 (l : Nat)] 35)
      have ne6 : ¬ y1.heap.size = w.heap.size + 1 := (Nat.ne_of_lt r6.lt).symm
      have ne4 : w.heap.size ≠ w.heap.size + 1 := by omega
      clear r6 r4 hB2
      go_upto_region 6 with fail
      generalize y1.alloc (.cells #[.int .u64 (s : Nat), .int .u64 (e : Nat), .int .u8 (l : Nat)] 35) = V at *
      cases ok
      · have HS : Hid (best zero one 1 = ⟨h0, h1, h2⟩) := Lib.hid (by rw [HST.out]; unfold pk; simp)
        clear hq9 HST
        go_wp2_with fail
        go_roundw
        case rel => exact ⟨1, ⟨h0, h1, h2⟩, (.inr (.inl ⟨rfl, by go_num⟩)), HS.out.symm, q6, q4, hB⟩
        case measure => simp [intOf]
      · have f0 := Blk.at_ hq9 0 (v := .int .u64 (s : Nat)) rfl
        have f1 := Blk.at_ hq9 1 (v := .int .u64 (e : Nat)) rfl
        have f2 := Blk.at_ hq9 2 (v := .int .u8 (l : Nat)) rfl
        go_wp2_with fail
        refine Calls.mono (slot_any s e l ws V) ?_
        rintro en y2 ⟨rfl, hb⟩
        have r6 := q6.below hb q6.lt
        have r4 := q4.below hb q4.lt
        have r9 := hq9.below hb hq9.lt
        have hB2 := hB.trans (hb.mono hB.size)
        clear q6 q4 hq9 hB hb f0 f1 f2
        have f0 := Blk.at_ r9 0 (v := .int .u64 (s : Nat)) rfl
        have f1 := Blk.at_ r9 1 (v := .int .u64 (e : Nat)) rfl
        have f2 := Blk.at_ r9 2 (v := .int .u8 (l : Nat)) rfl
        have z0 := Blk.at_ r6 0 (v := .int .u64 (h0 : Nat)) rfl
        have z1 := Blk.at_ r6 1 (v := .int .u64 (h1 : Nat)) rfl
        have z2 := Blk.at_ r6 2 (v := .int .u8 (h2 : Nat)) rfl
        have zf := r6.frozen
        by_cases hp : s % 2 = 0
        · by_cases hlt : h0 < s
          · have HS : Hid (best zero one 1 = ⟨s, e, l⟩) := Lib.hid (by rw [HST.out]; unfold pk; rw [if_pos ⟨rfl, hp, hlt⟩])
            have u1 : (h0 : Int) < (s : Int) := by omega
            rw [hp]
            clear HST hp hlt
            go_wp2_with fail
            have q6 := ((r6.set_ 0 (.int .u64 (s : Nat))).set_ 1 (.int .u64 (e : Nat))).set_ 2 (.int .u8 (l : Nat))
            have q4 := ((r4.farN (o := 0) ne4 (.int .u64 (s : Nat))).farN (o := 1) ne4 (.int .u64 (e : Nat))).farN (o := 2) ne4 (.int .u8 (l : Nat))
            have hB4 := ((hB2.setCell (p := ⟨w.heap.size + 1, 0, none⟩) (Nat.le_succ _) (.int .u64 (s : Nat))).setCell (p := ⟨w.heap.size + 1, 1, none⟩) (Nat.le_succ _) (.int .u64 (e : Nat))).setCell (p := ⟨w.heap.size + 1, 2, none⟩) (Nat.le_succ _) (.int .u8 (l : Nat))
            go_roundw
            case rel => exact ⟨1, ⟨s, e, l⟩, (.inr (.inl ⟨rfl, by go_num⟩)), HS.out.symm, q6, q4, hB4⟩
            case measure => simp [intOf]
          · have HS : Hid (best zero one 1 = ⟨h0, h1, h2⟩) := Lib.hid (by rw [HST.out]; unfold pk; rw [if_neg (fun h => hlt h.2.2)])
            have u1 : ¬ (h0 : Int) < (s : Int) := by omega
            rw [hp]
            clear HST hp hlt
            go_wp2_with fail
            go_roundw
            case rel => exact ⟨1, ⟨h0, h1, h2⟩, (.inr (.inl ⟨rfl, by go_num⟩)), HS.out.symm, r6, r4, hB2⟩
            case measure => simp [intOf]
        · have HS : Hid (best zero one 1 = ⟨h0, h1, h2⟩) := Lib.hid (by rw [HST.out]; unfold pk; rw [if_neg (fun h => hp h.2.1)])
          obtain ⟨m, hm⟩ : ∃ m, m = s % 2 := ⟨_, rfl⟩
          rw [← hm] at hp ⊢
          have u1 : ¬ (m : Int) = 0 := by omega
          clear HST hp hm
          go_wp2_with fail
          go_roundw
          case rel => exact ⟨1, ⟨h0, h1, h2⟩, (.inr (.inl ⟨rfl, by go_num⟩)), HS.out.symm, r6, r4, hB2⟩
          case measure => simp [intOf]
    · obtain ⟨⟨⟨s, e, l⟩, ok⟩, hRz⟩ : ∃ r, readR one = r := ⟨_, rfl⟩
      have hwf := readR_wf one
      have HST : Hid (best zero one 2 = pk 1 h (⟨s, e, l⟩, ok)) := Lib.hid (by rw [← hRz, hh]; rfl)
      rw [hRz] at hwf
      obtain ⟨ws, we, wl⟩ : s < 18446744073709551616 ∧ e < 18446744073709551616 ∧ l < 256 := ⟨hwf.serial, hwf.epoch, hwf.live⟩
      obtain ⟨h0, h1, h2⟩ := h
      have hix := fun W => (index_two (.slice A0 n0 c0) (.slice A1 n1 c1) W).2
      have hRd := fun W hW => read_any A1 c1 one n1 HN1.out hc1 hcm1 W (hI1.out W hW)
      rw [hRz] at hRd
      simp only [hv] at hRd hq6
      clear hRz hh hwf
      go_wp2_with fail
      refine Calls.mono (hRd _ hB) ?_
      rintro en y1 ⟨rfl, hb⟩
      have r6 := hq6.below hb hq6.lt
      have r4 := hq4.below hb hq4.lt
      have hB2 := hB.trans (hb.mono hB.size)
      clear hB hb hRd hq6 hq4
      have hq9 := Blk.new_ y1 35 #[.int .u64 (s : Nat), .int .u64 (e : Nat), .int .u8 (l : Nat)] rfl
      have q6 := r6.alloc (.cells #[.int .u64 (s : Nat), .int .u64 (e : Nat), .int .u8 (l : Nat)] 35)
      have q4 := r4.alloc (.cells #[.int .u64 (s : Nat), .int .u64 (e : Nat), .int .u8 (l : Nat)] 35)
      have hB := hB2.alloc hB2.size (.cells #[.int .u64 (s : Nat), .int .u64 (e : Nat), .int .u8 (l : Nat)] 35)
      have ne6 : ¬ y1.heap.size = w.heap.size + 1 := (Nat.ne_of_lt r6.lt).symm
      have ne4 : w.heap.size ≠ w.heap.size + 1 := by omega
      clear r6 r4 hB2
      go_upto_region 6 with fail
      generalize y1.alloc (.cells #[.int .u64 (s : Nat), .int .u64 (e : Nat), .int .u8 (l : Nat)] 35) = V at *
      cases ok
      · have HS : Hid (best zero one 2 = ⟨h0, h1, h2⟩) := Lib.hid (by rw [HST.out]; unfold pk; simp)
        clear hq9 HST
        go_wp2_with fail
        go_roundw
        case rel => exact ⟨2, ⟨h0, h1, h2⟩, (.inr (.inr ⟨rfl, by go_num⟩)), HS.out.symm, q6, q4, hB⟩
        case measure => simp [intOf]
      · have f0 := Blk.at_ hq9 0 (v := .int .u64 (s : Nat)) rfl
        have f1 := Blk.at_ hq9 1 (v := .int .u64 (e : Nat)) rfl
        have f2 := Blk.at_ hq9 2 (v := .int .u8 (l : Nat)) rfl
        go_wp2_with fail
        refine Calls.mono (slot_any s e l ws V) ?_
        rintro en y2 ⟨rfl, hb⟩
        have r6 := q6.below hb q6.lt
        have r4 := q4.below hb q4.lt
        have r9 := hq9.below hb hq9.lt
        have hB2 := hB.trans (hb.mono hB.size)
        clear q6 q4 hq9 hB hb f0 f1 f2
        have f0 := Blk.at_ r9 0 (v := .int .u64 (s : Nat)) rfl
        have f1 := Blk.at_ r9 1 (v := .int .u64 (e : Nat)) rfl
        have f2 := Blk.at_ r9 2 (v := .int .u8 (l : Nat)) rfl
        have z0 := Blk.at_ r6 0 (v := .int .u64 (h0 : Nat)) rfl
        have z1 := Blk.at_ r6 1 (v := .int .u64 (h1 : Nat)) rfl
        have z2 := Blk.at_ r6 2 (v := .int .u8 (h2 : Nat)) rfl
        have zf := r6.frozen
        by_cases hp : s % 2 = 1
        · by_cases hlt : h0 < s
          · have HS : Hid (best zero one 2 = ⟨s, e, l⟩) := Lib.hid (by rw [HST.out]; unfold pk; rw [if_pos ⟨rfl, hp, hlt⟩])
            have u1 : (h0 : Int) < (s : Int) := by omega
            rw [hp]
            clear HST hp hlt
            go_wp2_with fail
            have q6 := ((r6.set_ 0 (.int .u64 (s : Nat))).set_ 1 (.int .u64 (e : Nat))).set_ 2 (.int .u8 (l : Nat))
            have q4 := ((r4.farN (o := 0) ne4 (.int .u64 (s : Nat))).farN (o := 1) ne4 (.int .u64 (e : Nat))).farN (o := 2) ne4 (.int .u8 (l : Nat))
            have hB4 := ((hB2.setCell (p := ⟨w.heap.size + 1, 0, none⟩) (Nat.le_succ _) (.int .u64 (s : Nat))).setCell (p := ⟨w.heap.size + 1, 1, none⟩) (Nat.le_succ _) (.int .u64 (e : Nat))).setCell (p := ⟨w.heap.size + 1, 2, none⟩) (Nat.le_succ _) (.int .u8 (l : Nat))
            go_roundw
            case rel => exact ⟨2, ⟨s, e, l⟩, (.inr (.inr ⟨rfl, by go_num⟩)), HS.out.symm, q6, q4, hB4⟩
            case measure => simp [intOf]
          · have HS : Hid (best zero one 2 = ⟨h0, h1, h2⟩) := Lib.hid (by rw [HST.out]; unfold pk; rw [if_neg (fun h => hlt h.2.2)])
            have u1 : ¬ (h0 : Int) < (s : Int) := by omega
            rw [hp]
            clear HST hp hlt
            go_wp2_with fail
            go_roundw
            case rel => exact ⟨2, ⟨h0, h1, h2⟩, (.inr (.inr ⟨rfl, by go_num⟩)), HS.out.symm, r6, r4, hB2⟩
            case measure => simp [intOf]
        · have HS : Hid (best zero one 2 = ⟨h0, h1, h2⟩) := Lib.hid (by rw [HST.out]; unfold pk; rw [if_neg (fun h => hp h.2.1)])
          obtain ⟨m, hm⟩ : ∃ m, m = s % 2 := ⟨_, rfl⟩
          rw [← hm] at hp ⊢
          have u1 : ¬ (m : Int) = 1 := by omega
          clear HST hp hm
          go_wp2_with fail
          go_roundw
          case rel => exact ⟨2, ⟨h0, h1, h2⟩, (.inr (.inr ⟨rfl, by go_num⟩)), HS.out.symm, r6, r4, hB2⟩
          case measure => simp [intOf]
    · obtain ⟨⟨h0, h1, h2⟩, HH⟩ : ∃ x, best zero one 2 = x := ⟨_, rfl⟩
      have hh := hh.trans HH
      subst hh
      simp only [hv] at hq6
      have HH := Lib.hid HH
      have q6 := hq6.drew
      have q4 := hq4.drew
      have hB2 := hB.drew
      have ne6 : w.heap.size + 1 ≠ w.heap.size := by omega
      go_upto_region 9 with fail
      refine wp_region_heldG [] (fun _ W => W.cell? ⟨w.heap.size + 1, 0, none⟩ = some (.int .u64 (h0 : Nat)) ∧ W.cell? ⟨w.heap.size + 1, 1, none⟩ = some (.int .u64 (h1 : Nat)) ∧ W.cell? ⟨w.heap.size + 1, 2, none⟩ = some (.int .u8 (h2 : Nat))) (by kernel_rfl) ?_
      change wpAnyG _ _ _ _ _ _ 6 _ _ (World.drew _)
      generalize wr.drew = V at *
      clear hq6 hq4 hB
      have hS : V.cell? ⟨w.heap.size + 1, 0, none⟩ = some (.int .u64 (h0 : Nat)) ∧ V.cell? ⟨w.heap.size + 1, 1, none⟩ = some (.int .u64 (h1 : Nat)) ∧ V.cell? ⟨w.heap.size + 1, 2, none⟩ = some (.int .u8 (h2 : Nat)) := ⟨Blk.at_ q6 0 rfl, Blk.at_ q6 1 rfl, Blk.at_ q6 2 rfl⟩
      have HS2 : Hid ((((V.setCell ⟨w.heap.size, 0, none⟩ (.int .u64 (h0 : Nat))).setCell ⟨w.heap.size, 1, none⟩ (.int .u64 (h1 : Nat))).setCell ⟨w.heap.size, 2, none⟩ (.int .u8 (h2 : Nat))).cell? ⟨w.heap.size + 1, 0, none⟩ = some (.int .u64 (h0 : Nat)) ∧ (((V.setCell ⟨w.heap.size, 0, none⟩ (.int .u64 (h0 : Nat))).setCell ⟨w.heap.size, 1, none⟩ (.int .u64 (h1 : Nat))).setCell ⟨w.heap.size, 2, none⟩ (.int .u8 (h2 : Nat))).cell? ⟨w.heap.size + 1, 1, none⟩ = some (.int .u64 (h1 : Nat)) ∧ (((V.setCell ⟨w.heap.size, 0, none⟩ (.int .u64 (h0 : Nat))).setCell ⟨w.heap.size, 1, none⟩ (.int .u64 (h1 : Nat))).setCell ⟨w.heap.size, 2, none⟩ (.int .u8 (h2 : Nat))).cell? ⟨w.heap.size + 1, 2, none⟩ = some (.int .u8 (h2 : Nat))) :=
        Lib.hid ⟨Blk.at_ (((q6.farN (o := 0) ne6 (.int .u64 (h0 : Nat))).farN (o := 1) ne6 (.int .u64 (h1 : Nat))).farN (o := 2) ne6 (.int .u8 (h2 : Nat))) 0 rfl, Blk.at_ (((q6.farN (o := 0) ne6 (.int .u64 (h0 : Nat))).farN (o := 1) ne6 (.int .u64 (h1 : Nat))).farN (o := 2) ne6 (.int .u8 (h2 : Nat))) 1 rfl, Blk.at_ (((q6.farN (o := 0) ne6 (.int .u64 (h0 : Nat))).farN (o := 1) ne6 (.int .u64 (h1 : Nat))).farN (o := 2) ne6 (.int .u8 (h2 : Nat))) 2 rfl⟩
      have HQ4 := Lib.hid q4
      clear q4 q6
      -- take0 take1 take2 take3 one4 take5 done
      refine g_take (i := 0) rfl rfl (by kernel_rfl) (by kernel_rfl) (by kernel_rfl) (by kernel_rfl) (by kernel_rfl) (fun _ _ _ h => h) hS (fun L W hL hW => by have q1 := hW.1; have q2 := hW.2.1; have q3 := hW.2.2; go_simp; rfl) ?_
      refine g_take (i := 1) rfl rfl (by kernel_rfl) (by kernel_rfl) (by kernel_rfl) (by kernel_rfl) (by kernel_rfl) (fun _ _ _ h => h) hS (fun L W hL hW => by go_simp; rfl) ?_
      refine g_take (i := 2) rfl rfl (by kernel_rfl) (by kernel_rfl) (by kernel_rfl) (by kernel_rfl) (by kernel_rfl) (fun _ _ _ h => h) hS (fun L W hL hW => by have q1 := hW.1; have q2 := hW.2.1; have q3 := hW.2.2; go_simp; rfl) ?_
      refine g_take (i := 3) rfl rfl (by kernel_rfl) (by kernel_rfl) (by kernel_rfl) (by kernel_rfl) (by kernel_rfl) (fun _ _ _ h => h) hS (fun L W hL hW => by go_simp; rfl) ?_
      refine g_one (i := 4) rfl rfl (by kernel_rfl) fun K hK => ?_
      have z0 := Blk.at_ HQ4.out 0 (v := .int .u64 0) rfl
      have z1 := Blk.at_ HQ4.out 1 (v := .int .u64 0) rfl
      have z2 := Blk.at_ HQ4.out 2 (v := .int .u8 0) rfl
      have zf := HQ4.out.frozen
      go_simp
      clear z0 z1 z2 zf
      refine hK _ _ HS2.out ?_
      clear hK K
      refine g_take (i := 5) rfl rfl (by kernel_rfl) (by kernel_rfl) (by kernel_rfl) (by kernel_rfl) (by kernel_rfl) (fun _ _ _ h => h) HS2.out (fun L W hL hW => by go_simp; rfl) ?_
      refine wpAnyG_done (by kernel_rfl) ?_ _
      go_simp
      have hB3 := ((hB2.setCell (p := ⟨w.heap.size, 0, none⟩) (Nat.le_refl _) (.int .u64 (h0 : Nat))).setCell (p := ⟨w.heap.size, 1, none⟩) (Nat.le_refl _) (.int .u64 (h1 : Nat))).setCell (p := ⟨w.heap.size, 2, none⟩) (Nat.le_refl _) (.int .u8 (h2 : Nat))
      have q4 := ((HQ4.out.set_ 0 (.int .u64 (h0 : Nat))).set_ 1 (.int .u64 (h1 : Nat))).set_ 2 (.int .u8 (h2 : Nat))
      go_wp2_with fail
      refine bodyPost_ret (results_cell_row2 rfl _ _ w.heap.size 35 #[.int .u64 (h0 : Nat), .int .u64 (h1 : Nat), .int .u8 (h2 : Nat)] (0, 0) _ rfl q4.out Try.underlying35 rfl (by kernel_rfl)) rfl ?_
      rw [HH.out]
      exact ⟨rfl, hB3⟩
end Go.Proofs.Ytmkijkkddoamgaa.HdW

namespace Go.Proofs.Ytmkijkkddoamgaa.HdW
set_option linter.unusedVariables false
open Go Go.RowKit Go.Shelf Go.Proofs Go.Proofs.Ytmkijkkddoamgaa Go.Proofs.Ytmkijkkddoamgaa.Wd Go.Proofs.Ytmkijkkddoamgaa.Dk Go.Proofs.Ytmkijkkddoamgaa.Hd

section
variable {w wa : World} {base : Nat} {F F2 : Nat → Prop} {g : Nat} {s : DS}
theorem next_set3 (hA : At wa base F2 g s) (hf : Fr F w wa) (hs : ∀ k, F2 k → F k ∨ w.heap.size ≤ k) {r : Nat} (hr : w.heap.size ≤ r) (n2 : ¬ F2 r) (a b c : Value) : Dk.Next w base F g s (((wa.setCell ⟨r, 0, none⟩ a).setCell ⟨r, 1, none⟩ b).setCell ⟨r, 2, none⟩ c) :=
  ⟨F2, hA.fr (G := fun k => k = r) (((Fr.setCell (F := fun k => k = r) (p := ⟨r, 0, none⟩) (Fr.refl (fun k => k = r) wa) (.inl rfl) a).setCell (p := ⟨r, 1, none⟩) (.inl rfl) b).setCell (p := ⟨r, 2, none⟩) (.inl rfl) c) (fun k hk e => n2 (e ▸ hk)), ((hf.setCell (p := ⟨r, 0, none⟩) (.inr hr) a).setCell (p := ⟨r, 1, none⟩) (.inr hr) b).setCell (p := ⟨r, 2, none⟩) (.inr hr) c, hs⟩
/-- What Load answers. -/
def loadR (s : DS) : H × Nat := if s.dead then (none_, 3) else if 0 < (Hd.pick (hd s 0) (hd s 1)).serial then (Hd.pick (hd s 0) (hd s 1), 0) else (none_, 50)
set_option maxRecDepth 100000 in
set_option maxHeartbeats 1000000 in
theorem load_any (h : At w base F g s) : Calls Try.prog 45 #[.pointer (some ⟨g, 0, none⟩)] w fun e w' => e = .returned (.tuple #[.agg (hv (loadR s).1), .int .i64 ((loadR s).2 : Nat)]) ∧ Dk.Next w base F g s w' := by
  have q := Blk.new_ w 35 #[.int .u64 0, .int .u64 0, .int .u8 0] rfl
  have hBx := (Below.refl w.heap.size w).alloc (Nat.le_refl _) (.cells #[.int .u64 0, .int .u64 0, .int .u8 0] 35)
  have hA1 := h.below hBx
  have hF2 : ¬ F w.heap.size := fun e => by have := (h.lt e).2; omega
  have hf1 := Fr.of_below hBx F
  have hlt := q.lt
  clear hBx h
  go_enter Try.func45, Try.ntmps45
  go_wp2_with fail
  generalize w.alloc (.cells #[.int .u64 0, .int .u64 0, .int .u8 0] 35) = w1 at *
  have hT := trunc_any hA1 0 (-1)
  cases hd0 : s.dead
  · have ht : trD s 0 (-1) = (2, s) := by unfold trD; rw [hd0]; simp
    rw [ht] at hT
    have HR0 : Hid (loadR s = if 0 < (Hd.pick (hd s 0) (hd s 1)).serial then (Hd.pick (hd s 0) (hd s 1), 0) else (none_, 50)) := Lib.hid (by unfold loadR; rw [hd0]; rfl)
    clear ht hd0
    refine Calls.mono hT ?_
    rintro e w2 ⟨rfl, F2, hA2, hf2, hs2⟩
    have q2 := q.fr hf2 hF2
    have hf12 := hf1.trans hf2 (fun i hi => .inl hi)
    have hs : ∀ k, F2 k → F k ∨ w.heap.size ≤ k := fun k hk => (hs2 k hk).imp_right (fun h => by omega)
    have n2 : ¬ F2 w.heap.size := fun e => (hs2 _ e).elim hF2 (fun h => by omega)
    clear hT hA1 hf1 hf2 hs2 hF2 q
    go_wp2_with fail
    obtain ⟨z, hz⟩ : ∃ z, z = hd s 0 := ⟨_, rfl⟩
    obtain ⟨o, ho⟩ : ∃ o, o = hd s 1 := ⟨_, rfl⟩
    rw [← hz, ← ho] at HR0
    have hH0 := head_any hA2 0
    rw [← hz] at hH0
    refine Calls.mono hH0 ?_
    rintro e w3 ⟨A0, c0, rfl, hl0, hm0, hJ0, hb3, -⟩
    have hA3 := hA2.below hb3
    have q3 := q2.below hb3 q2.lt
    have hf3 := hf12.trans (Fr.of_below hb3 F) (fun i hi => .inl hi)
    have hH1 := head_any hA3 1
    rw [← ho] at hH1
    obtain ⟨n0, hn0⟩ : ∃ n, n = z.length := ⟨_, rfl⟩
    rw [← hn0] at hl0 ⊢
    have HN0 := Lib.hid hn0
    clear hH0 hA2 q2 hf12 hb3 hz ho hn0 hlt
    go_wp2_with fail
    refine Calls.mono hH1 ?_
    rintro e w4 ⟨A1, c1, rfl, hl1, hm1, hJ1, hb4, -⟩
    have hA4 := hA3.below hb4
    have q4 := q3.below hb4 q3.lt
    have hf4 := hf3.trans (Fr.of_below hb4 F) (fun i hi => .inl hi)
    have hJ0' := hJ0.grow hb4
    obtain ⟨n1, hn1⟩ : ∃ n, n = o.length := ⟨_, rfl⟩
    rw [← hn1] at hl1 ⊢
    have hP := pick_any A0 A1 c0 c1 n0 n1 z o HN0.out hn1 hl0 hl1 hm0 hm1 w4 hJ0' hJ1
    have HN1 := Lib.hid hn1
    clear hH1 hA3 q3 hf3 hb4 hn1 hJ0 hJ0' hJ1 hm0 hm1
    obtain ⟨⟨p0, p1, p2⟩, hp⟩ : ∃ p, Hd.pick z o = p := ⟨_, rfl⟩
    rw [hp] at hP HR0
    simp only [hv] at hP
    go_wp2_with fail
    refine Calls.mono hP ?_
    rintro e w5 ⟨rfl, hb5⟩
    have hA5 := hA4.below hb5
    have q5 := q4.below hb5 q4.lt
    have hf5 := hf4.trans (Fr.of_below hb5 F) (fun i hi => .inl hi)
    have hB6 := (Below.refl w5.heap.size w5).alloc (Nat.le_refl _) (.cells #[.int .u64 (p0 : Nat), .int .u64 (p1 : Nat), .int .u8 (p2 : Nat)] 35)
    have qp := Blk.new_ w5 35 #[.int .u64 (p0 : Nat), .int .u64 (p1 : Nat), .int .u8 (p2 : Nat)] rfl
    have hA := hA5.below hB6
    have q := q5.below hB6 q5.lt
    have hf := hf5.trans (Fr.of_below hB6 F) (fun i hi => .inl hi)
    clear hA5 q5 hf5 hA4 q4 hf4 hb5 hP hB6
    go_upto_region 5 with fail
    generalize w5.alloc (.cells #[.int .u64 (p0 : Nat), .int .u64 (p1 : Nat), .int .u8 (p2 : Nat)] 35) = w6 at *
    have z0 := Blk.at_ q 0 (v := .int .u64 0) rfl
    have z1 := Blk.at_ q 1 (v := .int .u64 0) rfl
    have z2 := Blk.at_ q 2 (v := .int .u8 0) rfl
    have zf := q.frozen
    have f0 := Blk.at_ qp 0 (v := .int .u64 (p0 : Nat)) rfl
    have f1 := Blk.at_ qp 1 (v := .int .u64 (p1 : Nat)) rfl
    have f2 := Blk.at_ qp 2 (v := .int .u8 (p2 : Nat)) rfl
    by_cases hpos : 0 < p0
    · have HR : Hid (loadR s = (⟨p0, p1, p2⟩, 0)) := Lib.hid (by rw [HR0.out]; exact if_pos hpos)
      have u1 : decide (0 < p0) = true := by simpa using hpos
      simp only [u1]
      clear HR0 hpos hp u1
      go_wp2_with fail
      have q9 := ((q.set_ 0 (.int .u64 (p0 : Nat))).set_ 1 (.int .u64 (p1 : Nat))).set_ 2 (.int .u8 (p2 : Nat))
      refine bodyPost_ret (results_cell_row2 rfl _ _ w.heap.size 35 #[.int .u64 (p0 : Nat), .int .u64 (p1 : Nat), .int .u8 (p2 : Nat)] (0, 0) _ rfl q9.out Try.underlying35 rfl (by kernel_rfl)) rfl ?_
      rw [HR.out]
      exact ⟨rfl, next_set3 hA hf hs (Nat.le_refl _) n2 _ _ _⟩
    · have HR : Hid (loadR s = (none_, 50)) := Lib.hid (by rw [HR0.out]; exact if_neg hpos)
      have u1 : decide (0 < p0) = false := by simpa using hpos
      simp only [u1]
      clear HR0 hpos hp u1
      go_wp2_with fail
      have q9 := ((q.set_ 0 (.int .u64 0)).set_ 1 (.int .u64 0)).set_ 2 (.int .u8 0)
      refine bodyPost_ret (results_cell_row2 rfl _ _ w.heap.size 35 #[.int .u64 0, .int .u64 0, .int .u8 0] (0, 0) _ rfl q9.out Try.underlying35 rfl (by kernel_rfl)) rfl ?_
      rw [HR.out]
      exact ⟨rfl, next_set3 hA hf hs (Nat.le_refl _) n2 _ _ _⟩
  · have ht : trD s 0 (-1) = (3, s) := by unfold trD; rw [hd0]; simp
    rw [ht] at hT
    have HR : Hid (loadR s = (none_, 3)) := Lib.hid (by unfold loadR; rw [hd0]; rfl)
    clear ht hd0
    refine Calls.mono hT ?_
    rintro e w2 ⟨rfl, F2, hA, hf2, hs2⟩
    have q2 := q.fr hf2 hF2
    have hf := hf1.trans hf2 (fun i hi => .inl hi)
    have hs : ∀ k, F2 k → F k ∨ w.heap.size ≤ k := fun k hk => (hs2 k hk).imp_right (fun h => by omega)
    have n2 : ¬ F2 w.heap.size := fun e => (hs2 _ e).elim hF2 (fun h => by omega)
    clear hT hA1 hf1 hf2 hs2 hF2 q
    have q := q2
    have z0 := Blk.at_ q 0 (v := .int .u64 0) rfl
    have z1 := Blk.at_ q 1 (v := .int .u64 0) rfl
    have z2 := Blk.at_ q 2 (v := .int .u8 0) rfl
    have zf := q.frozen
    go_wp2_with fail
    have q9 := ((q.set_ 0 (.int .u64 0)).set_ 1 (.int .u64 0)).set_ 2 (.int .u8 0)
    refine bodyPost_ret (results_cell_row2 rfl _ _ w.heap.size 35 #[.int .u64 0, .int .u64 0, .int .u8 0] (0, 0) _ rfl q9.out Try.underlying35 rfl (by kernel_rfl)) rfl ?_
    rw [HR.out]
    exact ⟨rfl, next_set3 hA hf hs (Nat.le_refl _) n2 _ _ _⟩
end
set_option maxRecDepth 100000 in
set_option maxHeartbeats 1000000 in
theorem load_non {w : World} {o : Option Addr} (h : Non w o) : Calls Try.prog 45 #[.pointer o] w fun e w' => e = .returned (.tuple #[.agg (hv none_), .int .i64 1]) ∧ Below w.heap.size w w' := by
  have q := Blk.new_ w 35 #[.int .u64 0, .int .u64 0, .int .u8 0] rfl
  have hBx := (Below.refl w.heap.size w).alloc (Nat.le_refl _) (.cells #[.int .u64 0, .int .u64 0, .int .u8 0] 35)
  have h1 := h.below hBx
  go_enter Try.func45, Try.ntmps45
  go_wp2_with fail
  generalize w.alloc (.cells #[.int .u64 0, .int .u64 0, .int .u8 0] 35) = w1 at *
  refine Calls.mono (trunc_non h1 0 (-1)) ?_
  rintro e w2 ⟨rfl, hb⟩
  have q2 := q.below hb q.lt
  have hB := hBx.trans (hb.mono hBx.size)
  clear q hBx hb
  have q := q2
  have z0 := Blk.at_ q 0 (v := .int .u64 0) rfl
  have z1 := Blk.at_ q 1 (v := .int .u64 0) rfl
  have z2 := Blk.at_ q 2 (v := .int .u8 0) rfl
  have zf := q.frozen
  go_wp2_with fail
  have q9 := ((q.set_ 0 (.int .u64 0)).set_ 1 (.int .u64 0)).set_ 2 (.int .u8 0)
  refine bodyPost_ret (results_cell_row2 rfl _ _ w.heap.size 35 #[.int .u64 0, .int .u64 0, .int .u8 0] (0, 0) _ rfl q9.out Try.underlying35 rfl (by kernel_rfl)) rfl ?_
  exact ⟨rfl, ((hB.setCell (p := ⟨w.heap.size, 0, none⟩) (Nat.le_refl _) (.int .u64 0)).setCell (p := ⟨w.heap.size, 1, none⟩) (Nat.le_refl _) (.int .u64 0)).setCell (p := ⟨w.heap.size, 2, none⟩) (Nat.le_refl _) (.int .u8 0)⟩
end Go.Proofs.Ytmkijkkddoamgaa.HdW

namespace Go.Proofs.Ytmkijkkddoamgaa.HdW
set_option linter.unusedVariables false
open Go Go.RowKit Go.Shelf Go.Proofs Go.Proofs.Ytmkijkkddoamgaa Go.Proofs.Ytmkijkkddoamgaa.Wd Go.Proofs.Ytmkijkkddoamgaa.Dk Go.Proofs.Ytmkijkkddoamgaa.Hd

/-- A head, one serial more. -/
def up1 (h : H) : H := ⟨(h.serial + 1) % 18446744073709551616, h.epoch, h.live⟩
/-- What Save answers. -/
def saveR (s : DS) (h : H) : (H × Nat) × DS :=
  if right h = false then ((none_, 50), s) else
    let r := wrD s (h.serial % 2 : Nat) (Hd.bytes h)
    if r.1 = 0 then let q := shD r.2; if q.1 = 0 then ((h, 0), q.2) else ((none_, q.1), q.2) else ((none_, r.1), r.2)
section
variable {w : World} {base : Nat} {F : Nat → Prop} {g : Nat} {s : DS}
set_option maxRecDepth 100000 in
set_option maxHeartbeats 1000000 in
theorem save_any (h : At w base F g s) (a e l : Nat) (k : Nat) (hk : k = (a + 1) % 18446744073709551616) (wa : a < 18446744073709551616) (we : e < 18446744073709551616) (wl : l < 256) :
    Calls Try.prog 71 #[.pointer (some ⟨g, 0, none⟩), .agg #[.int .u64 a, .int .u64 e, .int .u8 l]] w fun en w' => en = .returned (.tuple #[.agg (hv (saveR s ⟨k, e, l⟩).1.1), .int .i64 ((saveR s ⟨k, e, l⟩).1.2 : Nat)]) ∧ Dk.Next w base F g (saveR s ⟨k, e, l⟩).2 w' := by
  have p := (Blk.new_ w 35 #[.int .u64 (k : Nat), .int .u64 (e : Nat), .int .u8 (l : Nat)] rfl).alloc (.cells #[.int .u64 0, .int .u64 0, .int .u8 0] 35)
  have q := Blk.new_ (w.alloc (.cells #[.int .u64 (k : Nat), .int .u64 (e : Nat), .int .u8 (l : Nat)] 35)) 35 #[.int .u64 0, .int .u64 0, .int .u8 0] (n := w.heap.size + 1) (by simp)
  have hBx := ((Below.refl w.heap.size w).alloc (Nat.le_refl _) (.cells #[.int .u64 (k : Nat), .int .u64 (e : Nat), .int .u8 (l : Nat)] 35)).alloc (by simp) (.cells #[.int .u64 0, .int .u64 0, .int .u8 0] 35)
  have Y : Hid (IntKind.u64.wrap ((a : Int) + 1) = (k : Int)) := Lib.hid (by rw [IntKind.wrap_u64]; omega)
  have wk : Wf ⟨k, e, l⟩ := ⟨by show k < _; omega, we, wl⟩
  have HP := Lib.hid p
  have HQ := Lib.hid q
  have HBY := Lib.hid hBx
  clear p q hBx
  go_enter Try.func71, Try.ntmps71
  go_upto_region 2 with fail
  rw [Y.out]
  clear Y hk
  have p := HP.out
  have q := HQ.out
  have hBx := HBY.out
  clear HP HQ HBY
  generalize (w.alloc (.cells #[.int .u64 (k : Nat), .int .u64 (e : Nat), .int .u8 (l : Nat)] 35)).alloc (.cells #[.int .u64 0, .int .u64 0, .int .u8 0] 35) = w1 at *
  have hF1 : ¬ F w.heap.size := fun e => by have := (h.lt e).2; omega
  have hF2 : ¬ F (w.heap.size + 1) := fun e => by have := (h.lt e).2; omega
  have hA1 := h.below hBx
  have hf1 := Fr.of_below hBx F
  have hlt := q.lt
  have hBy := bytes_any k e l wk w1
  clear hBx h
  have f0 := Blk.at_ p 0 (v := .int .u64 (k : Nat)) rfl
  have f1 := Blk.at_ p 1 (v := .int .u64 (e : Nat)) rfl
  have f2 := Blk.at_ p 2 (v := .int .u8 (l : Nat)) rfl
  cases hr : right ⟨k, e, l⟩
  · have HX : bytesR ⟨k, e, l⟩ = ([], 50) := by unfold bytesR; rw [hr]; rfl
    have HR : Hid (saveR s ⟨k, e, l⟩ = ((none_, 50), s)) := Lib.hid (by unfold saveR; rw [if_pos hr])
    rw [HX] at hBy
    clear hr HX
    go_wp2_with fail
    refine Calls.mono hBy ?_
    rintro en w2 ⟨A, c, rfl, hl, hm, hJ, hb, hfr⟩
    have hA := hA1.below hb
    have q2 := q.below hb q.lt
    have hf := hf1.trans (Fr.of_below hb F) (fun i hi => .inl hi)
    have hs : ∀ k, F k → F k ∨ w.heap.size ≤ k := fun _ h => .inl h
    have n2 := hF2
    clear q hb hf1 hA1 hJ hfr f0 f1 f2 p
    have q := q2
    have z0 := Blk.at_ q 0 (v := .int .u64 0) rfl
    have z1 := Blk.at_ q 1 (v := .int .u64 0) rfl
    have z2 := Blk.at_ q 2 (v := .int .u8 0) rfl
    have zf := q.frozen
    go_wp2_with fail
    have q9 := ((q.set_ 0 (.int .u64 0)).set_ 1 (.int .u64 0)).set_ 2 (.int .u8 0)
    refine bodyPost_ret (results_cell_row2 rfl _ _ (w.heap.size + 1) 35 #[.int .u64 0, .int .u64 0, .int .u8 0] (0, 0) _ rfl q9.out Try.underlying35 rfl (by kernel_rfl)) rfl ?_
    rw [HR.out]
    exact ⟨rfl, next_set3 hA hf hs (Nat.le_succ _) n2 _ _ _⟩
  · obtain ⟨b, hb0⟩ : ∃ b, b = Hd.bytes ⟨k, e, l⟩ := ⟨_, rfl⟩
    have hb32 : b.length = 32 := by rw [hb0]; rfl
    have HX : bytesR ⟨k, e, l⟩ = (b, 0) := by unfold bytesR; rw [hr, hb0]; rfl
    have HR0 : Hid (saveR s ⟨k, e, l⟩ = (let r := wrD s (k % 2 : Nat) b; if r.1 = 0 then let q := shD r.2; if q.1 = 0 then ((⟨k, e, l⟩, 0), q.2) else ((none_, q.1), q.2) else ((none_, r.1), r.2))) := Lib.hid (by unfold saveR; rw [if_neg (by rw [hr]; simp), hb0])
    rw [HX] at hBy
    clear hr HX hb0
    go_wp2_with fail
    refine Calls.mono hBy ?_
    rintro en w2 ⟨A, c, rfl, hl, hm, hJ, hb, hfr⟩
    rw [hb32] at hl ⊢
    have hA2 := hA1.below hb
    have q2 := q.below hb q.lt
    have p2 := p.below hb p.lt
    have hf2 := hf1.trans (Fr.of_below hb F) (fun i hi => .inl hi)
    have hsz := hb.size
    clear f0 f1 f2 hBy hf1 p q
    have p := p2
    have f0 := Blk.at_ p 0 (v := .int .u64 (k : Nat)) rfl
    have f1 := Blk.at_ p 1 (v := .int .u64 (e : Nat)) rfl
    have f2 := Blk.at_ p 2 (v := .int .u8 (l : Nat)) rfl
    go_wp2_with fail
    refine Calls.mono (slot_any k e l wk.serial w2) ?_
    rintro en w3 ⟨rfl, hb3⟩
    have hA3 := hA2.below hb3
    have q3 := q2.below hb3 q2.lt
    have p3 := p2.below hb3 p2.lt
    have hf3 := hf2.trans (Fr.of_below hb3 F) (fun i hi => .inl hi)
    have hJ3 := hJ.grow hb3
    have hsz3 := hb3.size
    have hW := write_any hA3 (k % 2 : Nat) (A := A) (n := 32) (c := c) hb32.symm hJ3 (fun _ x o hx hF => by
      have h1 := hfr x o hx
      have h2 := (hA1.lt hF).2
      omega)
    obtain ⟨⟨r1, s1⟩, hr1⟩ : ∃ r, wrD s (k % 2 : Nat) b = r := ⟨_, rfl⟩
    rw [hr1] at hW HR0
    obtain ⟨kk, hkk⟩ : ∃ x : Nat, x = k % 2 := ⟨_, rfl⟩
    rw [← hkk] at hW ⊢
    clear f0 f1 f2 hr1 hkk q2 p2 p hA2 hA1 hf2 hJ hJ3 hfr hb hb3
    go_wp2_with fail
    refine Calls.mono hW ?_
    rintro en w4 ⟨rfl, F4, hA4, hf4, hs4⟩
    have q4 := q3.fr hf4 hF2
    have p4 := p3.fr hf4 hF1
    have hfs := hf3.trans hf4 (fun i hi => .inl hi)
    have n2 : ¬ F4 (w.heap.size + 1) := fun e => (hs4 _ e).elim hF2 (fun h => by omega)
    have n1 : ¬ F4 w.heap.size := fun e => (hs4 _ e).elim hF1 (fun h => by omega)
    have hs : ∀ k, F4 k → F k ∨ w.heap.size ≤ k := fun k hk => (hs4 k hk).imp_right (fun h => by omega)
    clear hW q3 p3 hA3 hf3 hf4 hs4
    by_cases h0 : r1 = 0
    · subst h0
      have HR1 : Hid (saveR s ⟨k, e, l⟩ = if (shD s1).1 = 0 then ((⟨k, e, l⟩, 0), (shD s1).2) else ((none_, (shD s1).1), (shD s1).2)) := Lib.hid HR0.out
      clear HR0
      have hS := syncHead_any hA4
      obtain ⟨⟨r2, s2⟩, hr2⟩ : ∃ r, shD s1 = r := ⟨_, rfl⟩
      rw [hr2] at hS HR1
      clear hr2
      have h4 := q4.lt
      go_wp2_with fail
      refine Calls.mono hS ?_
      rintro en w5 ⟨rfl, F5, hA, hf5, hs5⟩
      have q := q4.fr hf5 n2
      have p := p4.fr hf5 n1
      have hf := hfs.trans hf5 hs
      have m2 : ¬ F5 (w.heap.size + 1) := fun e => (hs5 _ e).elim n2 (fun h => by omega)
      have hs' : ∀ k, F5 k → F k ∨ w.heap.size ≤ k := fun k hk => (hs5 k hk).elim (hs k) (fun h => .inr (by omega))
      clear n2 n1 hs q4 p4 hS hfs hA4 hf5 hs5
      have n2 := m2
      have hs := hs'
      have z0 := Blk.at_ q 0 (v := .int .u64 0) rfl
      have z1 := Blk.at_ q 1 (v := .int .u64 0) rfl
      have z2 := Blk.at_ q 2 (v := .int .u8 0) rfl
      have zf := q.frozen
      have f0 := Blk.at_ p 0 (v := .int .u64 (k : Nat)) rfl
      have f1 := Blk.at_ p 1 (v := .int .u64 (e : Nat)) rfl
      have f2 := Blk.at_ p 2 (v := .int .u8 (l : Nat)) rfl
      by_cases h5 : r2 = 0
      · subst h5
        have HR : Hid (saveR s ⟨k, e, l⟩ = ((⟨k, e, l⟩, 0), s2)) := Lib.hid HR1.out
        clear HR1
        go_wp2_with fail
        have q9 := ((q.set_ 0 (.int .u64 (k : Nat))).set_ 1 (.int .u64 (e : Nat))).set_ 2 (.int .u8 (l : Nat))
        refine bodyPost_ret (results_cell_row2 rfl _ _ (w.heap.size + 1) 35 #[.int .u64 (k : Nat), .int .u64 (e : Nat), .int .u8 (l : Nat)] (0, 0) _ rfl q9.out Try.underlying35 rfl (by kernel_rfl)) rfl ?_
        rw [HR.out]
        exact ⟨rfl, next_set3 hA hf hs (Nat.le_succ _) n2 _ _ _⟩
      · have HR : Hid (saveR s ⟨k, e, l⟩ = ((none_, r2), s2)) := Lib.hid (by rw [HR1.out]; exact if_neg h5)
        have u1 : ¬ (r2 : Int) = 0 := by omega
        clear HR1 h5
        go_wp2_with fail
        have q9 := ((q.set_ 0 (.int .u64 0)).set_ 1 (.int .u64 0)).set_ 2 (.int .u8 0)
        refine bodyPost_ret (results_cell_row2 rfl _ _ (w.heap.size + 1) 35 #[.int .u64 0, .int .u64 0, .int .u8 0] (0, 0) _ rfl q9.out Try.underlying35 rfl (by kernel_rfl)) rfl ?_
        rw [HR.out]
        exact ⟨rfl, next_set3 hA hf hs (Nat.le_succ _) n2 _ _ _⟩
    · have HR : Hid (saveR s ⟨k, e, l⟩ = ((none_, r1), s1)) := Lib.hid (by rw [HR0.out]; exact if_neg h0)
      have u1 : ¬ (r1 : Int) = 0 := by omega
      clear HR0 h0
      have q := q4
      have hA := hA4
      have hf := hfs
      clear q4 hA4 hfs
      have z0 := Blk.at_ q 0 (v := .int .u64 0) rfl
      have z1 := Blk.at_ q 1 (v := .int .u64 0) rfl
      have z2 := Blk.at_ q 2 (v := .int .u8 0) rfl
      have zf := q.frozen
      go_wp2_with fail
      have q9 := ((q.set_ 0 (.int .u64 0)).set_ 1 (.int .u64 0)).set_ 2 (.int .u8 0)
      refine bodyPost_ret (results_cell_row2 rfl _ _ (w.heap.size + 1) 35 #[.int .u64 0, .int .u64 0, .int .u8 0] (0, 0) _ rfl q9.out Try.underlying35 rfl (by kernel_rfl)) rfl ?_
      rw [HR.out]
      exact ⟨rfl, next_set3 hA hf hs (Nat.le_succ _) n2 _ _ _⟩
end
set_option maxRecDepth 100000 in
set_option maxHeartbeats 1000000 in
theorem save_non {w : World} {o : Option Addr} (h : Non w o) (a e l : Nat) (k : Nat) (hk : k = (a + 1) % 18446744073709551616) (wa : a < 18446744073709551616) (we : e < 18446744073709551616) (wl : l < 256) :
    Calls Try.prog 71 #[.pointer o, .agg #[.int .u64 a, .int .u64 e, .int .u8 l]] w fun en w' => en = .returned (.tuple #[.agg (hv none_), .int .i64 (if right ⟨k, e, l⟩ = true then 1 else 50)]) ∧ Below w.heap.size w w' := by
  obtain ⟨cd, hcd⟩ : ∃ x : Int, x = if right ⟨k, e, l⟩ = true then 1 else 50 := ⟨_, rfl⟩
  rw [← hcd]
  have HCD := Lib.hid hcd
  clear hcd
  have p := (Blk.new_ w 35 #[.int .u64 (k : Nat), .int .u64 (e : Nat), .int .u8 (l : Nat)] rfl).alloc (.cells #[.int .u64 0, .int .u64 0, .int .u8 0] 35)
  have q := Blk.new_ (w.alloc (.cells #[.int .u64 (k : Nat), .int .u64 (e : Nat), .int .u8 (l : Nat)] 35)) 35 #[.int .u64 0, .int .u64 0, .int .u8 0] (n := w.heap.size + 1) (by simp)
  have hBx := ((Below.refl w.heap.size w).alloc (Nat.le_refl _) (.cells #[.int .u64 (k : Nat), .int .u64 (e : Nat), .int .u8 (l : Nat)] 35)).alloc (by simp) (.cells #[.int .u64 0, .int .u64 0, .int .u8 0] 35)
  have Y : Hid (IntKind.u64.wrap ((a : Int) + 1) = (k : Int)) := Lib.hid (by rw [IntKind.wrap_u64]; omega)
  have wk : Wf ⟨k, e, l⟩ := ⟨by show k < _; omega, we, wl⟩
  have HP := Lib.hid p
  have HQ := Lib.hid q
  have HBY := Lib.hid hBx
  clear p q hBx
  go_enter Try.func71, Try.ntmps71
  go_upto_region 2 with fail
  rw [Y.out]
  clear Y hk
  have p := HP.out
  have q := HQ.out
  have hBx := HBY.out
  clear HP HQ HBY
  generalize (w.alloc (.cells #[.int .u64 (k : Nat), .int .u64 (e : Nat), .int .u8 (l : Nat)] 35)).alloc (.cells #[.int .u64 0, .int .u64 0, .int .u8 0] 35) = w1 at *
  have h1 := h.below (hBx.mono (Nat.le_refl _))
  have hBy := bytes_any k e l wk w1
  have f0 := Blk.at_ p 0 (v := .int .u64 (k : Nat)) rfl
  have f1 := Blk.at_ p 1 (v := .int .u64 (e : Nat)) rfl
  have f2 := Blk.at_ p 2 (v := .int .u8 (l : Nat)) rfl
  cases hr : right ⟨k, e, l⟩
  · have HX : bytesR ⟨k, e, l⟩ = ([], 50) := by unfold bytesR; rw [hr]; rfl
    rw [HX] at hBy
    obtain rfl : cd = 50 := by rw [HCD.out, hr]; rfl
    clear hr HX HCD
    go_wp2_with fail
    refine Calls.mono hBy ?_
    rintro en w2 ⟨A, c, rfl, hl, hm, hJ, hb, hfr⟩
    have q2 := q.below hb q.lt
    have hB := hBx.trans (hb.mono hBx.size)
    clear q hb h1 hJ hfr f0 f1 f2 p
    have q := q2
    have z0 := Blk.at_ q 0 (v := .int .u64 0) rfl
    have z1 := Blk.at_ q 1 (v := .int .u64 0) rfl
    have z2 := Blk.at_ q 2 (v := .int .u8 0) rfl
    have zf := q.frozen
    go_wp2_with fail
    have q9 := ((q.set_ 0 (.int .u64 0)).set_ 1 (.int .u64 0)).set_ 2 (.int .u8 0)
    refine bodyPost_ret (results_cell_row2 rfl _ _ (w.heap.size + 1) 35 #[.int .u64 0, .int .u64 0, .int .u8 0] (0, 0) _ rfl q9.out Try.underlying35 rfl (by kernel_rfl)) rfl ?_
    exact ⟨rfl, ((hB.setCell (p := ⟨w.heap.size + 1, 0, none⟩) (Nat.le_succ _) (.int .u64 0)).setCell (p := ⟨w.heap.size + 1, 1, none⟩) (Nat.le_succ _) (.int .u64 0)).setCell (p := ⟨w.heap.size + 1, 2, none⟩) (Nat.le_succ _) (.int .u8 0)⟩
  · obtain ⟨b, hb0⟩ : ∃ b, b = Hd.bytes ⟨k, e, l⟩ := ⟨_, rfl⟩
    have hb32 : b.length = 32 := by rw [hb0]; rfl
    have HX : bytesR ⟨k, e, l⟩ = (b, 0) := by unfold bytesR; rw [hr, hb0]; rfl
    rw [HX] at hBy
    obtain rfl : cd = 1 := by rw [HCD.out, hr]; rfl
    clear hr HX hb0 HCD
    go_wp2_with fail
    refine Calls.mono hBy ?_
    rintro en w2 ⟨A, c, rfl, hl, hm, hJ, hb, hfr⟩
    rw [hb32] at hl ⊢
    have q2 := q.below hb q.lt
    have p2 := p.below hb p.lt
    have hB := hBx.trans (hb.mono hBx.size)
    have h2 := h1.below hb
    clear f0 f1 f2 hBy p q h1 hb hBx
    have p := p2
    have f0 := Blk.at_ p 0 (v := .int .u64 (k : Nat)) rfl
    have f1 := Blk.at_ p 1 (v := .int .u64 (e : Nat)) rfl
    have f2 := Blk.at_ p 2 (v := .int .u8 (l : Nat)) rfl
    go_wp2_with fail
    refine Calls.mono (slot_any k e l wk.serial w2) ?_
    rintro en w3 ⟨rfl, hb3⟩
    have q3 := q2.below hb3 q2.lt
    have hB3 := hB.trans (hb3.mono hB.size)
    obtain ⟨kk, hkk⟩ : ∃ x : Nat, x = k % 2 := ⟨_, rfl⟩
    rw [← hkk]
    have hW := write_non (h2.below hb3) (kk : Nat) A 32 c
    clear f0 f1 f2 hkk q2 p2 p h2 hb3 hB
    go_wp2_with fail
    refine Calls.mono hW ?_
    rintro en w4 ⟨rfl, hb4⟩
    have q := q3.below hb4 q3.lt
    have hB := hB3.trans (hb4.mono hB3.size)
    clear q3 hB3 hb4 hW
    have z0 := Blk.at_ q 0 (v := .int .u64 0) rfl
    have z1 := Blk.at_ q 1 (v := .int .u64 0) rfl
    have z2 := Blk.at_ q 2 (v := .int .u8 0) rfl
    have zf := q.frozen
    go_wp2_with fail
    have q9 := ((q.set_ 0 (.int .u64 0)).set_ 1 (.int .u64 0)).set_ 2 (.int .u8 0)
    refine bodyPost_ret (results_cell_row2 rfl _ _ (w.heap.size + 1) 35 #[.int .u64 0, .int .u64 0, .int .u8 0] (0, 0) _ rfl q9.out Try.underlying35 rfl (by kernel_rfl)) rfl ?_
    exact ⟨rfl, ((hB.setCell (p := ⟨w.heap.size + 1, 0, none⟩) (Nat.le_succ _) (.int .u64 0)).setCell (p := ⟨w.heap.size + 1, 1, none⟩) (Nat.le_succ _) (.int .u64 0)).setCell (p := ⟨w.heap.size + 1, 2, none⟩) (Nat.le_succ _) (.int .u8 0)⟩
end Go.Proofs.Ytmkijkkddoamgaa.HdW

namespace Go.Proofs.Ytmkijkkddoamgaa.HdW
set_option linter.unusedVariables false
open Go Go.RowKit Go.Shelf Go.Proofs Go.Proofs.Ytmkijkkddoamgaa Go.Proofs.Ytmkijkkddoamgaa.Wd Go.Proofs.Ytmkijkkddoamgaa.Dk Go.Proofs.Ytmkijkkddoamgaa.Hd

/-- Alive, without a fuse. -/
structure Al (s : DS) : Prop where
  fuse : s.fuse = none
  dead : s.dead = false
theorem two_of (n : Nat) : n % 2 < 2 := Nat.mod_lt _ (by decide)
theorem save_al {s : DS} (ha : Al s) {h : H} (r : right h = true) :
    saveR s h = ((h, 0), sySs (putS (h.serial % 2) (Hd.bytes h) s) 2) := by
  unfold saveR
  rw [if_neg (by rw [r]; simp), wr_ok ha.fuse ha.dead (two_of _) (bytes_length h)]
  show (if (0 : Nat) = 0 then _ else _) = _
  rw [if_pos rfl]
  show (if (shD (putS (h.serial % 2) (Hd.bytes h) s)).1 = 0 then _ else _) = _
  rw [sh_ok (s := putS (h.serial % 2) (Hd.bytes h) s) ha.fuse ha.dead]
  rfl
/-- What a save makes of a disk. -/
def savedD (h : H) (s : DS) : DS := sySs (putS (h.serial % 2) (Hd.bytes h) s) 2
theorem saved_al {s : DS} (ha : Al s) (h : H) : Al (savedD h s) := ⟨(sySs_fuse _ 2).trans ha.fuse, (sySs_dead _).trans ha.dead⟩
theorem saved_eq {s : DS} (h : H) : sh (savedD h s) (h.serial % 2) = Hd.bytes h := (sySs_sh _ (two_of _)).trans (putS_eq _ _ _)
theorem saved_ne {s : DS} (h : H) {j : Nat} (hj : j < 2) (hne : j ≠ h.serial % 2) : sh (savedD h s) j = sh s j := (sySs_sh _ hj).trans (putS_ne hne _ _)
theorem saved_wr {s : DS} (h : H) {j : Nat} (hj : j < 2) : (savedD h s).wr j = false := (sySs_sl _ hj).2.1
theorem load_al {s : DS} (ha : Al s) : loadR s = if 0 < (Hd.pick (sh s 0) (sh s 1)).serial then (Hd.pick (sh s 0) (sh s 1), 0) else (none_, 50) := by
  unfold loadR
  have h0 : hd s 0 = sh s 0 := hd_sh ha.dead (k := 0) (by decide)
  have h1 : hd s 1 = sh s 1 := hd_sh ha.dead (k := 1) (by decide)
  rw [ha.dead, h0, h1, if_neg (by simp)]
/-- One slot has a head of its own; what the other one has does not count ahead of it. -/
theorem pick_own {x y : List UInt8} {h : H} (w : Wf h) (r : right h = true) (k : Nat) (hk : h.serial % 2 = k) (hx : (if k = 0 then x else y) = Hd.bytes h)
    (ho : ∀ g, Hd.read (if k = 0 then y else x) = some g → g.serial % 2 = k ∨ g.serial < h.serial) : Hd.pick x y = h := by
  have hpos : 0 < h.serial := by simp [right] at r; exact r.1
  rcases (by omega : k = 0 ∨ k = 1) with rfl | rfl
  · rw [if_pos rfl] at hx ho
    unfold Hd.pick
    rw [hx, read_bytes w r]
    cases hy : Hd.read y with
    | none => simp [hk]
    | some g =>
      rcases ho g hy with h1 | h1
      · simp [hk, h1]
      · simp only [hk, if_true]
        rw [if_neg (fun e => by omega)]
  · rw [if_neg (by decide)] at hx ho
    unfold Hd.pick
    rw [hx, read_bytes w r]
    cases hy : Hd.read x with
    | none => simp [hk, none_, hpos]
    | some g =>
      simp only []
      rcases ho g hy with h1 | h1
      · rw [if_neg (c := g.serial % 2 = 0) (by omega)]
        simp [hk, none_, hpos]
      · by_cases h2 : g.serial % 2 = 0
        · rw [if_pos h2, if_pos ⟨hk, h1⟩]
        · rw [if_neg h2]
          simp [hk, none_, hpos]
theorem load_own {s : DS} (ha : Al s) {h : H} (w : Wf h) (r : right h = true) (k : Nat) (hk : h.serial % 2 = k) (hx : sh s k = Hd.bytes h)
    (ho : ∀ g, Hd.read (sh s (1 - k)) = some g → g.serial % 2 = k ∨ g.serial < h.serial) : loadR s = (h, 0) := by
  have hpos : 0 < h.serial := by simp [right] at r; exact r.1
  have hp : Hd.pick (sh s 0) (sh s 1) = h := by
    refine pick_own w r k hk ?_ ?_
    · rcases (by omega : k = 0 ∨ k = 1) with rfl | rfl
      · exact hx
      · exact hx
    · rcases (by omega : k = 0 ∨ k = 1) with rfl | rfl
      · exact ho
      · exact ho
  rw [load_al ha, hp, if_pos hpos]
end Go.Proofs.Ytmkijkkddoamgaa.HdW
