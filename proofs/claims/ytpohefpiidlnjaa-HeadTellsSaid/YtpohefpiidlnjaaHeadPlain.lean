/-
  Heads, plainly: a number's eight bytes; what a head is written as, and which head bytes are; bytes that are torn.
-/
import Derived.Test.YtpohefpiidlnjaaWords
namespace Go.Proofs.Ytpohefpiidlnjaa.Hd
set_option linter.unusedVariables false

def le8 (n : Nat) : List UInt8 := [UInt8.ofNat n, UInt8.ofNat (n / 256), UInt8.ofNat (n / 65536), UInt8.ofNat (n / 16777216), UInt8.ofNat (n / 4294967296), UInt8.ofNat (n / 1099511627776), UInt8.ofNat (n / 281474976710656), UInt8.ofNat (n / 72057594037927936)]
def un8 (l : List UInt8) : Nat := (l.getD 0 0).toNat + 256 * (l.getD 1 0).toNat + 65536 * (l.getD 2 0).toNat + 16777216 * (l.getD 3 0).toNat + 4294967296 * (l.getD 4 0).toNat + 1099511627776 * (l.getD 5 0).toNat + 281474976710656 * (l.getD 6 0).toNat + 72057594037927936 * (l.getD 7 0).toNat
theorem le8_length (n : Nat) : (le8 n).length = 8 := rfl
theorem un8_le8 {n : Nat} (h : n < 18446744073709551616) (r : List UInt8) : un8 (le8 n ++ r) = n := by
  simp only [un8, le8, List.cons_append, List.getD_cons_zero, List.getD_cons_succ, UInt8.toNat_ofNat']
  omega
theorem un8_lt (l : List UInt8) : un8 l < 18446744073709551616 := by
  have h0 := (l.getD 0 0).toNat_lt
  have h1 := (l.getD 1 0).toNat_lt
  have h2 := (l.getD 2 0).toNat_lt
  have h3 := (l.getD 3 0).toNat_lt
  have h4 := (l.getD 4 0).toNat_lt
  have h5 := (l.getD 5 0).toNat_lt
  have h6 := (l.getD 6 0).toNat_lt
  have h7 := (l.getD 7 0).toNat_lt
  unfold un8
  omega
/-- A head. -/
structure H where
  serial : Nat
  epoch : Nat
  live : Nat
deriving DecidableEq
structure Wf (h : H) : Prop where
  serial : h.serial < 18446744073709551616
  epoch : h.epoch < 18446744073709551616
  live : h.live < 256
def none_ : H := ⟨0, 0, 0⟩
def right (h : H) : Bool := decide (0 < h.serial) && decide (h.live < 2)
def bytes (h : H) : List UInt8 := le8 h.serial ++ (le8 h.epoch ++ (UInt8.ofNat h.live :: (List.replicate 7 0 ++ le8 h.serial)))
theorem bytes_length (h : H) : (bytes h).length = 32 := rfl
def seen (b : List UInt8) : H := ⟨un8 b, un8 (b.drop 8), (b.getD 16 0).toNat⟩
def read (b : List UInt8) : Option H := if b.length = 32 ∧ right (seen b) = true ∧ b = bytes (seen b) then some (seen b) else none
theorem seen_wf (b : List UInt8) : Wf (seen b) := ⟨un8_lt _, un8_lt _, (b.getD 16 0).toNat_lt⟩
theorem seen_bytes {h : H} (w : Wf h) : seen (bytes h) = h := by
  unfold seen
  have e1 : un8 (bytes h) = h.serial := un8_le8 w.serial _
  have e2 : (bytes h).drop 8 = le8 h.epoch ++ (UInt8.ofNat h.live :: (List.replicate 7 0 ++ le8 h.serial)) := rfl
  have e3 : (bytes h).getD 16 0 = UInt8.ofNat h.live := rfl
  rw [e1, e2, e3, un8_le8 w.epoch, UInt8.toNat_ofNat']
  have := w.live
  rw [Nat.mod_eq_of_lt (by omega)]
theorem read_bytes {h : H} (w : Wf h) (r : right h = true) : read (bytes h) = some h := by
  unfold read
  rw [seen_bytes w, if_pos ⟨rfl, r, rfl⟩]
theorem read_some {b : List UInt8} {h : H} (e : read b = some h) : right h = true ∧ b = bytes h ∧ Wf h := by
  unfold read at e
  split at e
  · rename_i hh
    cases e
    exact ⟨hh.2.1, hh.2.2, seen_wf b⟩
  · cases e
theorem bytes_inj {g h : H} (wg : Wf g) (wh : Wf h) (e : bytes g = bytes h) : g = h := by
  rw [← seen_bytes wg, ← seen_bytes wh, e]
/-- The later one of two. -/
def pick (zero one : List UInt8) : H :=
  let a := match read zero with | some h => if h.serial % 2 = 0 then h else none_ | none => none_
  match read one with | some h => if h.serial % 2 = 1 ∧ a.serial < h.serial then h else a | none => a
theorem le8_inj {m n : Nat} (hm : m < 18446744073709551616) (hn : n < 18446744073709551616) (e : le8 m = le8 n) : m = n := by
  have h1 := un8_le8 hm []
  have h2 := un8_le8 hn []
  rw [← h1, ← h2, e]
/-- A torn head is the new one, the old one, or none. -/
theorem torn {a b : H} (wa : Wf a) (wb : Wf b) (hne : a.serial ≠ b.serial) {k : Nat} (hk : k ≤ 32) {x : H} (hx : read ((bytes b).take k ++ (bytes a).drop k) = some x) : x = a ∨ x = b := by
  obtain ⟨hr, e, wx⟩ := read_some hx
  have l8 : ∀ h : H, (bytes h).take 8 = le8 h.serial := fun h => rfl
  have l24 : ∀ h : H, (bytes h).drop 24 = le8 h.serial := fun h => rfl
  have m : ∀ h : H, bytes h = le8 h.serial ++ ((bytes h).drop 8) := fun h => rfl
  by_cases h24 : k ≤ 24
  · -- its end is the old one's
    have e1 : (bytes x).drop 24 = (bytes a).drop 24 := by
      rw [← e, List.drop_append, List.drop_eq_nil_of_le (by rw [List.length_take, bytes_length]; omega), List.nil_append, List.drop_drop, List.length_take, bytes_length]
      congr 1; omega
    rw [l24, l24] at e1
    have s1 := le8_inj wx.serial wa.serial e1
    left
    by_cases h8 : 8 ≤ k
    · exfalso
      have e2 : (bytes x).take 8 = (bytes b).take 8 := by
        rw [← e, List.take_append_of_le_length (by rw [List.length_take, bytes_length]; omega), List.take_take, Nat.min_eq_left h8]
      rw [l8, l8] at e2
      exact hne (s1.symm.trans (le8_inj wx.serial wb.serial e2))
    · have e2 : (bytes x).drop 8 = (bytes a).drop 8 := by
        rw [← e, List.drop_append, List.drop_eq_nil_of_le (by rw [List.length_take, bytes_length]; omega), List.nil_append, List.drop_drop, List.length_take, bytes_length]
        congr 1; omega
      refine bytes_inj wx wa ?_
      rw [m x, m a, e2, s1]
  · right
    have e1 : (bytes x).take 8 = (bytes b).take 8 := by
      rw [← e, List.take_append_of_le_length (by rw [List.length_take, bytes_length]; omega), List.take_take, Nat.min_eq_left (by omega)]
    rw [l8, l8] at e1
    have s1 := le8_inj wx.serial wb.serial e1
    have e2 : (bytes x).take 24 = (bytes b).take 24 := by
      rw [← e, List.take_append_of_le_length (by rw [List.length_take, bytes_length]; omega), List.take_take, Nat.min_eq_left (by omega)]
    refine bytes_inj wx wb ?_
    rw [← List.take_append_drop 24 (bytes x), ← List.take_append_drop 24 (bytes b), e2, l24, l24, s1]
end Go.Proofs.Ytpohefpiidlnjaa.Hd
