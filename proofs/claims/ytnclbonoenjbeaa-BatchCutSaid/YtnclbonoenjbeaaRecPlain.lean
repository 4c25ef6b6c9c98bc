/-
  Records, plainly: a number's four bytes, what a record is written as, and which record bytes are.
-/
import Derived.Test.YtnclbonoenjbeaaCrcPlain2
namespace Go.Proofs.Ytnclbonoenjbeaa.Rec
open Go.Proofs.Ytnclbonoenjbeaa.Crc (sumB sumB_lt)

def four (n : Nat) : List UInt8 := [UInt8.ofNat n, UInt8.ofNat (n / 256), UInt8.ofNat (n / 65536), UInt8.ofNat (n / 16777216)]
def number (b : List UInt8) : Nat := (b.getD 0 0).toNat + 256 * (b.getD 1 0).toNat + 65536 * (b.getD 2 0).toNat + 16777216 * (b.getD 3 0).toNat
theorem four_length (n : Nat) : (four n).length = 4 := rfl
theorem number_lt (b : List UInt8) : number b < 4294967296 := by
  unfold number
  have h0 := (b.getD 0 0).toNat_lt; have h1 := (b.getD 1 0).toNat_lt; have h2 := (b.getD 2 0).toNat_lt; have h3 := (b.getD 3 0).toNat_lt
  omega
theorem number_four {n : Nat} (h : n < 4294967296) (r : List UInt8) : number (four n ++ r) = n := by
  simp only [number, four, List.cons_append, List.getD_cons_zero, List.getD_cons_succ, UInt8.toNat_ofNat']
  omega
theorem four_number {a b c d : UInt8} : four (number [a, b, c, d]) = [a, b, c, d] := by
  have h0 := a.toNat_lt; have h1 := b.toNat_lt; have h2 := c.toNat_lt; have h3 := d.toNat_lt
  have e : ∀ (u : UInt8) (m : Nat), m % 256 = u.toNat → UInt8.ofNat m = u := fun u m hm => UInt8.toNat_inj.1 (by rw [UInt8.toNat_ofNat']; exact hm)
  simp only [number, four, List.getD_cons_zero, List.getD_cons_succ, List.cons.injEq, and_true]
  exact ⟨e _ _ (by omega), e _ _ (by omega), e _ _ (by omega), e _ _ (by omega)⟩

/-- A record: its kind, its bytes. -/
abbrev R := UInt8 × List UInt8
def fine (k : UInt8) : Bool := decide (1 ≤ k.toNat) && decide (k.toNat ≤ 2)
def rest (r : R) : List UInt8 := r.1 :: (four r.2.length ++ r.2)
def bytes (r : R) : List UInt8 := four (sumB (rest r)) ++ rest r
theorem rest_length (r : R) : (rest r).length = r.2.length + 5 := by simp [rest, four_length]; omega
theorem bytes_length (r : R) : (bytes r).length = r.2.length + 9 := by simp [bytes, four_length, rest_length]; omega
/-- How many bytes a record takes. -/
def longOf (n : Int) : Int := if 0 ≤ n ∧ n ≤ 4096 then 9 + n else 0
/-- The error of a record that may not be written; 0: none. -/
def putErr (r : R) : Nat := if fine r.1 then (if r.2.length ≤ 4096 then 0 else 31) else 30
/-- The error of bytes whose first record is none; 0: none. -/
def takeErr (b : List UInt8) : Nat :=
  if b.length < 9 then 32 else if 4096 < number (b.drop 5) then 31 else if b.length < 9 + number (b.drop 5) then 32
  else if sumB ((b.take (9 + number (b.drop 5))).drop 4) ≠ number b then 33 else if fine (b.getD 4 0) then 0 else 30
def takeEnd (b : List UInt8) : Nat := 9 + number (b.drop 5)
def takeRec (b : List UInt8) : R := (b.getD 4 0, (b.take (takeEnd b)).drop 9)
theorem takeEnd_le {b : List UInt8} (h : takeErr b = 0) : 9 ≤ b.length ∧ takeEnd b ≤ b.length ∧ number (b.drop 5) ≤ 4096 ∧ sumB ((b.take (takeEnd b)).drop 4) = number b ∧ fine (b.getD 4 0) = true := by
  unfold takeErr at h
  split at h
  · cases h
  split at h
  · cases h
  split at h
  · cases h
  split at h
  · cases h
  split at h
  · rename_i h1 h2 h3 h4 h5
    exact ⟨by omega, by unfold takeEnd; omega, by omega, by simpa [takeEnd] using h4, h5⟩
  · cases h
end Go.Proofs.Ytnclbonoenjbeaa.Rec
