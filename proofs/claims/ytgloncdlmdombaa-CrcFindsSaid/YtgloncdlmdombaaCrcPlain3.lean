/-
  Plain arithmetic: up to four bytes beside one another, turned about one by one.
-/
import Derived.Test.YtgloncdlmdombaaCrcPlain2
namespace Go.Proofs.Ytgloncdlmdombaa.Crc

def xorAt (l : List UInt8) (p : Nat) (v : UInt8) : List UInt8 := l.set p (l.getD p 0 ^^^ v)
theorem xorAt_length (l : List UInt8) (p : Nat) (v : UInt8) : (xorAt l p v).length = l.length := by simp [xorAt]
theorem xorAt_get (l : List UInt8) (p : Nat) (v : UInt8) (i : Nat) (hi : i < l.length) : (xorAt l p v)[i]'(by rw [xorAt_length]; exact hi) = l[i] ^^^ (if i = p then v else 0) := by
  unfold xorAt
  rw [List.getElem_set]
  by_cases h : p = i
  · subst h; simp [hi]
  · rw [if_neg h, if_neg (fun e => h e.symm)]; simp
theorem xorAt_out (l : List UInt8) (p : Nat) (v : UInt8) (h : l.length ≤ p) : xorAt l p v = l := by unfold xorAt; exact List.set_eq_of_length_le h
theorem xorAt_zero (l : List UInt8) (p : Nat) : xorAt l p 0 = l := by
  apply List.ext_getElem
  · exact xorAt_length _ _ _
  · intro i h1 h2
    rw [xorAt_get l p 0 i h2]; simp
/-- After k of the four. -/
def fl (b : List UInt8) (p : Nat) (x : Nat → UInt8) : Nat → List UInt8
  | 0 => b
  | k + 1 => xorAt (fl b p x k) (p + k) (x k)
def tn (n p : Nat) (x : Nat → UInt8) : Nat → Bool
  | 0 => false
  | k + 1 => tn n p x k || (decide (p + k < n) && x k != 0)
theorem fl_length (b : List UInt8) (p : Nat) (x : Nat → UInt8) (k : Nat) : (fl b p x k).length = b.length := by
  induction k with
  | zero => rfl
  | succ k ih => rw [fl, xorAt_length, ih]
theorem fl_four (b : List UInt8) (p : Nat) (x : Nat → UInt8) (hp : p < b.length) : sumB (fl b p x 4) = sumB b ↔ tn b.length p x 4 = false := by
  have hd : ([x 0, x 1, x 2, x 3].take (b.length - p)).length ≤ 4 := by simp; omega
  have hlen : (List.replicate p (0 : UInt8) ++ [x 0, x 1, x 2, x 3].take (b.length - p) ++ List.replicate (b.length - p - 4) (0 : UInt8)).length = b.length := by simp; omega
  have hget : ∀ i (hi : i < b.length), (fl b p x 4)[i]'(by rw [fl_length]; exact hi) = b[i] ^^^ (List.replicate p (0 : UInt8) ++ [x 0, x 1, x 2, x 3].take (b.length - p) ++ List.replicate (b.length - p - 4) (0 : UInt8))[i]'(by rw [hlen]; exact hi) := by
    intro i hi
    have e : (List.replicate p (0 : UInt8) ++ [x 0, x 1, x 2, x 3].take (b.length - p) ++ List.replicate (b.length - p - 4) (0 : UInt8))[i]'(by rw [hlen]; exact hi) = if i = p then x 0 else if i = p + 1 then x 1 else if i = p + 2 then x 2 else if i = p + 3 then x 3 else 0 := by
      rw [List.getElem_append]
      split
      · rename_i h
        rw [List.getElem_append]
        split
        · rename_i h2
          simp at h2
          rw [if_neg (by omega), if_neg (by omega), if_neg (by omega), if_neg (by omega)]; simp
        · rename_i h2
          simp at h h2
          have hj : i - p < 4 := by omega
          simp only [List.length_replicate, List.getElem_take]
          obtain ⟨j, rfl⟩ : ∃ j, i = p + j := ⟨i - p, by omega⟩
          have hj4 : j < 4 := by omega
          match j, hj4 with
          | 0, _ => simp
          | 1, _ => simp
          | 2, _ => simp
          | 3, _ => simp
      · rename_i h
        simp at h
        rw [if_neg (by omega), if_neg (by omega), if_neg (by omega), if_neg (by omega)]; simp
    rw [e]
    simp only [fl]
    rw [xorAt_get _ _ _ i (by simp only [xorAt_length]; exact hi), xorAt_get _ _ _ i (by simp only [xorAt_length]; exact hi), xorAt_get _ _ _ i (by simp only [xorAt_length]; exact hi), xorAt_get _ _ _ i hi, Nat.add_zero]
    by_cases h0 : i = p
    · rw [if_pos h0, if_pos h0, if_neg (by omega), if_neg (by omega), if_neg (by omega)]; simp
    by_cases h1 : i = p + 1
    · rw [if_neg h0, if_neg h0, if_pos h1, if_pos h1, if_neg (by omega), if_neg (by omega)]; simp
    by_cases h2 : i = p + 2
    · rw [if_neg h0, if_neg h0, if_neg h1, if_neg h1, if_pos h2, if_pos h2, if_neg (by omega)]; simp
    · rw [if_neg h0, if_neg h0, if_neg h1, if_neg h1, if_neg h2, if_neg h2]; simp
  rw [sum_same (fl_length b p x 4) hlen hget]
  rw [show nums (List.replicate p (0 : UInt8) ++ [x 0, x 1, x 2, x 3].take (b.length - p) ++ List.replicate (b.length - p - 4) (0 : UInt8)) = nums (List.replicate p 0) ++ nums ([x 0, x 1, x 2, x 3].take (b.length - p)) ++ nums (List.replicate (b.length - p - 4) 0) by rw [nums_append, nums_append]]
  have hz : ∀ n, ∀ y ∈ nums (List.replicate n (0 : UInt8)), y = 0 := by
    intro n y hy
    simp only [nums, List.map_replicate] at hy
    exact (List.mem_replicate.1 hy).2
  rw [lin_window _ _ _ (hz p) (hz _) (by rw [nums_length]; exact hd) (nums_lt _)]
  have hx : ∀ u : UInt8, u.toNat = 0 ↔ u = 0 := fun u => ⟨fun h => UInt8.toNat_inj.1 h, fun h => by rw [h]; rfl⟩
  simp only [tn, Bool.false_or, Bool.or_eq_false_iff, Bool.and_eq_false_iff, decide_eq_false_iff_not, bne_eq_false_iff_eq, Nat.add_zero]
  have key : ∀ n, n = b.length - p → ((∀ y ∈ nums ([x 0, x 1, x 2, x 3].take n), y = 0) ↔ ((((¬ 0 < n ∨ x 0 = 0) ∧ (¬ 1 < n ∨ x 1 = 0)) ∧ (¬ 2 < n ∨ x 2 = 0)) ∧ (¬ 3 < n ∨ x 3 = 0))) := by
    intro n _
    match n with
    | 0 => simp [nums]
    | 1 => simp [nums, hx]
    | 2 => simp [nums, hx]
    | 3 => simp [nums, hx, and_assoc]
    | n + 4 => simp [nums, hx, and_assoc, List.take_of_length_le]
  rw [key _ rfl]
  have e0 : (0 < b.length - p) ↔ (p < b.length) := by omega
  have e1 : (1 < b.length - p) ↔ (p + 1 < b.length) := by omega
  have e2 : (2 < b.length - p) ↔ (p + 2 < b.length) := by omega
  have e3 : (3 < b.length - p) ↔ (p + 3 < b.length) := by omega
  rw [e0, e1, e2, e3]
end Go.Proofs.Ytgloncdlmdombaa.Crc
