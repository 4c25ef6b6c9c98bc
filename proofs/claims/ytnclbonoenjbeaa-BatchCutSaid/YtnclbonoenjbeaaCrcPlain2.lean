/-
  Plain arithmetic of check sums, over bytes: joined rows, three rows without carry, rows that differ in few places.
-/
import Derived.Test.YtnclbonoenjbeaaCrcPlain
namespace Go.Proofs.Ytnclbonoenjbeaa.Crc

def nums (l : List UInt8) : List Nat := l.map UInt8.toNat
theorem nums_lt (l : List UInt8) : ∀ b ∈ nums l, b < 256 := by
  intro b hb
  obtain ⟨x, _, rfl⟩ := List.mem_map.1 hb
  exact x.toNat_lt
theorem nums_append (a b : List UInt8) : nums (a ++ b) = nums a ++ nums b := List.map_append
theorem nums_length (a : List UInt8) : (nums a).length = a.length := List.length_map _
/-- The sum of bytes. -/
def sumB (l : List UInt8) : Nat := sum (nums l)
theorem sumB_lt (l : List UInt8) : sumB l < 4294967296 := sum_lt _ (nums_lt l)
theorem sumB_snoc (l : List UInt8) (b : UInt8) : sumB (l ++ [b]) = nxt (sumB l) b.toNat := by
  unfold sumB; rw [nums_append]; exact sum_snoc _ _
theorem sumB_append (a b : List UInt8) : sumB (a ++ b) = join (sumB a) (sumB b) b.length := by
  unfold sumB join; rw [nums_append, sum_append, nums_length]

theorem xor_twice (a b : Nat) : a ^^^ (a ^^^ b) = b := by rw [← Nat.xor_assoc, Nat.xor_self, Nat.zero_xor]
theorem xor_left (a b c : Nat) : a ^^^ (b ^^^ c) = b ^^^ (a ^^^ c) := by rw [← Nat.xor_assoc, Nat.xor_comm a b, Nat.xor_assoc]
theorem sum_three : ∀ l : List (Nat × Nat × Nat), sum (l.map fun p => p.1 ^^^ p.2.1 ^^^ p.2.2) = sum (l.map (·.1)) ^^^ sum (l.map (·.2.1)) ^^^ sum (l.map (·.2.2)) := by
  suffices h : ∀ r : List (Nat × Nat × Nat), sum (r.reverse.map fun p => p.1 ^^^ p.2.1 ^^^ p.2.2) = sum (r.reverse.map (·.1)) ^^^ sum (r.reverse.map (·.2.1)) ^^^ sum (r.reverse.map (·.2.2)) by
    intro l; simpa using h l.reverse
  intro r
  induction r with
  | nil => decide
  | cons p r ih =>
    simp only [List.reverse_cons, List.map_append, List.map_cons, List.map_nil, sum_snoc, ih]
    rw [nxt_eq, nxt_eq (sum (r.reverse.map (·.1))), nxt_eq (sum (r.reverse.map (·.2.1))), nxt_eq (sum (r.reverse.map (·.2.2))), nxt0, nxt0, nxt0, nxt0]
    simp only [tab_xor]
    generalize tab (sum _) = x1; generalize tab (sum _) = x2; generalize tab (sum _) = x3
    generalize tab p.1 = u1; generalize tab p.2.1 = u2; generalize tab p.2.2 = u3
    generalize top = t; generalize tab t = v
    simp only [Nat.xor_comm, xor_left, xor_twice]

/-- Rows of one length, one of which is the other without carry with a third. -/
theorem sum_diff (l l' d : List UInt8) (h1 : l'.length = l.length) (h2 : d.length = l.length) (h : ∀ i (hi : i < l.length), l'[i]'(by omega) = l[i] ^^^ d[i]'(by omega)) : sumB l ^^^ sumB l' = lin (nums d) := by
  have e1 : nums l = ((nums l).zip (nums l')).map (·.1) := by rw [List.map_fst_zip (by simp [nums]; omega)]
  have e2 : nums l' = ((nums l).zip (nums l')).map (·.2) := by rw [List.map_snd_zip (by simp [nums]; omega)]
  have e3 : nums d = ((nums l).zip (nums l')).map fun p => p.1 ^^^ p.2 := by
    apply List.ext_getElem
    · simp [nums]; omega
    · intro i hi _
      have hil : i < l.length := by simp [nums] at hi; omega
      simp only [nums, List.getElem_map, List.getElem_zip]
      rw [h i hil, UInt8.toNat_xor, xor_twice]
  unfold sumB
  rw [e3, ← sum_xor, ← e1, ← e2]
theorem sum_same {l l' d : List UInt8} (h1 : l'.length = l.length) (h2 : d.length = l.length) (h : ∀ i (hi : i < l.length), l'[i]'(by omega) = l[i] ^^^ d[i]'(by omega)) : sumB l' = sumB l ↔ lin (nums d) = 0 := by
  rw [← sum_diff l l' d h1 h2 h]
  constructor
  · intro e; rw [e, Nat.xor_self]
  · intro e; exact (xor_eq_zero e).symm

/-! Four bytes beside one another. -/
theorem iter_tab_inj (k : Nat) {a : Nat} (ha : a < 4294967296) (h : iter tab k a = 0) : a = 0 :=
  iter_inj (fun _ => tab_lt) (fun _ _ => tab_inj) k ha (by decide) (h.trans (iter_tab_zero k).symm)
theorem lin_zero_of (l : List Nat) (h : ∀ x ∈ l, x = 0) : lin l = 0 := by
  have : l = List.replicate l.length 0 := List.eq_replicate_iff.2 ⟨rfl, h⟩
  rw [this, lin_zeros]
theorem lin_window (z m t : List Nat) (hz : ∀ x ∈ z, x = 0) (ht : ∀ x ∈ t, x = 0) (hm : m.length ≤ 4) (hb : ∀ x ∈ m, x < 256) : lin (z ++ m ++ t) = 0 ↔ ∀ x ∈ m, x = 0 := by
  constructor
  · intro h
    rw [lin_append, lin_append, lin_zero_of z hz, lin_zero_of t ht, iter_tab_zero, Nat.xor_zero, Nat.zero_xor] at h
    have h0 := iter_tab_inj _ (lin_lt m hb) h
    have h4 : lin (m ++ List.replicate (4 - m.length) 0) = 0 := by rw [lin_append, h0, iter_tab_zero, lin_zeros]; rfl
    match m, hm, hb, h4 with
    | [], _, _, _ => simp
    | [a], _, hb, h4 =>
      have := lin_four (hb a (by simp)) (b := 0) (by omega) (c := 0) (by omega) (d := 0) (by omega) h4
      simp; omega
    | [a, b], _, hb, h4 =>
      have := lin_four (hb a (by simp)) (hb b (by simp)) (c := 0) (by omega) (d := 0) (by omega) h4
      simp; omega
    | [a, b, c], _, hb, h4 =>
      have := lin_four (hb a (by simp)) (hb b (by simp)) (hb c (by simp)) (d := 0) (by omega) h4
      simp; omega
    | [a, b, c, d], _, hb, h4 =>
      have := lin_four (hb a (by simp)) (hb b (by simp)) (hb c (by simp)) (hb d (by simp)) h4
      simp; omega
    | _ :: _ :: _ :: _ :: _ :: _, hm, _, _ => simp at hm
  · intro h
    apply lin_zero_of
    intro x hx
    simp only [List.mem_append] at hx
    rcases hx with (hx | hx) | hx
    · exact hz x hx
    · exact h x hx
    · exact ht x hx

/-! One bit, and two. -/
def bitRow (n p : Nat) : List Nat := List.replicate (p / 8) 0 ++ [2 ^ (p % 8)] ++ List.replicate (n - 1 - p / 8) 0
theorem lin_bitRow {n p : Nat} (hp : p < 8 * n) : lin (bitRow n p) ≠ 0 := by
  unfold bitRow; rw [lin_bit n p hp]; exact one_bit hp
theorem lin_bits {n p q : Nat} (hn : n ≤ 300) (hp : p < 8 * n) (hq : q < 8 * n) (h : lin (bitRow n p) = lin (bitRow n q)) : p = q := by
  unfold bitRow at h
  rw [lin_bit n p hp, lin_bit n q hq] at h
  rcases Nat.lt_trichotomy p q with hl | rfl | hg
  · exact absurd h (two_bits hn hp hq hl)
  · rfl
  · exact absurd h.symm (two_bits hn hq hp hg)
theorem bitRow_length {n p : Nat} (hp : p < 8 * n) : (bitRow n p).length = n := by simp [bitRow]; omega
theorem bitRow_get {n p : Nat} (hp : p < 8 * n) (i : Nat) (hi : i < (bitRow n p).length) : (bitRow n p)[i] = if i = p / 8 then 2 ^ (p % 8) else 0 := by
  have hn := bitRow_length hp
  unfold bitRow at hi ⊢
  rw [List.getElem_append]
  split
  · rename_i h
    rw [List.getElem_append]
    split
    · rename_i h2
      simp at h2
      rw [if_neg (by omega)]; simp
    · rename_i h2
      simp at h h2
      rw [if_pos (by omega)]; simp
  · rename_i h
    simp at h
    rw [if_neg (by omega)]; simp
/-- One bit of a row turned about. -/
def turn (l : List UInt8) (p : Nat) : List UInt8 := l.set (p / 8) ((l[p / 8]?.getD 0) ^^^ UInt8.ofNat (2 ^ (p % 8)))
theorem turn_length (l : List UInt8) (p : Nat) : (turn l p).length = l.length := by simp [turn]
theorem pow_lt (p : Nat) : 2 ^ (p % 8) < 256 := Nat.lt_of_lt_of_le (Nat.pow_lt_pow_right (by omega) (show p % 8 < 8 by omega)) (by decide)
theorem turn_get (l : List UInt8) (p i : Nat) (hi : i < l.length) : (turn l p)[i]'(by rw [turn_length]; exact hi) = l[i] ^^^ (if i = p / 8 then UInt8.ofNat (2 ^ (p % 8)) else 0) := by
  unfold turn
  rw [List.getElem_set]
  by_cases h : p / 8 = i
  · rw [if_pos h, if_pos h.symm]; subst h; simp [hi]
  · rw [if_neg h, if_neg (fun e => h e.symm)]; simp
def bitBytes (n p : Nat) : List UInt8 := (bitRow n p).map UInt8.ofNat
theorem nums_bitBytes {n p : Nat} (hp : p < 8 * n) : nums (bitBytes n p) = bitRow n p := by
  unfold nums bitBytes
  rw [List.map_map]
  apply List.ext_getElem
  · simp
  · intro i h1 h2
    simp only [List.getElem_map, Function.comp_apply]
    rw [bitRow_get hp i h2]
    split
    · rw [UInt8.toNat_ofNat_of_lt' (by simp [UInt8.size]; exact pow_lt p)]
    · rfl
theorem turn_sum {l : List UInt8} {p : Nat} (hp : p < 8 * l.length) : sumB (turn l p) ≠ sumB l := by
  intro h
  have hb : (bitBytes l.length p).length = l.length := by simp [bitBytes, bitRow_length hp]
  have := (sum_same (l := l) (l' := turn l p) (d := bitBytes l.length p) (turn_length l p) hb (fun i hi => by
    rw [turn_get l p i hi]
    simp only [bitBytes, List.getElem_map]
    rw [bitRow_get hp]
    split <;> rfl)).1 h
  rw [nums_bitBytes hp] at this
  exact lin_bitRow hp this
theorem turn_turn {l : List UInt8} {p q : Nat} (hl : l.length ≤ 300) (hp : p < 8 * l.length) (hq : q < 8 * l.length) : sumB (turn (turn l p) q) = sumB l ↔ p = q := by
  have h1 : sumB l ^^^ sumB (turn l p) = lin (bitRow l.length p) := by
    rw [← nums_bitBytes hp]
    exact sum_diff l _ _ (turn_length l p) (by simp [bitBytes, bitRow_length hp]) (fun i hi => by
      rw [turn_get l p i hi]; simp only [bitBytes, List.getElem_map]; rw [bitRow_get hp]; split <;> rfl)
  have hq' : q < 8 * (turn l p).length := by rw [turn_length]; exact hq
  have h2 : sumB (turn l p) ^^^ sumB (turn (turn l p) q) = lin (bitRow l.length q) := by
    rw [← nums_bitBytes hq]
    exact sum_diff _ _ _ (turn_length _ q) (by simp [bitBytes, bitRow_length hq, turn_length]) (fun i hi => by
      rw [turn_get _ q i hi]; simp only [bitBytes, List.getElem_map]; rw [bitRow_get hq]; split <;> rfl)
  constructor
  · intro h
    rw [h, Nat.xor_comm] at h2
    exact lin_bits hl hp hq (h1.symm.trans h2)
  · rintro rfl
    rw [← h1] at h2
    have := congrArg (sumB (turn l p) ^^^ ·) h2
    simp only [xor_twice] at this
    rw [this, Nat.xor_comm (sumB l), xor_twice]
end Go.Proofs.Ytnclbonoenjbeaa.Crc
