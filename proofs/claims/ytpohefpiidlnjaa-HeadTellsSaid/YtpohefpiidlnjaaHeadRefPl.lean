/-
  Which bytes are a head, as the document asks it.
-/
import Derived.Test.YtpohefpiidlnjaaHeadWalks5
namespace Go.Proofs.Ytpohefpiidlnjaa.Hr
set_option linter.unusedVariables false
open Go Go.RowKit Go.Proofs Go.Proofs.Ytpohefpiidlnjaa Go.Proofs.Ytpohefpiidlnjaa.Wd
open Go.Proofs.Ytpohefpiidlnjaa.Hd (H Wf le8 un8 le8_length)
open Go.Proofs.Ytpohefpiidlnjaa.HdW (readR)
theorem le8_un8 (a0 a1 a2 a3 a4 a5 a6 a7 : UInt8) (r : List UInt8) : le8 (un8 (a0 :: a1 :: a2 :: a3 :: a4 :: a5 :: a6 :: a7 :: r)) = [a0, a1, a2, a3, a4, a5, a6, a7] := by
  have h0 := a0.toNat_lt
  have h1 := a1.toNat_lt
  have h2 := a2.toNat_lt
  have h3 := a3.toNat_lt
  have h4 := a4.toNat_lt
  have h5 := a5.toNat_lt
  have h6 := a6.toNat_lt
  have h7 := a7.toNat_lt
  have e : un8 (a0 :: a1 :: a2 :: a3 :: a4 :: a5 :: a6 :: a7 :: r) = a0.toNat + 256 * a1.toNat + 65536 * a2.toNat + 16777216 * a3.toNat + 4294967296 * a4.toNat + 1099511627776 * a5.toNat + 281474976710656 * a6.toNat + 72057594037927936 * a7.toNat := rfl
  have key : ∀ (x : UInt8) (n : Nat), n % 256 = x.toNat → UInt8.ofNat n = x := fun x n h => by apply UInt8.toNat.inj; rw [← h]; simp
  rw [e]
  unfold Hd.le8
  rw [key a0 _ (by omega), key a1 _ (by omega), key a2 _ (by omega), key a3 _ (by omega), key a4 _ (by omega), key a5 _ (by omega), key a6 _ (by omega), key a7 _ (by omega)]
/-- The seven bytes behind Live that are nought, as far as they are looked at. -/
def zeros (b : List UInt8) : Nat → Bool
  | 0 => true
  | j + 1 => zeros b j && b.getD (17 + j) 0 == 0
def okR (b : List UInt8) : Bool := Hd.right (Hd.seen b) && (un8 (b.drop 24) == un8 b)
theorem read_doc {b : List UInt8} (hb : b.length = 32) : readR b = if okR b && zeros b 7 then (Hd.seen b, true) else (Hd.none_, false) := by
  match b, hb with
  | [b0, b1, b2, b3, b4, b5, b6, b7, b8, b9, b10, b11, b12, b13, b14, b15, b16, b17, b18, b19, b20, b21, b22, b23, b24, b25, b26, b27, b28, b29, b30, b31], _ =>
    obtain ⟨l, hl⟩ : ∃ l, l = [b0, b1, b2, b3, b4, b5, b6, b7, b8, b9, b10, b11, b12, b13, b14, b15, b16, b17, b18, b19, b20, b21, b22, b23, b24, b25, b26, b27, b28, b29, b30, b31] := ⟨_, rfl⟩
    have h1 : Hd.bytes (Hd.seen l) = [b0, b1, b2, b3, b4, b5, b6, b7] ++ ([b8, b9, b10, b11, b12, b13, b14, b15] ++ (b16 :: (List.replicate 7 0 ++ [b0, b1, b2, b3, b4, b5, b6, b7]))) := by
      have e1 : (Hd.seen l).serial = un8 l := rfl
      have e2 : (Hd.seen l).epoch = un8 (l.drop 8) := rfl
      have e3 : UInt8.ofNat (Hd.seen l).live = b16 := by rw [hl]; show UInt8.ofNat b16.toNat = b16; simp
      unfold Hd.bytes
      rw [e1, e2, e3, hl]
      show le8 (un8 (b0 :: b1 :: b2 :: b3 :: b4 :: b5 :: b6 :: b7 :: _)) ++ (le8 (un8 (b8 :: b9 :: b10 :: b11 :: b12 :: b13 :: b14 :: b15 :: _)) ++ _) = _
      rw [le8_un8, le8_un8]
    have h2 : (l = Hd.bytes (Hd.seen l)) ↔ ((un8 (l.drop 24) == un8 l) && zeros l 7) = true := by
      rw [h1]
      have hz : zeros l 7 = (b17 == 0 && b18 == 0 && b19 == 0 && b20 == 0 && b21 == 0 && b22 == 0 && b23 == 0) := by rw [hl]; simp [zeros]
      have hu : (un8 (l.drop 24) == un8 l) = true ↔ (b24 = b0 ∧ b25 = b1 ∧ b26 = b2 ∧ b27 = b3 ∧ b28 = b4 ∧ b29 = b5 ∧ b30 = b6 ∧ b31 = b7) := by
        rw [beq_iff_eq]
        constructor
        · intro h
          have h3 := congrArg le8 h
          rw [hl] at h3
          have h4 : le8 (un8 (b24 :: b25 :: b26 :: b27 :: b28 :: b29 :: b30 :: b31 :: [])) = le8 (un8 (b0 :: b1 :: b2 :: b3 :: b4 :: b5 :: b6 :: b7 :: _)) := h3
          rw [le8_un8, le8_un8] at h4
          simpa using h4
        · rintro ⟨rfl, rfl, rfl, rfl, rfl, rfl, rfl, rfl⟩
          rw [hl]; rfl
      rw [Bool.and_eq_true, hu, hz, hl]
      simp only [List.cons_append, List.nil_append, List.replicate, List.cons.injEq, true_and, and_true, Bool.and_eq_true, beq_iff_eq]
      constructor
      · rintro ⟨h17, h18, h19, h20, h21, h22, h23, h24⟩
        exact ⟨h24, by simp [h17, h18, h19, h20, h21, h22, h23]⟩
      · rintro ⟨h24, ⟨⟨⟨⟨⟨h17, h18⟩, h19⟩, h20⟩, h21⟩, h22⟩, h23⟩
        exact ⟨h17, h18, h19, h20, h21, h22, h23, h24⟩
    have h3 : l.length = 32 := by rw [hl]; rfl
    rw [← hl]
    unfold HdW.readR Hd.read okR
    by_cases hr : Hd.right (Hd.seen l) = true
    · rw [hr, Bool.true_and]
      by_cases he : l = Hd.bytes (Hd.seen l)
      · rw [if_pos ⟨h3, rfl, he⟩, if_pos (h2.1 he)]
      · rw [if_neg (fun h => he h.2.2), if_neg (fun h => he (h2.2 h))]
    · rw [if_neg (fun h => hr h.2.1), Bool.eq_false_iff.2 hr]
      rfl
/-- Numbers of a part. -/
theorem un8_part (b : List UInt8) (i j : Nat) (h : i + 8 ≤ j) : un8 ((b.take j).drop i) = un8 (b.drop i) := by
  have e : ∀ k, k < 8 → ((b.take j).drop i).getD k 0 = (b.drop i).getD k 0 := fun k hk => by
    simp [show i + k < j by omega]
  unfold Hd.un8
  rw [e 0 (by omega), e 1 (by omega), e 2 (by omega), e 3 (by omega), e 4 (by omega), e 5 (by omega), e 6 (by omega), e 7 (by omega)]
/-- The one that counts, as the document tells it. -/
theorem pick_doc (zero one : List UInt8) : Hd.pick zero one =
    (let a := readR zero; let b := readR one; let x := a.2 && (a.1.serial % 2 == 0); let y := b.2 && (b.1.serial % 2 == 1);
     if ((x && y && decide (a.1.serial < b.1.serial)) || (y && !x)) = true then b.1 else if x = true then a.1 else Hd.none_) := by
  unfold Hd.pick HdW.readR
  rcases h0 : Hd.read zero with _ | a <;> rcases h1 : Hd.read one with _ | b
  · simp
  · have hr := (Hd.read_some h1).1
    have h0 : 0 < b.serial := by unfold Hd.right at hr; simp at hr; exact hr.1
    by_cases hb : b.serial % 2 = 1 <;> simp [hb, Hd.none_, h0]
  · by_cases ha : a.serial % 2 = 0 <;> simp [ha]
  · have hr := (Hd.read_some h1).1
    have h0 : 0 < b.serial := by unfold Hd.right at hr; simp at hr; exact hr.1
    by_cases ha : a.serial % 2 = 0 <;> by_cases hb : b.serial % 2 = 1 <;> simp [ha, hb, Hd.none_, h0]
theorem read_pos (b : List UInt8) (h : (readR b).2 = true) : 0 < (readR b).1.serial := by
  unfold HdW.readR at h ⊢
  rcases h0 : Hd.read b with _ | x
  · rw [h0] at h; cases h
  · have hr := (Hd.read_some h0).1
    unfold Hd.right at hr
    simp at hr
    exact hr.1
end Go.Proofs.Ytpohefpiidlnjaa.Hr
