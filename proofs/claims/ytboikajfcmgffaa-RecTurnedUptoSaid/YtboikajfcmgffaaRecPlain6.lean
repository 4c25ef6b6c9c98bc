/-
  Records put one behind the other, a bit turned about.
-/
import Derived.Test.YtboikajfcmgffaaRecPlain5
namespace Go.Proofs.Ytboikajfcmgffaa.Rec
set_option linter.unusedVariables false
open Go.Proofs.Ytboikajfcmgffaa.Crc (sumB sumB_lt turn turn_sum turn_length turn_get)

theorem turn_set (l : List UInt8) (p : Nat) : turn l p = l.set (p / 8) ((l[p / 8]?.getD 0) ^^^ UInt8.ofNat (2 ^ (p % 8))) := rfl
theorem turn_append_left (a b : List UInt8) (p : Nat) (h : p / 8 < a.length) : turn (a ++ b) p = turn a p ++ b := by
  rw [turn_set, turn_set, List.set_append_left _ _ h, List.getElem?_append_left h]
theorem turn_append_right (a b : List UInt8) (p : Nat) (h : a.length ≤ p / 8) : turn (a ++ b) p = a ++ turn b (p - 8 * a.length) := by
  have e1 : (p - 8 * a.length) / 8 = p / 8 - a.length := by omega
  have e2 : (p - 8 * a.length) % 8 = p % 8 := by omega
  rw [turn_set, turn_set, List.set_append_right _ _ h, List.getElem?_append_right h, e1, e2]
theorem pow_ne (p : Nat) (x : UInt8) : x ^^^ UInt8.ofNat (2 ^ (p % 8)) ≠ x := by
  intro h
  have h2 : UInt8.ofNat (2 ^ (p % 8)) = 0 := by
    have := congrArg (fun y => x ^^^ y) h
    simpa [← UInt8.xor_assoc] using this
  have h3 := congrArg UInt8.toNat h2
  rw [UInt8.toNat_ofNat_of_lt' (by simp [UInt8.size]; exact Crc.pow_lt p)] at h3
  have := Nat.two_pow_pos (p % 8)
  simp at h3
theorem turn_ne (l : List UInt8) (p : Nat) (h : p / 8 < l.length) : turn l p ≠ l := by
  intro he
  have h1 := turn_get l p (p / 8) h
  rw [if_pos rfl] at h1
  have h2 : (turn l p)[p / 8]'(by rw [turn_length]; exact h) = l[p / 8] := by congr 1
  rw [h2] at h1
  exact pow_ne p _ h1.symm
theorem turn_drop (l : List UInt8) (p n : Nat) (h : n ≤ p / 8) : (turn l p).drop n = turn (l.drop n) (p - 8 * n) := by
  rcases Nat.lt_or_ge (l.length) n with hl | hl
  · rw [List.drop_eq_nil_of_le (by rw [turn_length]; omega), List.drop_eq_nil_of_le (by omega)]; rfl
  · conv => lhs; rw [← List.take_append_drop n l]
    rw [turn_append_right _ _ _ (by rw [List.length_take]; omega)]
    have : (l.take n).length = n := by rw [List.length_take]; omega
    rw [List.drop_append_of_le_length (by omega), List.drop_of_length_le (by omega), this, List.nil_append]
theorem turn_take_keep (l : List UInt8) (p n : Nat) (h : n ≤ p / 8) : (turn l p).take n = l.take n := by
  rw [turn_set, List.take_set, List.set_eq_of_length_le (by rw [List.length_take]; omega)]
theorem turn_drop_keep (l : List UInt8) (p n : Nat) (h : p / 8 < n) : (turn l p).drop n = l.drop n := by
  rw [turn_set, List.drop_set, if_pos h]
theorem number_of_take {a b : List UInt8} (h : a.take 4 = b.take 4) : number a = number b := by
  have ha : number a = number (a.take 4) := by
    unfold number; rcases a with _ | ⟨x0, _ | ⟨x1, _ | ⟨x2, _ | ⟨x3, r⟩⟩⟩⟩ <;> simp
  have hb : number b = number (b.take 4) := by
    unfold number; rcases b with _ | ⟨x0, _ | ⟨x1, _ | ⟨x2, _ | ⟨x3, r⟩⟩⟩⟩ <;> simp
  rw [ha, hb, h]
theorem take_of_number {a b : List UInt8} (ha : 4 ≤ a.length) (hb : 4 ≤ b.length) (h : number a = number b) : a.take 4 = b.take 4 := by
  have key : ∀ l : List UInt8, 4 ≤ l.length → four (number l) = l.take 4 := fun l hl => by
    rcases l with _ | ⟨x0, _ | ⟨x1, _ | ⟨x2, _ | ⟨x3, r⟩⟩⟩⟩
    · simp at hl
    · simp at hl
    · simp at hl
    · simp at hl
    · have : number (x0 :: x1 :: x2 :: x3 :: r) = number [x0, x1, x2, x3] := by simp [number]
      rw [this, four_number]; rfl
  rw [← key a ha, ← key b hb, h]
theorem take_turned {r : R} (h : putErr r = 0) (more : List UInt8) (q : Nat) (hq : q / 8 < (bytes r).length) (hno : ¬ (5 ≤ q / 8 ∧ q / 8 < 9)) : takeErr (turn (bytes r) q ++ more) ≠ 0 := by
  intro he
  obtain ⟨hf, hl⟩ := putErr_zero h
  have hlen := bytes_length r
  obtain ⟨h9, hle, h4096, hsum, _⟩ := takeEnd_le he
  have hYl : (turn (bytes r) q).length = (bytes r).length := turn_length _ _
  have hd5 : (bytes r).drop 5 = four r.2.length ++ r.2 := by
    have := bytes_app r []
    rw [List.append_nil] at this
    rw [this]; simp [four]
  have hd4 : (bytes r).drop 4 = rest r := by unfold bytes; simp [four]
  have hnb : number (bytes r) = sumB (rest r) := by
    have := bytes_app r []
    rw [List.append_nil] at this
    rw [this]; exact number_four (sumB_lt _) _
  have hn5 : number ((turn (bytes r) q ++ more).drop 5) = r.2.length := by
    rw [List.drop_append_of_le_length (by omega)]
    have e : ((turn (bytes r) q).drop 5 ++ more).take 4 = (four r.2.length ++ (r.2 ++ more)).take 4 := by
      rw [List.take_append_of_le_length (by rw [List.length_drop]; omega), List.take_append_of_le_length (by rw [four_length]; omega)]
      rcases Nat.lt_or_ge (q / 8) 5 with h5 | h5
      · rw [turn_drop_keep _ _ _ h5, hd5, List.take_append_of_le_length (by rw [four_length]; omega)]
      · rw [turn_drop _ _ _ h5, turn_take_keep _ _ _ (by omega), hd5, List.take_append_of_le_length (by rw [four_length]; omega)]
    rw [number_of_take e]; exact number_four (by omega) _
  have hE : takeEnd (turn (bytes r) q ++ more) = (turn (bytes r) q).length := by unfold takeEnd; rw [hn5, hYl, hlen]; omega
  rw [hE, List.take_left] at hsum
  have hnY : number (turn (bytes r) q ++ more) = number (turn (bytes r) q) := number_of_take (by rw [List.take_append_of_le_length (by omega)])
  rw [hnY] at hsum
  rcases Nat.lt_or_ge (q / 8) 4 with h4 | h4
  · rw [turn_drop_keep _ _ _ h4, hd4, ← hnb] at hsum
    have ht := take_of_number (by omega) (by omega) hsum
    have hw : (turn (bytes r) q) = bytes r := by
      rw [← List.take_append_drop 4 (turn (bytes r) q), ← ht, turn_drop_keep _ _ _ h4, List.take_append_drop]
    exact turn_ne _ _ hq hw
  · rw [turn_drop _ _ _ h4, hd4, number_of_take (turn_take_keep (bytes r) q 4 h4), hnb] at hsum
    have hrl := rest_length r
    exact turn_sum (by omega) hsum
theorem all_turned {rs : List R} (h : allFine rs = true) {p : Nat} (hp : p / 8 < (flat rs).length) (hno : ¬ (5 ≤ p / 8 - (cutAt (p / 8) (ends 0 rs)).2 ∧ p / 8 - (cutAt (p / 8) (ends 0 rs)).2 < 9)) :
    ∃ m x, all (turn (flat rs) p) = (rs.take (cutAt (p / 8) (ends 0 rs)).1, m, x) ∧ x ≠ 0 ∧ m ≤ (flat rs).length ∧ (cutAt (p / 8) (ends 0 rs)).1 ≤ rs.length := by
  obtain ⟨W, h1, h2, h3, h4⟩ := cutAt_spec (rs := rs) (p / 8) (by omega)
  rw [h2] at hno ⊢
  dsimp only at hno ⊢
  have hsp : flat rs = flat (rs.take W) ++ flat (rs.drop W) := by rw [← flat_append, List.take_append_drop]
  have hW : W < rs.length := by
    rcases Nat.lt_or_ge W rs.length with hlt | hge
    · exact hlt
    · rw [List.take_of_length_le hge] at h3; omega
  have h5 := h4 hW
  have hd : rs.drop W = rs[W] :: rs.drop (W + 1) := List.drop_eq_getElem_cons hW
  have hfd : flat (rs.drop W) = bytes rs[W] ++ flat (rs.drop (W + 1)) := by
    rw [hd]; unfold flat; rw [List.flatMap_cons]
  have hfs : (flat (rs.take (W + 1))).length = (flat (rs.take W)).length + (bytes rs[W]).length := by
    rw [List.take_succ_eq_append_getElem hW, flat_append, flat_one, List.length_append]
  have e1 : (p - 8 * (flat (rs.take W)).length) / 8 = p / 8 - (flat (rs.take W)).length := by omega
  have ht : turn (flat rs) p = flat (rs.take W) ++ (turn (bytes rs[W]) (p - 8 * (flat (rs.take W)).length) ++ flat (rs.drop (W + 1))) := by
    conv => lhs; rw [hsp]
    rw [turn_append_right _ _ _ h3, hfd, turn_append_left _ _ _ (by omega)]
  have herr := take_turned (allFine_get h W hW) (flat (rs.drop (W + 1))) (p - 8 * (flat (rs.take W)).length) (by omega) (by rw [e1]; exact hno)
  have hbl := bytes_length rs[W]
  refine ⟨(flat (rs.take W)).length, _, ?_, herr, by omega, h1⟩
  rw [ht, all_flat (allFine_take h W), all_err (by rw [List.length_append, turn_length]; omega) herr]
  simp
end Go.Proofs.Ytboikajfcmgffaa.Rec
