/-
  What is put is taken; unlike records have unlike bytes.
-/
import Derived.Test.YtnclbonoenjbeaaRecPlain2
namespace Go.Proofs.Ytnclbonoenjbeaa.Rec
open Go.Proofs.Ytnclbonoenjbeaa.Crc (sumB sumB_lt)

theorem putErr_zero {r : R} (h : putErr r = 0) : fine r.1 = true ∧ r.2.length ≤ 4096 := by
  unfold putErr at h
  split at h
  · rename_i hf
    split at h
    · exact ⟨hf, by assumption⟩
    · cases h
  · cases h
theorem bytes_app (r : R) (more : List UInt8) : bytes r ++ more = four (sumB (rest r)) ++ (r.1 :: (four r.2.length ++ (r.2 ++ more))) := by
  simp [bytes, rest]
theorem take_bytes {r : R} (h : putErr r = 0) (more : List UInt8) : takeErr (bytes r ++ more) = 0 ∧ takeRec (bytes r ++ more) = r ∧ takeEnd (bytes r ++ more) = (bytes r).length := by
  obtain ⟨hf, hl⟩ := putErr_zero h
  have hd5 : (bytes r ++ more).drop 5 = four r.2.length ++ (r.2 ++ more) := by rw [bytes_app]; simp [four]
  have hn : number ((bytes r ++ more).drop 5) = r.2.length := by rw [hd5]; exact number_four (by omega) _
  have hlen := bytes_length r
  have hE : takeEnd (bytes r ++ more) = (bytes r).length := by unfold takeEnd; rw [hn, hlen]; omega
  have ht : (bytes r ++ more).take (9 + number ((bytes r ++ more).drop 5)) = bytes r := by
    have : 9 + number ((bytes r ++ more).drop 5) = (bytes r).length := hE
    rw [this]; simp
  have hd4 : (bytes r).drop 4 = rest r := by unfold bytes; simp [four]
  have hs : number (bytes r ++ more) = sumB (rest r) := by rw [bytes_app]; exact number_four (sumB_lt _) _
  have hk : (bytes r ++ more).getD 4 0 = r.1 := by rw [bytes_app]; simp [four]
  refine ⟨?_, ?_, hE⟩
  · unfold takeErr
    rw [if_neg (by rw [List.length_append, hlen]; omega), if_neg (by rw [hn]; omega), if_neg (by rw [hn, List.length_append, hlen]; omega), ht, hd4, if_neg (by rw [hs]; simp), hk, if_pos hf]
  · unfold takeRec
    rw [hk, hE, List.take_left]
    have : (bytes r).drop 9 = r.2 := by unfold bytes rest; simp [four]
    rw [this]
theorem bytes_inj {r s : R} (hr : putErr r = 0) (hs : putErr s = 0) : bytes r = bytes s ↔ r = s := by
  refine ⟨fun h => ?_, fun h => by rw [h]⟩
  have h1 := (take_bytes hr []).2.1
  have h2 := (take_bytes hs []).2.1
  rw [h] at h1
  exact h1.symm.trans h2
theorem long_bytes {r : R} (h : putErr r = 0) : longOf (r.2.length : Int) = ((bytes r).length : Int) := by
  have := (putErr_zero h).2
  unfold longOf
  rw [if_pos (by omega), bytes_length]; omega
end Go.Proofs.Ytnclbonoenjbeaa.Rec
