/-
  What is put is scanned.
-/
import Derived.Test.YtnclbonoenjbeaaBatPlain
namespace Go.Proofs.Ytnclbonoenjbeaa.Bat
set_option linter.unusedVariables false
open Go.Proofs.Ytnclbonoenjbeaa.Rec

theorem run_shift (e : Nat) (o : List B) (a : Nat) : ∀ (rs : List R) (out : List B) (kept : B) (k te : Nat),
    run e rs (o ++ out, kept) (a + k) (a + te) = (o ++ (run e rs (out, kept) k te).1, a + (run e rs (out, kept) k te).2.1, (run e rs (out, kept) k te).2.2) := by
  intro rs
  induction rs with
  | nil => intro out kept k te; rfl
  | cons r rs ih =>
    intro out kept k te
    have ht : take (o ++ out, kept) r = ((o ++ (take (out, kept) r).1.1, (take (out, kept) r).1.2), (take (out, kept) r).2) := by
      unfold take
      split
      · split <;> rfl
      · split
        · rfl
        · simp
    simp only [run]
    rw [ht]
    dsimp only
    by_cases h : (take (out, kept) r).2.2 = 0
    · have hne : ¬ (take (out, kept) r).2.2 ≠ 0 := by rw [h]; simp
      simp only [if_neg hne]
      have := ih (take (out, kept) r).1.1 (take (out, kept) r).1.2 (k + (r.2.length + 9)) (if (take (out, kept) r).2.1 = true then k + (r.2.length + 9) else te)
      rw [← this]
      congr 1
      · omega
      · split <;> omega
    · simp only [if_pos (show (take (out, kept) r).2.2 ≠ 0 from h)]
theorem run_rows (e : Nat) (out : List B) (te : Nat) (rs : List R) : ∀ (l kept : B) (k : Nat), kept.length + l.length ≤ 1024 →
    run e (l.map (fun d => ((1 : UInt8), d)) ++ rs) (out, kept) k te = run e rs (out, kept ++ l) (k + rowsLong l) te := by
  intro l
  induction l with
  | nil => intro kept k _; simp [rowsLong]
  | cons d t ih =>
    intro kept k h
    simp only [List.length_cons] at h
    have ht : take (out, kept) ((1 : UInt8), d) = ((out, kept ++ [d]), false, 0) := by
      unfold take; rw [if_pos rfl, if_neg (by dsimp only; omega)]
    simp only [List.map_cons, List.cons_append, run]
    rw [ht]
    dsimp only
    rw [if_neg (by simp), if_neg (by simp), ih (kept ++ [d]) _ (by simp; omega), List.append_assoc]
    have : rowsLong (d :: t) = d.length + 9 + rowsLong t := by simp [rowsLong]
    rw [this, Nat.add_assoc]
    rfl
theorem run_put {b : B} (h : wrong b = 0) (e : Nat) (rs : List R) (out : List B) (k te : Nat) :
    run e (recs b ++ rs) (out, []) k te = run e rs (out ++ [b], []) (k + (put b).length) (k + (put b).length) := by
  obtain ⟨h0, h1, h2⟩ := wrong_zero h
  have hp : (put b).length = rowsLong b + 11 := by rw [put_length]; unfold longB; rw [if_pos h]; omega
  unfold recs
  rw [List.append_assoc, run_rows e out te _ b [] k (by simpa using h1)]
  have ht : take (out, [] ++ b) ((2 : UInt8), cnt b.length) = ((out ++ [b], []), true, 0) := by
    unfold take; rw [if_neg (show ¬ (2 : UInt8) = 1 by decide), if_neg (by simp; intro e; subst e; simp at h0)]; simp
  simp only [List.cons_append, List.nil_append, run]
  rw [show (out, b) = (out, [] ++ b) from rfl, ht]
  dsimp only
  rw [if_neg (by simp), if_pos rfl, hp, cnt_length]
  rfl
/-- Batches one behind the other. -/
def writ (l : List B) : List UInt8 := l.flatMap put
def allRight (l : List B) : Bool := l.all fun b => wrong b == 0
theorem writ_snoc (l : List B) (b : B) : writ (l ++ [b]) = writ l ++ put b := by simp [writ]
theorem writ_append (l m : List B) : writ (l ++ m) = writ l ++ writ m := by simp [writ]
theorem scan_put {b : B} (h : wrong b = 0) (more : List UInt8) : scan (put b ++ more) = (b :: (scan more).1, (put b).length + (scan more).2.1, (scan more).2.2) := by
  obtain ⟨h0, h1, h2⟩ := wrong_zero h
  have hp : put b = flat (recs b) := by unfold put; rw [if_pos h]
  unfold scan
  rw [hp, all_flat (recs_fine h2) more]
  dsimp only
  rw [run_put h]
  have := run_shift (all more).2.2 [b] (put b).length (all more).1 [] [] 0 0
  simp only [List.append_nil, Nat.add_zero] at this
  rw [Nat.zero_add, List.nil_append, this, hp]
  rfl
theorem scan_writ {l : List B} (h : allRight l = true) (more : List UInt8) : scan (writ l ++ more) = (l ++ (scan more).1, (writ l).length + (scan more).2.1, (scan more).2.2) := by
  induction l with
  | nil => simp [writ]
  | cons b t ih =>
    unfold allRight at h ih
    simp only [List.all_cons, Bool.and_eq_true, beq_iff_eq] at h
    have e : writ (b :: t) ++ more = put b ++ (writ t ++ more) := by simp [writ]
    have hl : (writ (b :: t)).length = (put b).length + (writ t).length := by simp [writ]
    rw [e, scan_put h.1, ih h.2, hl]
    simp [Nat.add_assoc]
theorem scan_nil : scan [] = ([], 0, 0) := rfl
theorem scan_err {b : List UInt8} (h0 : 0 < b.length) (h : takeErr b ≠ 0) : scan b = ([], 0, takeErr b) := by
  unfold scan
  rw [all_err h0 h]
  simp only [run, if_pos h]
theorem scan_few {b : List UInt8} (h0 : 0 < b.length) (h : b.length < 9) : scan b = ([], 0, 32) := by
  have he : takeErr b = 32 := by unfold takeErr; rw [if_pos h]
  rw [scan_err h0 (by rw [he]; decide), he]
/-- A batch that is cut. -/
theorem scan_cut {b : B} (h : wrong b = 0) {j : Nat} (hj : j < (put b).length) : scan ((put b).take j) = ([], 0, if j = 0 then 0 else 32) := by
  obtain ⟨h0, h1, h2⟩ := wrong_zero h
  have hp : put b = flat (recs b) := by unfold put; rw [if_pos h]
  rw [hp] at hj ⊢
  obtain ⟨hc, hle⟩ := all_cut (recs_fine h2) (k := j) (by omega)
  obtain ⟨W, w1, w2, w3, w4⟩ := cutAt_spec (rs := recs b) j (by omega)
  rw [w2] at hc
  dsimp only at hc
  have hlen : (recs b).length = b.length + 1 := by simp [recs]
  have hW : W ≤ b.length := by
    rcases Nat.lt_or_ge b.length W with hlt | hge
    · have : W = (recs b).length := by omega
      rw [this, List.take_length] at w3; omega
    · exact hge
  have htk : (recs b).take W = (b.take W).map (fun d => ((1 : UInt8), d)) := by
    unfold recs
    rw [List.take_append_of_le_length (by simpa using hW), List.map_take]
  unfold scan
  rw [hc, htk]
  have hrr := run_rows (if (flat ((recs b).take W)).length = j then 0 else 32) [] 0 [] (b.take W) [] 0 (by simp; omega)
  rw [List.append_nil] at hrr
  rw [htk] at hrr
  rw [hrr]
  simp only [run, List.nil_append, List.length_take]
  have hfl : (flat ((b.take W).map (fun d => ((1 : UInt8), d)))).length = rowsLong (b.take W) := flat_rows _
  rw [hfl]
  have hz : W = 0 → rowsLong (b.take W) = 0 := fun e => by subst e; simp [rowsLong]
  have hz2 : 0 < W → 0 < rowsLong (b.take W) := fun e => by
    have : b.take W ≠ [] := by intro e2; have := congrArg List.length e2; rw [List.length_take, List.length_nil] at this; omega
    cases hbt : b.take W with
    | nil => exact absurd hbt this
    | cons d t => simp [rowsLong]; omega
  congr 2
  by_cases hj0 : rowsLong (b.take W) = j
  · rw [if_pos hj0, if_neg (by simp)]
    by_cases hW0 : W = 0
    · rw [if_neg (by omega), if_pos (by have := hz hW0; omega)]
    · rw [if_pos (by omega), if_neg (by have := hz2 (by omega); omega)]
  · rw [if_neg hj0, if_pos (by decide)]
    rw [if_neg (by
      intro e; subst e
      rw [htk, hfl] at w3; omega)]
end Go.Proofs.Ytnclbonoenjbeaa.Bat
