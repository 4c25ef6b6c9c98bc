/-
  Words and walks, one behind the other: CrcPlain, CrcPlain2, CrcA, CrcB, CrcR.
-/
import Derived.Test.YtmkijkkddoamgaaProg
import Derived.WalkKit
import Derived.WalkLawsBesides
import Derived.WalkSpells
import Derived.Lib.Hide
import Derived.RangeFuncNested
import Derived.RangeFuncBound
import Derived.RangeFuncCalls
import Derived.RangeFuncLeaves
import Derived.Shelf.Abstract
import Derived.Shelf.RegionOpen
import Derived.OwnWalkIn
import Derived.TacticsInMore
import Derived.LoopNIn
import Derived.LoopIn
import Derived.Test.YtmkijkkddoamgaaJW
namespace Go.Proofs.Ytmkijkkddoamgaa.Crc

def poly : Nat := 3988292384
def top : Nat := 4294967295
def half (n : Nat) : Nat := if n % 2 = 1 then (n / 2) ^^^ poly else n / 2
def iter (f : Nat → Nat) : Nat → Nat → Nat
  | 0, x => x
  | k + 1, x => iter f k (f x)
theorem iter_succ (f : Nat → Nat) (k x : Nat) : iter f (k + 1) x = f (iter f k x) := by
  induction k generalizing x with
  | zero => rfl
  | succ k ih => exact ih (f x)
theorem iter_add (f : Nat → Nat) (a b x : Nat) : iter f (a + b) x = iter f b (iter f a x) := by
  induction a generalizing x with
  | zero => simp [iter]
  | succ a ih => rw [show a + 1 + b = (a + b) + 1 by omega]; exact ih (f x)

theorem xor_lt {a b : Nat} (ha : a < 4294967296) (hb : b < 4294967296) : a ^^^ b < 4294967296 := Nat.xor_lt_two_pow (n := 32) ha hb
theorem half_lt {n : Nat} (h : n < 4294967296) : half n < 4294967296 := by
  unfold half; split
  · exact xor_lt (by omega) (by decide)
  · omega
theorem iter_lt {f : Nat → Nat} (hf : ∀ n, n < 4294967296 → f n < 4294967296) (k : Nat) {n : Nat} (h : n < 4294967296) : iter f k n < 4294967296 := by
  induction k generalizing n with
  | zero => exact h
  | succ k ih => exact ih (hf n h)

theorem xor_two (a b : Nat) : (a ^^^ b) % 2 = (a + b) % 2 := by
  have h := @Nat.xor_mod_two_eq_one a b
  omega
theorem xor_cancel (a b p : Nat) : (a ^^^ p) ^^^ (b ^^^ p) = a ^^^ b := by
  rw [Nat.xor_comm b p, ← Nat.xor_assoc, Nat.xor_assoc a p p, Nat.xor_self, Nat.xor_zero]
theorem xor_right (a b p : Nat) : (a ^^^ p) ^^^ b = (a ^^^ b) ^^^ p := by
  rw [Nat.xor_assoc, Nat.xor_comm p b, ← Nat.xor_assoc]
theorem half_xor (a b : Nat) : half (a ^^^ b) = half a ^^^ half b := by
  unfold half
  have h2 : (a ^^^ b) % 2 = (a + b) % 2 := xor_two a b
  have hd : (a ^^^ b) / 2 = a / 2 ^^^ b / 2 := Nat.xor_div_two
  rw [h2, hd]
  rcases Nat.mod_two_eq_zero_or_one a with ha | ha <;> rcases Nat.mod_two_eq_zero_or_one b with hb | hb
  · rw [if_neg (by omega), if_neg (by omega), if_neg (by omega)]
  · rw [if_pos (by omega), if_neg (by omega), if_pos (by omega), Nat.xor_assoc]
  · rw [if_pos (by omega), if_pos (by omega), if_neg (by omega), xor_right]
  · rw [if_neg (by omega), if_pos (by omega), if_pos (by omega), xor_cancel]
theorem iter_xor {f : Nat → Nat} (hf : ∀ a b, f (a ^^^ b) = f a ^^^ f b) (k a b : Nat) : iter f k (a ^^^ b) = iter f k a ^^^ iter f k b := by
  induction k generalizing a b with
  | zero => rfl
  | succ k ih => show iter f k (f (a ^^^ b)) = _; rw [hf, ih]; rfl

/-- A byte's number. -/
def tab (n : Nat) : Nat := iter half 8 n
theorem tab_lt {n : Nat} (h : n < 4294967296) : tab n < 4294967296 := iter_lt (fun _ => half_lt) 8 h
theorem tab_xor (a b : Nat) : tab (a ^^^ b) = tab a ^^^ tab b := iter_xor half_xor 8 a b
theorem half_two (n : Nat) : half (2 * n) = n := by unfold half; rw [if_neg (by omega)]; omega
theorem tab_256 (n : Nat) : tab (256 * n) = n := by
  show half (half (half (half (half (half (half (half (256 * n)))))))) = n
  rw [show 256 * n = 2 * (2 * (2 * (2 * (2 * (2 * (2 * (2 * n))))))) by omega]
  simp only [half_two]
theorem tab_zero : tab 0 = 0 := by decide
theorem split_256 (r : Nat) : r = (r % 256) ^^^ (256 * (r / 256)) := by
  apply Nat.eq_of_testBit_eq
  intro i
  rw [Nat.testBit_xor, show 256 = 2 ^ 8 from rfl, Nat.testBit_mod_two_pow, Nat.testBit_two_pow_mul, Nat.testBit_div_two_pow]
  by_cases h : i < 8
  · simp [h, show ¬ 8 ≤ i by omega]
  · simp [h, show 8 ≤ i by omega]
/-- A byte goes through the register. -/
def thr (r b : Nat) : Nat := tab ((r % 256) ^^^ b) ^^^ (r / 256)
theorem thr_eq (r b : Nat) : thr r b = tab (r ^^^ b) := by
  unfold thr
  conv => rhs; rw [split_256 r]
  rw [xor_right, tab_xor _ (256 * (r / 256)), tab_256]
def nxt (s b : Nat) : Nat := top ^^^ thr (top ^^^ s) b
theorem nxt_lt {s b : Nat} (hs : s < 4294967296) (hb : b < 256) : nxt s b < 4294967296 := by
  unfold nxt; rw [thr_eq]
  exact xor_lt (by decide) (tab_lt (xor_lt (xor_lt (by decide) hs) (by omega)))
theorem top_xor {s : Nat} (hs : s < 4294967296) : top ^^^ s = 4294967295 - s := by
  have h := congrArg BitVec.toNat (BitVec.not_def (x := BitVec.ofNat 32 s))
  rw [BitVec.toNat_not, BitVec.toNat_xor, BitVec.toNat_allOnes, BitVec.toNat_ofNat, Nat.mod_eq_of_lt (by simpa using hs)] at h
  exact h.symm
def sum (l : List Nat) : Nat := l.foldl nxt 0
theorem fold_lt (l : List Nat) (hl : ∀ b ∈ l, b < 256) : ∀ s, s < 4294967296 → l.foldl nxt s < 4294967296 := by
  induction l with
  | nil => intro s hs; exact hs
  | cons b l ih => intro s hs; exact ih (fun x hx => hl x (by simp [hx])) _ (nxt_lt hs (hl b (by simp)))
theorem sum_lt (l : List Nat) (hl : ∀ b ∈ l, b < 256) : sum l < 4294967296 := fold_lt l hl 0 (by decide)

theorem nxt_eq (s b : Nat) : nxt s b = tab s ^^^ nxt 0 b := by
  unfold nxt
  rw [thr_eq, thr_eq, tab_xor, tab_xor, tab_xor, tab_xor, tab_zero, Nat.xor_zero]
  generalize tab top = t; generalize tab s = u; generalize tab b = v
  rw [Nat.xor_assoc t u v, ← Nat.xor_assoc u, Nat.xor_comm t, ← Nat.xor_assoc, ← Nat.xor_assoc, ← Nat.xor_assoc, Nat.xor_comm top u, Nat.xor_assoc u, Nat.xor_assoc u, Nat.xor_assoc u, Nat.xor_assoc top, Nat.xor_comm v t, Nat.xor_assoc, Nat.xor_assoc]
theorem fold_eq (l : List Nat) (s : Nat) : l.foldl nxt s = iter tab l.length s ^^^ sum l := by
  induction l generalizing s with
  | nil => show s = s ^^^ 0; rw [Nat.xor_zero]
  | cons b l ih =>
    show l.foldl nxt (nxt s b) = iter tab l.length (tab s) ^^^ l.foldl nxt (nxt 0 b)
    rw [ih, ih (nxt 0 b), nxt_eq s, iter_xor tab_xor, Nat.xor_assoc]
theorem sum_append (a b : List Nat) : sum (a ++ b) = iter tab b.length (sum a) ^^^ sum b := by
  unfold sum; rw [List.foldl_append]; exact fold_eq b _

/-- Joined. -/
def join (a b : Nat) (n : Nat) : Nat := iter tab n a ^^^ b

/-- The linear part. -/
def lin (l : List Nat) : Nat := l.foldl (fun r b => tab (r ^^^ b)) 0
theorem lin_snoc (l : List Nat) (b : Nat) : lin (l ++ [b]) = tab (lin l ^^^ b) := by simp [lin]
theorem sum_snoc (l : List Nat) (b : Nat) : sum (l ++ [b]) = nxt (sum l) b := by simp [sum]
theorem nxt0 (b : Nat) : nxt 0 b = (top ^^^ tab top) ^^^ tab b := by
  unfold nxt; rw [thr_eq, tab_xor, tab_xor, tab_zero, Nat.xor_zero, Nat.xor_assoc]
/-- Of two rows of one length the sums differ as the linear part of what they differ by. -/
theorem sum_xor (l : List (Nat × Nat)) : sum (l.map (·.1)) ^^^ sum (l.map (·.2)) = lin (l.map fun p => p.1 ^^^ p.2) := by
  suffices h : ∀ (r : List (Nat × Nat)), sum ((r.reverse).map (·.1)) ^^^ sum ((r.reverse).map (·.2)) = lin ((r.reverse).map fun p => p.1 ^^^ p.2) by
    simpa using h l.reverse
  intro r
  induction r with
  | nil => decide
  | cons p r ih =>
    rw [List.reverse_cons, List.map_append, List.map_append, List.map_append, List.map_singleton, List.map_singleton, List.map_singleton, sum_snoc, sum_snoc, lin_snoc, ← ih, nxt_eq, nxt_eq (sum _) p.2, nxt0, nxt0, tab_xor, tab_xor, tab_xor]
    generalize tab (sum _) = x; generalize tab (sum _) = y; generalize top ^^^ tab top = c; generalize tab p.1 = u; generalize tab p.2 = v
    rw [Nat.xor_comm c u, Nat.xor_comm c v, ← Nat.xor_assoc x, ← Nat.xor_assoc y, xor_cancel, Nat.xor_assoc x, Nat.xor_assoc x, ← Nat.xor_assoc u, Nat.xor_comm u y, Nat.xor_assoc y]

theorem half_inj {a b : Nat} (ha : a < 4294967296) (hb : b < 4294967296) (h : half a = half b) : a = b := by
  have key : ∀ x y : Nat, x < 2147483648 → y < 2147483648 → x ^^^ poly ≠ y := by
    intro x y hx hy e
    have h31 := congrArg (fun n => Nat.testBit n 31) e
    simp only [Nat.testBit_xor] at h31
    rw [Nat.testBit_lt_two_pow (x := x) (i := 31) hx, Nat.testBit_lt_two_pow (x := y) (i := 31) hy] at h31
    exact absurd h31 (by decide)
  unfold half at h
  rcases Nat.mod_two_eq_zero_or_one a with h1 | h1 <;> rcases Nat.mod_two_eq_zero_or_one b with h2 | h2
  · rw [if_neg (by omega), if_neg (by omega)] at h; omega
  · rw [if_neg (by omega), if_pos (by omega)] at h; exact absurd h.symm (key _ _ (by omega) (by omega))
  · rw [if_pos (by omega), if_neg (by omega)] at h; exact absurd h (key _ _ (by omega) (by omega))
  · rw [if_pos (by omega), if_pos (by omega)] at h
    have h' := congrArg (· ^^^ poly) h
    simp only [Nat.xor_assoc, Nat.xor_self, Nat.xor_zero] at h'
    omega
theorem iter_inj {f : Nat → Nat} (hlt : ∀ n, n < 4294967296 → f n < 4294967296) (hf : ∀ a b, a < 4294967296 → b < 4294967296 → f a = f b → a = b) (k : Nat) {a b : Nat} (ha : a < 4294967296) (hb : b < 4294967296) (h : iter f k a = iter f k b) : a = b := by
  induction k generalizing a b with
  | zero => exact h
  | succ k ih => exact hf a b ha hb (ih (hlt a ha) (hlt b hb) h)
theorem tab_inj {a b : Nat} (ha : a < 4294967296) (hb : b < 4294967296) (h : tab a = tab b) : a = b := iter_inj (fun _ => half_lt) (fun _ _ => half_inj) 8 ha hb h
theorem xor_eq_zero {a b : Nat} (h : a ^^^ b = 0) : a = b := by
  have := congrArg (· ^^^ b) h
  simpa [Nat.xor_assoc, Nat.xor_self] using this

theorem lin_zeros (n : Nat) : lin (List.replicate n 0) = 0 := by
  induction n with
  | zero => rfl
  | succ n ih => rw [List.replicate_succ', lin_snoc, ih]; decide
theorem fold_lin (l : List Nat) (r : Nat) : l.foldl (fun r b => tab (r ^^^ b)) r = iter tab l.length r ^^^ lin l := by
  induction l generalizing r with
  | nil => show r = r ^^^ 0; rw [Nat.xor_zero]
  | cons b l ih =>
    show l.foldl _ (tab (r ^^^ b)) = iter tab l.length (tab r) ^^^ l.foldl _ (tab (0 ^^^ b))
    rw [ih, ih (tab (0 ^^^ b)), Nat.zero_xor, tab_xor, iter_xor tab_xor, Nat.xor_assoc]
theorem lin_append (a b : List Nat) : lin (a ++ b) = iter tab b.length (lin a) ^^^ lin b := by
  unfold lin; rw [List.foldl_append]; exact fold_lin b _
theorem lin_lt (l : List Nat) (hl : ∀ b ∈ l, b < 256) : lin l < 4294967296 := by
  unfold lin
  suffices h : ∀ r, r < 4294967296 → l.foldl (fun r b => tab (r ^^^ b)) r < 4294967296 from h 0 (by decide)
  induction l with
  | nil => intro r hr; exact hr
  | cons b l ih => intro r hr; exact ih (fun x hx => hl x (by simp [hx])) _ (tab_lt (xor_lt hr (by have := hl b (by simp); omega)))
theorem iter_tab_zero (n : Nat) : iter tab n 0 = 0 := by
  induction n with
  | zero => rfl
  | succ n ih => show iter tab n (tab 0) = 0; rw [tab_zero]; exact ih
/-- Four bytes beside one another: none of them makes nought but noughts. -/
theorem lin_four {a b c d : Nat} (ha : a < 256) (hb : b < 256) (hc : c < 256) (hd : d < 256) (h : lin [a, b, c, d] = 0) : a = 0 ∧ b = 0 ∧ c = 0 ∧ d = 0 := by
  have e : lin [a, b, c, d] = tab (tab (tab (tab (0 ^^^ a) ^^^ b) ^^^ c) ^^^ d) := rfl
  rw [e, Nat.zero_xor] at h
  have l1 : tab a < 4294967296 := tab_lt (by omega)
  have l2 : tab (tab a ^^^ b) < 4294967296 := tab_lt (xor_lt l1 (by omega))
  have l3 : tab (tab (tab a ^^^ b) ^^^ c) < 4294967296 := tab_lt (xor_lt l2 (by omega))
  have h1 := xor_eq_zero (tab_inj (xor_lt l3 (by omega)) (by decide) (h.trans tab_zero.symm))
  have h2 := tab_inj (xor_lt l2 (by omega)) (by omega) (h1.trans (tab_256 d).symm)
  have h3 : tab (tab a ^^^ b) = tab (256 * (c ^^^ 256 * d)) := by
    rw [tab_256]
    have := congrArg (· ^^^ c) h2
    simp only [Nat.xor_assoc, Nat.xor_self, Nat.xor_zero] at this
    rw [this, Nat.xor_comm]
  have b1 : c ^^^ 256 * d < 65536 := Nat.xor_lt_two_pow (n := 16) (by omega) (by omega)
  have h4 := tab_inj (xor_lt l1 (by omega)) (by omega) h3
  have h5 : tab a = tab (256 * (b ^^^ 256 * (c ^^^ 256 * d))) := by
    rw [tab_256]
    have := congrArg (· ^^^ b) h4
    simp only [Nat.xor_assoc, Nat.xor_self, Nat.xor_zero] at this
    rw [this, Nat.xor_comm]
  have b2 : b ^^^ 256 * (c ^^^ 256 * d) < 16777216 := Nat.xor_lt_two_pow (n := 24) (by omega) (by omega)
  have h6 := tab_inj (by omega) (by omega) h5
  have z1 : b ^^^ 256 * (c ^^^ 256 * d) = 0 := by omega
  have z2 := xor_eq_zero z1
  have z3 : c ^^^ 256 * d = 0 := by omega
  have z4 := xor_eq_zero z3
  omega

/-- A bit's number, so many halvings on. -/
theorem pow_half (j : Nat) (hj : j ≤ 7) : 2 ^ j = iter half (7 - j) 128 := by
  match j, hj with
  | 0, _ => decide
  | 1, _ => decide
  | 2, _ => decide
  | 3, _ => decide
  | 4, _ => decide
  | 5, _ => decide
  | 6, _ => decide
  | 7, _ => decide
theorem iter_tab (n x : Nat) : iter tab n x = iter half (8 * n) x := by
  induction n generalizing x with
  | zero => rfl
  | succ n ih => rw [show 8 * (n + 1) = 8 + 8 * n by omega, iter_add half]; exact ih _
/-- One bit alone, in a row of n bytes. -/
theorem lin_bit (n p : Nat) (_hp : p < 8 * n) : lin (List.replicate (p / 8) 0 ++ [2 ^ (p % 8)] ++ List.replicate (n - 1 - p / 8) 0) = iter half (8 * n + 7 - p) 128 := by
  rw [lin_append, lin_zeros, Nat.xor_zero, lin_snoc, lin_zeros, Nat.zero_xor, List.length_replicate, iter_tab, pow_half _ (by omega)]
  show iter half _ (iter half 8 _) = _
  rw [← iter_add, ← iter_add]
  congr 1; omega
def back : Nat → Nat → Bool
  | 0, _ => true
  | k + 1, x => half x != 128 && back k (half x)
theorem back_ne : ∀ (k x : Nat), back k x = true → ∀ j, 1 ≤ j → j ≤ k → iter half j x ≠ 128
  | 0, _, _, j, h1, h2 => by omega
  | k + 1, x, h, j, h1, h2 => by
    simp only [back, Bool.and_eq_true, bne_iff_ne] at h
    match j, h1 with
    | 1, _ => exact h.1
    | j + 2, _ => exact back_ne k (half x) h.2 (j + 1) (by omega) (by omega)
theorem back_far : back 2400 128 = true := by decide +kernel
theorem two_bits {n p q : Nat} (hn : n ≤ 300) (_hp : p < 8 * n) (hq : q < 8 * n) (hpq : p < q) : iter half (8 * n + 7 - p) 128 ≠ iter half (8 * n + 7 - q) 128 := by
  intro h
  rw [show 8 * n + 7 - p = (q - p) + (8 * n + 7 - q) by omega, iter_add] at h
  exact back_ne 2400 128 back_far (q - p) (by omega) (by omega) (iter_inj (fun _ => half_lt) (fun _ _ => half_inj) _ (iter_lt (fun _ => half_lt) _ (by decide)) (by decide) h)
theorem one_bit {n p : Nat} (_hp : p < 8 * n) : iter half (8 * n + 7 - p) 128 ≠ 0 := by
  have hz : ∀ k, iter half k 0 = 0 := by
    intro k; induction k with
    | zero => rfl
    | succ k ih => exact ih
  intro h
  have := iter_inj (fun _ => half_lt) (fun _ _ => half_inj) _ (a := 128) (b := 0) (by decide) (by decide) (h.trans (hz _).symm)
  omega

/-- The document's byte, bit by bit. -/
def rstep : Nat × Nat → Nat × Nat := fun (r, x) => (if (r + x) % 2 = 1 then (r / 2) ^^^ poly else r / 2, x / 2)
def rsteps : Nat → Nat × Nat → Nat × Nat
  | 0, s => s
  | k + 1, s => rstep (rsteps k s)
theorem rstep_xor (s : Nat × Nat) : (rstep s).1 ^^^ (rstep s).2 = half (s.1 ^^^ s.2) := by
  obtain ⟨r, x⟩ := s
  unfold rstep half
  dsimp only
  rw [xor_two, Nat.xor_div_two]
  split
  · exact xor_right _ _ _
  · rfl
theorem rsteps_xor (k : Nat) (s : Nat × Nat) : (rsteps k s).1 ^^^ (rsteps k s).2 = iter half k (s.1 ^^^ s.2) := by
  induction k with
  | zero => rfl
  | succ k ih => rw [iter_succ, ← ih]; exact rstep_xor _
theorem rsteps_snd (k : Nat) (s : Nat × Nat) : (rsteps k s).2 = s.2 / 2 ^ k := by
  induction k with
  | zero => simp [rsteps]
  | succ k ih => show (rsteps k s).2 / 2 = _; rw [ih, Nat.pow_succ, Nat.div_div_eq_div_mul]
theorem rsteps_eight {r b : Nat} (hb : b < 256) : (rsteps 8 (r, b)).1 = thr r b := by
  have h := rsteps_xor 8 (r, b)
  rw [rsteps_snd 8 (r, b), Nat.div_eq_of_lt (show b < 2 ^ 8 from hb), Nat.xor_zero] at h
  rw [h, thr_eq]; rfl

theorem rsteps_lt (k : Nat) {s : Nat × Nat} (h : s.1 < 4294967296) : (rsteps k s).1 < 4294967296 := by
  induction k with
  | zero => exact h
  | succ k ih =>
    show (rstep (rsteps k s)).1 < _
    generalize rsteps k s = p at ih ⊢
    obtain ⟨r, x⟩ := p
    unfold rstep
    dsimp only at ih ⊢
    split
    · exact xor_lt (by omega) (by decide)
    · omega
theorem rsteps_le2 (k : Nat) {s : Nat × Nat} : (rsteps k s).2 ≤ s.2 := by
  rw [rsteps_snd]; exact Nat.div_le_self _ _
/-! Matrices over bits: a column a bit. -/
def applyTo (m : Nat → Nat) (n : Nat) : Nat → Nat
  | 0 => 0
  | k + 1 => if n / 2 ^ k % 2 = 1 then applyTo m n k ^^^ m k else applyTo m n k
theorem applyTo_lt (m : Nat → Nat) (hm : ∀ j, j < 32 → m j < 4294967296) (n k : Nat) (hk : k ≤ 32) : applyTo m n k < 4294967296 := by
  induction k with
  | zero => simp [applyTo]
  | succ k ih => rw [applyTo]; split <;> first | exact xor_lt (ih (by omega)) (hm k (by omega)) | exact ih (by omega)
theorem mod_succ (n k : Nat) : n % 2 ^ (k + 1) = n % 2 ^ k ^^^ (if n / 2 ^ k % 2 = 1 then 2 ^ k else 0) := by
  apply Nat.eq_of_testBit_eq
  intro i
  rw [Nat.testBit_xor, Nat.testBit_mod_two_pow, Nat.testBit_mod_two_pow]
  have hb : n.testBit k = decide (n / 2 ^ k % 2 = 1) := Nat.testBit_eq_decide_div_mod_eq
  by_cases h : n / 2 ^ k % 2 = 1
  · rw [if_pos h, Nat.testBit_two_pow]
    rcases Nat.lt_trichotomy i k with hl | rfl | hg
    · simp [hl, show i < k + 1 by omega, show ¬ k = i by omega]
    · simp [hb, h]
    · simp [show ¬ i < k by omega, show ¬ i < k + 1 by omega, show ¬ k = i by omega]
  · rw [if_neg h]
    rcases Nat.lt_trichotomy i k with hl | rfl | hg
    · simp [hl, show i < k + 1 by omega]
    · simp [hb, h]
    · simp [show ¬ i < k by omega, show ¬ i < k + 1 by omega]
theorem applyTo_lin {f : Nat → Nat} (hf : ∀ a b, f (a ^^^ b) = f a ^^^ f b) (h0 : f 0 = 0) (n k : Nat) {m : Nat → Nat} (hm : ∀ i, i < k → m i = f (2 ^ i)) : applyTo m n k = f (n % 2 ^ k) := by
  induction k with
  | zero => simp [applyTo, Nat.mod_one, h0]
  | succ k ih =>
    rw [applyTo, ih (fun i hi => hm i (by omega)), mod_succ, hf]
    split
    · rw [hm k (by omega)]
    · rw [h0, Nat.xor_zero]
theorem applyTo_all {f : Nat → Nat} (hf : ∀ a b, f (a ^^^ b) = f a ^^^ f b) (h0 : f 0 = 0) {n : Nat} (hn : n < 4294967296) {m : Nat → Nat} (hm : ∀ i, i < 32 → m i = f (2 ^ i)) : applyTo m n 32 = f n := by
  rw [applyTo_lin hf h0 n 32 hm, Nat.mod_eq_of_lt (by simpa using hn)]
theorem iter_two (f : Nat → Nat) (k x : Nat) : iter f (2 * k) x = iter (fun y => f (f y)) k x := by
  induction k generalizing x with
  | zero => rfl
  | succ k ih => rw [show 2 * (k + 1) = 2 * k + 1 + 1 by omega]; exact ih _
end Go.Proofs.Ytmkijkkddoamgaa.Crc

namespace Go.Proofs.Ytmkijkkddoamgaa.Crc

def nums (l : List UInt8) : List Nat := l.map UInt8.toNat
theorem nums_lt (l : List UInt8) : ∀ b ∈ nums l, b < 256 := by
  intro b hb
  obtain ⟨x, _, rfl⟩ := List.mem_map.1 hb
  exact x.toNat_lt
theorem nums_append (a b : List UInt8) : nums (a ++ b) = nums a ++ nums b := List.map_append
theorem nums_length (a : List UInt8) : (nums a).length = a.length := List.length_map _
/-- The sum of bytes. -/
def sumB (l : List UInt8) : Nat := sum (nums l)
theorem sumB_lt (l : List UInt8) : sumB l < 4294967296 := sum_lt _ (nums_lt l)
theorem sumB_snoc (l : List UInt8) (b : UInt8) : sumB (l ++ [b]) = nxt (sumB l) b.toNat := by
  unfold sumB; rw [nums_append]; exact sum_snoc _ _
theorem sumB_append (a b : List UInt8) : sumB (a ++ b) = join (sumB a) (sumB b) b.length := by
  unfold sumB join; rw [nums_append, sum_append, nums_length]

theorem xor_twice (a b : Nat) : a ^^^ (a ^^^ b) = b := by rw [← Nat.xor_assoc, Nat.xor_self, Nat.zero_xor]
theorem xor_left (a b c : Nat) : a ^^^ (b ^^^ c) = b ^^^ (a ^^^ c) := by rw [← Nat.xor_assoc, Nat.xor_comm a b, Nat.xor_assoc]
theorem sum_three : ∀ l : List (Nat × Nat × Nat), sum (l.map fun p => p.1 ^^^ p.2.1 ^^^ p.2.2) = sum (l.map (·.1)) ^^^ sum (l.map (·.2.1)) ^^^ sum (l.map (·.2.2)) := by
  suffices h : ∀ r : List (Nat × Nat × Nat), sum (r.reverse.map fun p => p.1 ^^^ p.2.1 ^^^ p.2.2) = sum (r.reverse.map (·.1)) ^^^ sum (r.reverse.map (·.2.1)) ^^^ sum (r.reverse.map (·.2.2)) by
    intro l; simpa using h l.reverse
  intro r
  induction r with
  | nil => decide
  | cons p r ih =>
    simp only [List.reverse_cons, List.map_append, List.map_cons, List.map_nil, sum_snoc, ih]
    rw [nxt_eq, nxt_eq (sum (r.reverse.map (·.1))), nxt_eq (sum (r.reverse.map (·.2.1))), nxt_eq (sum (r.reverse.map (·.2.2))), nxt0, nxt0, nxt0, nxt0]
    simp only [tab_xor]
    generalize tab (sum _) = x1; generalize tab (sum _) = x2; generalize tab (sum _) = x3
    generalize tab p.1 = u1; generalize tab p.2.1 = u2; generalize tab p.2.2 = u3
    generalize top = t; generalize tab t = v
    simp only [Nat.xor_comm, xor_left, xor_twice]

/-- Rows of one length, one of which is the other without carry with a third. -/
theorem sum_diff (l l' d : List UInt8) (h1 : l'.length = l.length) (h2 : d.length = l.length) (h : ∀ i (hi : i < l.length), l'[i]'(by omega) = l[i] ^^^ d[i]'(by omega)) : sumB l ^^^ sumB l' = lin (nums d) := by
  have e1 : nums l = ((nums l).zip (nums l')).map (·.1) := by rw [List.map_fst_zip (by simp [nums]; omega)]
  have e2 : nums l' = ((nums l).zip (nums l')).map (·.2) := by rw [List.map_snd_zip (by simp [nums]; omega)]
  have e3 : nums d = ((nums l).zip (nums l')).map fun p => p.1 ^^^ p.2 := by
    apply List.ext_getElem
    · simp [nums]; omega
    · intro i hi _
      have hil : i < l.length := by simp [nums] at hi; omega
      simp only [nums, List.getElem_map, List.getElem_zip]
      rw [h i hil, UInt8.toNat_xor, xor_twice]
  unfold sumB
  rw [e3, ← sum_xor, ← e1, ← e2]
theorem sum_same {l l' d : List UInt8} (h1 : l'.length = l.length) (h2 : d.length = l.length) (h : ∀ i (hi : i < l.length), l'[i]'(by omega) = l[i] ^^^ d[i]'(by omega)) : sumB l' = sumB l ↔ lin (nums d) = 0 := by
  rw [← sum_diff l l' d h1 h2 h]
  constructor
  · intro e; rw [e, Nat.xor_self]
  · intro e; exact (xor_eq_zero e).symm

/-! Four bytes beside one another. -/
theorem iter_tab_inj (k : Nat) {a : Nat} (ha : a < 4294967296) (h : iter tab k a = 0) : a = 0 :=
  iter_inj (fun _ => tab_lt) (fun _ _ => tab_inj) k ha (by decide) (h.trans (iter_tab_zero k).symm)
theorem lin_zero_of (l : List Nat) (h : ∀ x ∈ l, x = 0) : lin l = 0 := by
  have : l = List.replicate l.length 0 := List.eq_replicate_iff.2 ⟨rfl, h⟩
  rw [this, lin_zeros]
theorem lin_window (z m t : List Nat) (hz : ∀ x ∈ z, x = 0) (ht : ∀ x ∈ t, x = 0) (hm : m.length ≤ 4) (hb : ∀ x ∈ m, x < 256) : lin (z ++ m ++ t) = 0 ↔ ∀ x ∈ m, x = 0 := by
  constructor
  · intro h
    rw [lin_append, lin_append, lin_zero_of z hz, lin_zero_of t ht, iter_tab_zero, Nat.xor_zero, Nat.zero_xor] at h
    have h0 := iter_tab_inj _ (lin_lt m hb) h
    have h4 : lin (m ++ List.replicate (4 - m.length) 0) = 0 := by rw [lin_append, h0, iter_tab_zero, lin_zeros]; rfl
    match m, hm, hb, h4 with
    | [], _, _, _ => simp
    | [a], _, hb, h4 =>
      have := lin_four (hb a (by simp)) (b := 0) (by omega) (c := 0) (by omega) (d := 0) (by omega) h4
      simp; omega
    | [a, b], _, hb, h4 =>
      have := lin_four (hb a (by simp)) (hb b (by simp)) (c := 0) (by omega) (d := 0) (by omega) h4
      simp; omega
    | [a, b, c], _, hb, h4 =>
      have := lin_four (hb a (by simp)) (hb b (by simp)) (hb c (by simp)) (d := 0) (by omega) h4
      simp; omega
    | [a, b, c, d], _, hb, h4 =>
      have := lin_four (hb a (by simp)) (hb b (by simp)) (hb c (by simp)) (hb d (by simp)) h4
      simp; omega
    | _ :: _ :: _ :: _ :: _ :: _, hm, _, _ => simp at hm
  · intro h
    apply lin_zero_of
    intro x hx
    simp only [List.mem_append] at hx
    rcases hx with (hx | hx) | hx
    · exact hz x hx
    · exact h x hx
    · exact ht x hx

/-! One bit, and two. -/
def bitRow (n p : Nat) : List Nat := List.replicate (p / 8) 0 ++ [2 ^ (p % 8)] ++ List.replicate (n - 1 - p / 8) 0
theorem lin_bitRow {n p : Nat} (hp : p < 8 * n) : lin (bitRow n p) ≠ 0 := by
  unfold bitRow; rw [lin_bit n p hp]; exact one_bit hp
theorem lin_bits {n p q : Nat} (hn : n ≤ 300) (hp : p < 8 * n) (hq : q < 8 * n) (h : lin (bitRow n p) = lin (bitRow n q)) : p = q := by
  unfold bitRow at h
  rw [lin_bit n p hp, lin_bit n q hq] at h
  rcases Nat.lt_trichotomy p q with hl | rfl | hg
  · exact absurd h (two_bits hn hp hq hl)
  · rfl
  · exact absurd h.symm (two_bits hn hq hp hg)
theorem bitRow_length {n p : Nat} (hp : p < 8 * n) : (bitRow n p).length = n := by simp [bitRow]; omega
theorem bitRow_get {n p : Nat} (hp : p < 8 * n) (i : Nat) (hi : i < (bitRow n p).length) : (bitRow n p)[i] = if i = p / 8 then 2 ^ (p % 8) else 0 := by
  have hn := bitRow_length hp
  unfold bitRow at hi ⊢
  rw [List.getElem_append]
  split
  · rename_i h
    rw [List.getElem_append]
    split
    · rename_i h2
      simp at h2
      rw [if_neg (by omega)]; simp
    · rename_i h2
      simp at h h2
      rw [if_pos (by omega)]; simp
  · rename_i h
    simp at h
    rw [if_neg (by omega)]; simp
/-- One bit of a row turned about. -/
def turn (l : List UInt8) (p : Nat) : List UInt8 := l.set (p / 8) ((l[p / 8]?.getD 0) ^^^ UInt8.ofNat (2 ^ (p % 8)))
theorem turn_length (l : List UInt8) (p : Nat) : (turn l p).length = l.length := by simp [turn]
theorem pow_lt (p : Nat) : 2 ^ (p % 8) < 256 := Nat.lt_of_lt_of_le (Nat.pow_lt_pow_right (by omega) (show p % 8 < 8 by omega)) (by decide)
theorem turn_get (l : List UInt8) (p i : Nat) (hi : i < l.length) : (turn l p)[i]'(by rw [turn_length]; exact hi) = l[i] ^^^ (if i = p / 8 then UInt8.ofNat (2 ^ (p % 8)) else 0) := by
  unfold turn
  rw [List.getElem_set]
  by_cases h : p / 8 = i
  · rw [if_pos h, if_pos h.symm]; subst h; simp [hi]
  · rw [if_neg h, if_neg (fun e => h e.symm)]; simp
def bitBytes (n p : Nat) : List UInt8 := (bitRow n p).map UInt8.ofNat
theorem nums_bitBytes {n p : Nat} (hp : p < 8 * n) : nums (bitBytes n p) = bitRow n p := by
  unfold nums bitBytes
  rw [List.map_map]
  apply List.ext_getElem
  · simp
  · intro i h1 h2
    simp only [List.getElem_map, Function.comp_apply]
    rw [bitRow_get hp i h2]
    split
    · rw [UInt8.toNat_ofNat_of_lt' (by simp [UInt8.size]; exact pow_lt p)]
    · rfl
theorem turn_sum {l : List UInt8} {p : Nat} (hp : p < 8 * l.length) : sumB (turn l p) ≠ sumB l := by
  intro h
  have hb : (bitBytes l.length p).length = l.length := by simp [bitBytes, bitRow_length hp]
  have := (sum_same (l := l) (l' := turn l p) (d := bitBytes l.length p) (turn_length l p) hb (fun i hi => by
    rw [turn_get l p i hi]
    simp only [bitBytes, List.getElem_map]
    rw [bitRow_get hp]
    split <;> rfl)).1 h
  rw [nums_bitBytes hp] at this
  exact lin_bitRow hp this
theorem turn_turn {l : List UInt8} {p q : Nat} (hl : l.length ≤ 300) (hp : p < 8 * l.length) (hq : q < 8 * l.length) : sumB (turn (turn l p) q) = sumB l ↔ p = q := by
  have h1 : sumB l ^^^ sumB (turn l p) = lin (bitRow l.length p) := by
    rw [← nums_bitBytes hp]
    exact sum_diff l _ _ (turn_length l p) (by simp [bitBytes, bitRow_length hp]) (fun i hi => by
      rw [turn_get l p i hi]; simp only [bitBytes, List.getElem_map]; rw [bitRow_get hp]; split <;> rfl)
  have hq' : q < 8 * (turn l p).length := by rw [turn_length]; exact hq
  have h2 : sumB (turn l p) ^^^ sumB (turn (turn l p) q) = lin (bitRow l.length q) := by
    rw [← nums_bitBytes hq]
    exact sum_diff _ _ _ (turn_length _ q) (by simp [bitBytes, bitRow_length hq, turn_length]) (fun i hi => by
      rw [turn_get _ q i hi]; simp only [bitBytes, List.getElem_map]; rw [bitRow_get hq]; split <;> rfl)
  constructor
  · intro h
    rw [h, Nat.xor_comm] at h2
    exact lin_bits hl hp hq (h1.symm.trans h2)
  · rintro rfl
    rw [← h1] at h2
    have := congrArg (sumB (turn l p) ^^^ ·) h2
    simp only [xor_twice] at this
    rw [this, Nat.xor_comm (sumB l), xor_twice]
end Go.Proofs.Ytmkijkkddoamgaa.Crc

namespace Go.Proofs.Ytmkijkkddoamgaa.CrcW
open Go.RowKit Go.Proofs Go.Proofs.Ytmkijkkddoamgaa

theorem ret_u32 {a b : Int} (h : a = b) : Ending.returned (.int .u32 a) = .returned (.int .u32 b) := by rw [h]
theorem and1 (n : Nat) (hn : n < 4294967296) : bits .and .u32 (n : Int) 1 = ((n % 2 : Nat) : Int) := by
  have := u32_and_nat n 1 hn (by decide)
  rw [Nat.and_one_is_mod] at this
  exact this
theorem xor32 (a b : Nat) (ha : a < 4294967296) (hb : b < 4294967296) : bits .xor .u32 (a : Int) (b : Int) = ((a ^^^ b : Nat) : Int) := u32_xor_nat a b ha hb
theorem half_any (n : Nat) (hn : n < 4294967296) (w : World) :
    Calls Try.prog 91 #[.int .u32 n] w fun e w' => e = .returned (.int .u32 (Crc.half n : Nat)) ∧ w = w' := by
  by_cases h : n % 2 = 1
  · have h1 : (bits .and .u32 (n : Int) 1 == 1) = true := by rw [and1 n hn, h]; rfl
    have hx : bits .xor .u32 ((n : Int) / 2) 3988292384 = ((Crc.half n : Nat) : Int) := by
      unfold Crc.half; rw [if_pos h]; exact xor32 (n / 2) 3988292384 (by omega) (by decide)
    have HX := Lib.hid hx
    clear hx
    go_enter Try.func91, Try.ntmps91
    go_wp2
    go_ret
    exact ⟨ret_u32 HX.out, rfl⟩
  · have h1 : (bits .and .u32 (n : Int) 1 == 1) = false := by rw [and1 n hn, show n % 2 = 0 by omega]; rfl
    have hx : (n : Int) / 2 = ((Crc.half n : Nat) : Int) := by
      unfold Crc.half; rw [if_neg h]; omega
    have HX := Lib.hid hx
    clear hx
    go_enter Try.func91, Try.ntmps91
    go_wp2
    go_ret
    exact ⟨ret_u32 HX.out, rfl⟩

/-- What 'times(n, step)' makes: the number and the function, boxed. -/
theorem times_any (n : Int) (w : World) :
    Calls Try.prog 90 #[.int .i64 n, .func (.func 91) #[] #[]] w fun e w' => e = .returned (.func (.func 92) #[] #[.pointer (some ⟨w.heap.size, 0, none⟩), .pointer (some ⟨w.heap.size + 1, 0, none⟩)]) ∧
      (w.alloc (.cells #[.int .i64 n] 3)).alloc (.cells #[.func (.func 91) #[] #[]] 137) = w' := by
  go_enter Try.func90, Try.ntmps90
  go_wp2
  go_ret
  exact ⟨rfl, rfl⟩

theorem times1_any (k : Nat) (hk : k ≤ 1000) (n : Nat) (hn : n < 4294967296) (a b : Addr) (w : World) (ha : w.cell? a = some (.int .i64 k)) (hb : w.cell? b = some (.func (.func 91) #[] #[])) :
    Calls Try.prog 92 #[.int .u32 n, .pointer (some a), .pointer (some b)] w fun e w' => e = .returned (.int .u32 (Crc.iter Crc.half k n : Nat)) ∧ w = w' := by
  go_enter Try.func92, Try.ntmps92
  go_wp2
  go_loop [0, 6] (fun v i => ∃ j : Nat, j ≤ k ∧ i = .int .i64 j ∧ v = .int .u32 (Crc.iter Crc.half j n : Nat)) (fun _ i => k - (intOf i).toNat)
  case atStart => exact ⟨0, Nat.zero_le _, rfl, rfl⟩
  case round =>
    obtain ⟨j, hj, rfl, rfl⟩ := hrel
    have hl := Crc.iter_lt (f := Crc.half) (fun _ => Crc.half_lt) j hn
    have HS := Lib.hid (Crc.iter_succ Crc.half j n)
    by_cases hlt : j < k
    · go_wp2_with (go_at_call 91; refine (half_any _ hl _).mono ?_; rintro e w' ⟨rfl, rfl⟩)
      go_round
      case rel => exact ⟨j + 1, by omega, by go_num, by rw [HS.out]⟩
      case measure => simp [intOf]; omega
    · obtain rfl : j = k := by omega
      go_wp2
      go_ret
      exact ⟨rfl, rfl⟩

theorem table_any (i : Nat) (hi : i < 256) (w : World) :
    Calls Try.prog 89 #[.int .u8 i] w fun e w' => e = .returned (.int .u32 (Crc.tab i : Nat)) ∧ Below w.heap.size w w' := by
  go_enter Try.func89, Try.ntmps89
  go_wp2_with (go_at_call 90; refine (times_any _ _).mono ?_; rintro e w' ⟨rfl, rfl⟩)
  refine (times1_any 8 (by omega) i (by omega) _ _ _ (by simp) (by simp)).mono ?_
  rintro e w' ⟨rfl, rfl⟩
  go_wp2
  go_ret
  exact ⟨rfl, ((Below.refl _ w).alloc (Nat.le_refl _) _).alloc (by simp) _⟩

theorem not32 (s : Nat) (hs : s < 4294967296) : bits .xor .u32 IntKind.u32.max (s : Int) = ((Crc.top ^^^ s : Nat) : Int) := xor32 4294967295 s (by decide) hs
theorem through_any (r b : Nat) (hr : r < 4294967296) (hb : b < 256) (w : World) :
    Calls Try.prog 84 #[.int .u32 r, .int .u8 b] w fun e w' => e = .returned (.int .u32 (Crc.thr r b : Nat)) ∧ Below w.heap.size w w' := by
  have hx : bits .xor .u8 ((r : Int) % 256) (b : Int) = (((r % 256) ^^^ b : Nat) : Int) := u8_xor_nat (r % 256) b (by omega) hb
  have hxl : (r % 256) ^^^ b < 256 := Nat.xor_lt_two_pow (n := 8) (by omega) hb
  have hr8 : bits .xor .u32 ((Crc.tab ((r % 256) ^^^ b) : Nat) : Int) ((r : Int) / 256) = ((Crc.thr r b : Nat) : Int) := xor32 _ (r / 256) (Crc.tab_lt (by omega)) (by omega)
  have HX := Lib.hid hx
  have HR := Lib.hid hr8
  clear hx hr8
  go_enter Try.func84, Try.ntmps84
  go_wp2_with fail
  rw [HX.out]
  refine (table_any _ hxl _).mono ?_
  rintro e w1 ⟨rfl, hb1⟩
  go_wp2
  go_ret
  exact ⟨ret_u32 HR.out, hb1⟩

theorem next_any (s b : Nat) (hs : s < 4294967296) (hb : b < 256) (w : World) :
    Calls Try.prog 75 #[.int .u32 s, .int .u8 b] w fun e w' => e = .returned (.int .u32 (Crc.nxt s b : Nat)) ∧ Below w.heap.size w w' := by
  have hx := not32 s hs
  have hl : Crc.top ^^^ s < 4294967296 := Crc.xor_lt (by decide) hs
  have ht : Crc.thr (Crc.top ^^^ s) b < 4294967296 := by rw [Crc.thr_eq]; exact Crc.tab_lt (Crc.xor_lt hl (by omega))
  have hy : bits .xor .u32 IntKind.u32.max ((Crc.thr (Crc.top ^^^ s) b : Nat) : Int) = ((Crc.nxt s b : Nat) : Int) := not32 _ ht
  have HX := Lib.hid hx
  have HY := Lib.hid hy
  clear hx hy
  have hsg : IntKind.u32.signed = false := rfl
  go_enter Try.func75, Try.ntmps75
  go_wp2_with fail
  rw [HX.out]
  refine (through_any _ _ hl hb _).mono ?_
  rintro e w1 ⟨rfl, hb1⟩
  go_wp2
  go_ret
  exact ⟨ret_u32 HY.out, hb1⟩

end Go.Proofs.Ytmkijkkddoamgaa.CrcW

namespace Go.Proofs.Ytmkijkkddoamgaa.CrcW
open Go.RowKit Go.Shelf Go.Proofs Go.Proofs.Ytmkijkkddoamgaa Go.Proofs.Ytmkijkkddoamgaa.Wd
open Go.Proofs.Ytmkijkkddoamgaa.Crc (sumB sumB_lt sumB_snoc)
attribute [local go_sem] Oper.semAt_some

theorem keepsOthers_below {W W' : World} (h : Below W.heap.size W W') : KeepsOthers W W' :=
  ⟨h.size, fun k _ hk _ => (h.block k (Array.getElem?_eq_some_iff.1 hk).1).trans hk⟩

set_option maxRecDepth 100000 in
set_option maxHeartbeats 2000000 in
theorem values1_in (l Bs n₀ : Nat) (A : Option Addr) (cap : Nat) (zs : List UInt8) (hreach : zs.length ≤ 140737488351232) (J Jx : List UInt8 → World → Prop)
    (hY : ∀ pre x W, J pre W → pre.length < zs.length → YieldAt Fence.wide 8 Try.prog l #[.int .u8 (x.toNat : Nat)] W fun e W' =>
      (e = .returned (.bool true) ∧ J (pre ++ [x]) W' ∧ Below n₀ W W') ∨ (e = .returned (.bool false) ∧ Jx (pre ++ [x]) W'))
    (W : World) (hBs : W.cell? ⟨Bs, 0, none⟩ = some (.slice A zs.length cap)) (hc : Bytes W n₀ A zs) (h0 : J [] W) :
    CallsIn Fence.wide 9 Try.prog 83 #[.func (.yield l) #[] #[], .pointer (some ⟨Bs, 0, none⟩)] W fun e W' => (∃ v, e = .returned v) ∧
      (J zs W' ∨ (∃ pre, pre <+: zs ∧ Jx pre W')) := by
  refine callsIn_of_wp Try.func83 rfl trivial ?_ rfl
  simp only [Try.ntmps83, List.size_toArray, List.length_cons, List.length_nil, Nat.reduceAdd, Nat.reduceSub, Array.replicate_succ, Array.replicate_zero, List.push_toArray, List.append_toArray, List.nil_append, List.cons_append]
  gi_wp2
  gi_loopw [7] (fun i wr => ∃ k : Nat, k ≤ zs.length ∧ i = .int .i64 k ∧ J (zs.take k) wr ∧ Below n₀ W wr)
    (fun i _ => zs.length - (intOf i).toNat)
  case atStart => exact ⟨0, Nat.zero_le _, rfl, h0, Below.refl _ _⟩
  case round =>
    obtain ⟨k, hk, rfl, hJs, hnx⟩ := hrel
    by_cases hlt : k < zs.length
    · have HT := Lib.hid (show zs.take (k + 1) = zs.take k ++ [zs[k]] from (List.take_succ_eq_append_getElem hlt))
      obtain ⟨fn, tmps, assign, body, hy, hR⟩ := hY _ zs[k] wr hJs (by rw [List.length_take]; omega)
      obtain ⟨b, off, rfl, hb, hcx⟩ := Bytes.at_ (hc.below hnx) hlt
      have HP := Lib.hid (List.take_prefix (k + 1) zs)
      gi_wp2
      refine hR.mono ?_
      rintro e W3 (⟨rfl, hJ3, hk3⟩ | ⟨rfl, hJx3⟩)
      · gi_wp2
        go_roundw
        case rel => exact ⟨k + 1, by omega, by simp, by rw [HT.out]; exact hJ3, hnx.trans hk3⟩
        case measure => simp [intOf]; omega
      · gi_wp2
        refine bodyPost_ret (results_none rfl _ _ _) rfl ?_
        exact ⟨⟨_, rfl⟩, .inr ⟨_, HT.out ▸ HP.out, hJx3⟩⟩
    · obtain rfl : k = zs.length := by omega
      rw [List.take_length] at hJs
      gi_wp2
      go_end0
      exact ⟨⟨_, rfl⟩, .inl hJs⟩

set_option maxHeartbeats 1000000 in
theorem values_in (a : Option Addr) (len cap : Nat) (w : World) :
    CallsIn Fence.wide 9 Try.prog 74 #[.slice a len cap] w fun e w' => e = .returned (.func (.func 83) #[] #[.pointer (some ⟨w.heap.size, 0, none⟩)]) ∧ w' = w.alloc (.cells #[.slice a len cap] 23) := by
  refine callsIn_of_wp Try.func74 rfl trivial ?_ rfl
  simp only [Try.ntmps74, List.size_toArray, List.length_cons, List.length_nil, Nat.reduceAdd, Nat.reduceSub, Array.replicate_succ, Array.replicate_zero, List.push_toArray, List.append_toArray, List.nil_append, List.cons_append]
  gi_wp2
  go_ret
  exact ⟨rfl, rfl⟩

theorem values_stops (Bs n₀ : Nat) (A : Option Addr) (cap : Nat) (zs : List UInt8) (hreach : zs.length ≤ 140737488351232) (w : World) (hBs : Bs < w.heap.size) (hn₀ : n₀ ≤ w.heap.size)
    (hc : w.cell? ⟨Bs, 0, none⟩ = some (.slice A zs.length cap)) (hI : Bytes w n₀ A zs) :
    SeqStopsK Fence.wide 9 Try.prog 83 #[.pointer (some ⟨Bs, 0, none⟩)] (fun x : UInt8 => #[Value.int .u8 (x.toNat : Nat)]) (Below n₀) (fun ys => ys = zs) (fun pre => pre <+: zs) zs.length w := fun l J Jx W hW _ _ hY h0 => by
  have hc' := (hW.cell (p := ⟨Bs, 0, none⟩) hBs).trans hc
  refine (values1_in l Bs n₀ A cap zs hreach J Jx hY W hc' (hI.below (hW.mono hn₀)) h0).mono ?_
  rintro e W' ⟨he, hj | ⟨pre, hp, hj⟩⟩
  · exact ⟨he, .inl ⟨_, rfl, hj⟩⟩
  · exact ⟨he, .inr ⟨_, hp, hj⟩⟩

set_option maxRecDepth 100000 in
set_option maxHeartbeats 2000000 in
theorem sum_any (A : Option Addr) (cap : Nat) (zs : List UInt8) (hreach : zs.length ≤ 140737488351232) (w : World) (hI : Bytes w w.heap.size A zs) :
    Calls Try.prog 63 #[.slice A zs.length cap] w fun e W' => e = .returned (.int .u32 (sumB zs : Nat)) ∧ Below w.heap.size w W' := by
  refine (callsIn_wide (n := 10)).1 ?_
  refine callsIn_of_wp_marks Try.func63 rfl trivial ?_ rfl
  simp only [Try.ntmps63, List.size_toArray, List.length_cons, List.length_nil, Nat.reduceAdd, Nat.reduceSub, Array.replicate_succ, Array.replicate_zero, List.push_toArray, List.append_toArray, List.nil_append, List.cons_append]
  gi_wp2_with fail
  refine ⟨trivial, ?_⟩
  refine (values_in _ _ _ _).mono ?_
  rintro e w' ⟨rfl, rfl⟩
  gi_wp2
  have bS := Boxed.new w 110 (.int .u32 0)
  have bN := Boxed.new (w.alloc (.cells #[.int .u32 0] 110)) 23 (.slice A zs.length cap)
  rw [World.size_alloc] at bN
  have hB0 : Below w.heap.size w ((w.alloc (.cells #[.int .u32 0] 110)).alloc (.cells #[.slice A zs.length cap] 23)) := ((Below.refl _ w).alloc (Nat.le_refl _) _).alloc (by simp) _
  refine wpIn_rangeFunc_ownG rfl (by omega) (gf := 83) (lb := #[.pointer (some ⟨w.heap.size + 1, 0, none⟩)]) rfl trivial (enters_of Try.func83 (by kernel_rfl) rfl)
    (values_stops (w.heap.size + 1) w.heap.size A cap zs hreach _ (by simp) (by simp; omega) bN.cell (hI.below hB0)) belowK_t (belowK_b (by simp; omega)) (Below.refl _ _) (fun _ => rfl)
    (fun pre W => Boxed W w.heap.size 110 (.int .u32 (sumB pre : Nat)) ∧ Below w.heap.size w W)
    (fun _ _ _ => False)
    (OwnFrom.and (Own.from (boxed_own _ _ _) _) (ownFrom_below (Nat.le_refl _) (by simp; omega)))
    (fun _ _ _ _ _ hs _ _ => hs)
    ⟨bS.alloc _, hB0⟩
    (fun x => { tmps := #[.slice A zs.length cap, undef, .int .u32 0, .pointer (some ⟨w.heap.size, 0, none⟩), .int .u8 (x.toNat : Nat), .slice A zs.length cap, .func (.func 83) #[] #[.pointer (some ⟨w.heap.size + 1, 0, none⟩)], .int .u8 (x.toNat : Nat), undef, undef, undef, undef], defers := [] }) ?assign ?body ?done ?stop
  case assign =>
    intro l x W K hK
    gi_wp2
    exact hK
  case body =>
    rintro l pre x W ⟨hb, hB⟩ _
    have hcb := hb.cell
    have hxl := x.toNat_lt
    have HS := Lib.hid (sumB_snoc pre x)
    gi_wp2_with fail
    refine ⟨trivial, ?_⟩
    refine (CallsIn.inRound l (callsIn_wide.2 (next_any (sumB pre) x.toNat (sumB_lt _) hxl _))).mono ?_
    rintro e W1 ⟨rfl, hB1⟩
    have hb1 : Boxed W1 w.heap.size 110 (.int .u32 (sumB pre : Nat)) := (hB1.block _ hb.lt).trans hb
    have hc1 := hb1.cell
    have hf1 := hb1.frozen
    gi_wp2
    refine ⟨((keepsOthers_below hB1).trans (KeepsOthers.setCell _ _ _)).from _, ((hB1.mono hB.size).setCell (p := ⟨w.heap.size, 0, none⟩) (Nat.le_refl _) _), ?_, (hB.trans (hB1.mono hB.size)).setCell (p := ⟨w.heap.size, 0, none⟩) (Nat.le_refl _) _⟩
    rw [HS.out]; exact hb1.set _
  case done =>
    rintro D ys W hD rfl ⟨hb, hB⟩ hK
    have hcb := hb.cell
    gi_wp2
    refine ⟨by simp, .inl ⟨_, _, rfl, run_takeDeferred hK, ?_⟩⟩
    exact ⟨_, results_tmp rfl _ _ _, rfl, hB.trans (belowK_b (w := w) (Nat.le_refl _) W D _ _ (by simp at hD; omega) hK rfl rfl)⟩
  case stop =>
    rintro D c pre W _ _ h _
    exact h.elim

end Go.Proofs.Ytmkijkkddoamgaa.CrcW

namespace Go.Proofs.Ytmkijkkddoamgaa.CrcW
open Go.RowKit Go.Proofs Go.Proofs.Ytmkijkkddoamgaa Go.Proofs.Ytmkijkkddoamgaa.Wd
open Go.Proofs.Ytmkijkkddoamgaa.Crc (sumB sumB_lt sumB_snoc)

theorem ret_val {a b : Int} (h : a = b) : Value.int .u32 a = .int .u32 b := by rw [h]
theorem u32rem2 (n : Nat) : (n : Int) % 2 = ((n % 2 : Nat) : Int) := by omega
end Go.Proofs.Ytmkijkkddoamgaa.CrcW
