/-
  Plain arithmetic of check sums of 32 bits: halving, bytes through a register, matrices over bits. No program in sight.
-/
namespace Go.Proofs.Ytnclbonoenjbeaa.Crc

def poly : Nat := 3988292384
def top : Nat := 4294967295
def half (n : Nat) : Nat := if n % 2 = 1 then (n / 2) ^^^ poly else n / 2
def iter (f : Nat → Nat) : Nat → Nat → Nat
  | 0, x => x
  | k + 1, x => iter f k (f x)
theorem iter_succ (f : Nat → Nat) (k x : Nat) : iter f (k + 1) x = f (iter f k x) := by
  induction k generalizing x with
  | zero => rfl
  | succ k ih => exact ih (f x)
theorem iter_add (f : Nat → Nat) (a b x : Nat) : iter f (a + b) x = iter f b (iter f a x) := by
  induction a generalizing x with
  | zero => simp [iter]
  | succ a ih => rw [show a + 1 + b = (a + b) + 1 by omega]; exact ih (f x)

theorem xor_lt {a b : Nat} (ha : a < 4294967296) (hb : b < 4294967296) : a ^^^ b < 4294967296 := Nat.xor_lt_two_pow (n := 32) ha hb
theorem half_lt {n : Nat} (h : n < 4294967296) : half n < 4294967296 := by
  unfold half; split
  · exact xor_lt (by omega) (by decide)
  · omega
theorem iter_lt {f : Nat → Nat} (hf : ∀ n, n < 4294967296 → f n < 4294967296) (k : Nat) {n : Nat} (h : n < 4294967296) : iter f k n < 4294967296 := by
  induction k generalizing n with
  | zero => exact h
  | succ k ih => exact ih (hf n h)

theorem xor_two (a b : Nat) : (a ^^^ b) % 2 = (a + b) % 2 := by
  have h := @Nat.xor_mod_two_eq_one a b
  omega
theorem xor_cancel (a b p : Nat) : (a ^^^ p) ^^^ (b ^^^ p) = a ^^^ b := by
  rw [Nat.xor_comm b p, ← Nat.xor_assoc, Nat.xor_assoc a p p, Nat.xor_self, Nat.xor_zero]
theorem xor_right (a b p : Nat) : (a ^^^ p) ^^^ b = (a ^^^ b) ^^^ p := by
  rw [Nat.xor_assoc, Nat.xor_comm p b, ← Nat.xor_assoc]
theorem half_xor (a b : Nat) : half (a ^^^ b) = half a ^^^ half b := by
  unfold half
  have h2 : (a ^^^ b) % 2 = (a + b) % 2 := xor_two a b
  have hd : (a ^^^ b) / 2 = a / 2 ^^^ b / 2 := Nat.xor_div_two
  rw [h2, hd]
  rcases Nat.mod_two_eq_zero_or_one a with ha | ha <;> rcases Nat.mod_two_eq_zero_or_one b with hb | hb
  · rw [if_neg (by omega), if_neg (by omega), if_neg (by omega)]
  · rw [if_pos (by omega), if_neg (by omega), if_pos (by omega), Nat.xor_assoc]
  · rw [if_pos (by omega), if_pos (by omega), if_neg (by omega), xor_right]
  · rw [if_neg (by omega), if_pos (by omega), if_pos (by omega), xor_cancel]
theorem iter_xor {f : Nat → Nat} (hf : ∀ a b, f (a ^^^ b) = f a ^^^ f b) (k a b : Nat) : iter f k (a ^^^ b) = iter f k a ^^^ iter f k b := by
  induction k generalizing a b with
  | zero => rfl
  | succ k ih => show iter f k (f (a ^^^ b)) = _; rw [hf, ih]; rfl

/-- A byte's number. -/
def tab (n : Nat) : Nat := iter half 8 n
theorem tab_lt {n : Nat} (h : n < 4294967296) : tab n < 4294967296 := iter_lt (fun _ => half_lt) 8 h
theorem tab_xor (a b : Nat) : tab (a ^^^ b) = tab a ^^^ tab b := iter_xor half_xor 8 a b
theorem half_two (n : Nat) : half (2 * n) = n := by unfold half; rw [if_neg (by omega)]; omega
theorem tab_256 (n : Nat) : tab (256 * n) = n := by
  show half (half (half (half (half (half (half (half (256 * n)))))))) = n
  rw [show 256 * n = 2 * (2 * (2 * (2 * (2 * (2 * (2 * (2 * n))))))) by omega]
  simp only [half_two]
theorem tab_zero : tab 0 = 0 := by decide
theorem split_256 (r : Nat) : r = (r % 256) ^^^ (256 * (r / 256)) := by
  apply Nat.eq_of_testBit_eq
  intro i
  rw [Nat.testBit_xor, show 256 = 2 ^ 8 from rfl, Nat.testBit_mod_two_pow, Nat.testBit_two_pow_mul, Nat.testBit_div_two_pow]
  by_cases h : i < 8
  · simp [h, show ¬ 8 ≤ i by omega]
  · simp [h, show 8 ≤ i by omega]
/-- A byte goes through the register. -/
def thr (r b : Nat) : Nat := tab ((r % 256) ^^^ b) ^^^ (r / 256)
theorem thr_eq (r b : Nat) : thr r b = tab (r ^^^ b) := by
  unfold thr
  conv => rhs; rw [split_256 r]
  rw [xor_right, tab_xor _ (256 * (r / 256)), tab_256]
def nxt (s b : Nat) : Nat := top ^^^ thr (top ^^^ s) b
theorem nxt_lt {s b : Nat} (hs : s < 4294967296) (hb : b < 256) : nxt s b < 4294967296 := by
  unfold nxt; rw [thr_eq]
  exact xor_lt (by decide) (tab_lt (xor_lt (xor_lt (by decide) hs) (by omega)))
theorem top_xor {s : Nat} (hs : s < 4294967296) : top ^^^ s = 4294967295 - s := by
  have h := congrArg BitVec.toNat (BitVec.not_def (x := BitVec.ofNat 32 s))
  rw [BitVec.toNat_not, BitVec.toNat_xor, BitVec.toNat_allOnes, BitVec.toNat_ofNat, Nat.mod_eq_of_lt (by simpa using hs)] at h
  exact h.symm
def sum (l : List Nat) : Nat := l.foldl nxt 0
theorem fold_lt (l : List Nat) (hl : ∀ b ∈ l, b < 256) : ∀ s, s < 4294967296 → l.foldl nxt s < 4294967296 := by
  induction l with
  | nil => intro s hs; exact hs
  | cons b l ih => intro s hs; exact ih (fun x hx => hl x (by simp [hx])) _ (nxt_lt hs (hl b (by simp)))
theorem sum_lt (l : List Nat) (hl : ∀ b ∈ l, b < 256) : sum l < 4294967296 := fold_lt l hl 0 (by decide)

theorem nxt_eq (s b : Nat) : nxt s b = tab s ^^^ nxt 0 b := by
  unfold nxt
  rw [thr_eq, thr_eq, tab_xor, tab_xor, tab_xor, tab_xor, tab_zero, Nat.xor_zero]
  generalize tab top = t; generalize tab s = u; generalize tab b = v
  rw [Nat.xor_assoc t u v, ← Nat.xor_assoc u, Nat.xor_comm t, ← Nat.xor_assoc, ← Nat.xor_assoc, ← Nat.xor_assoc, Nat.xor_comm top u, Nat.xor_assoc u, Nat.xor_assoc u, Nat.xor_assoc u, Nat.xor_assoc top, Nat.xor_comm v t, Nat.xor_assoc, Nat.xor_assoc]
theorem fold_eq (l : List Nat) (s : Nat) : l.foldl nxt s = iter tab l.length s ^^^ sum l := by
  induction l generalizing s with
  | nil => show s = s ^^^ 0; rw [Nat.xor_zero]
  | cons b l ih =>
    show l.foldl nxt (nxt s b) = iter tab l.length (tab s) ^^^ l.foldl nxt (nxt 0 b)
    rw [ih, ih (nxt 0 b), nxt_eq s, iter_xor tab_xor, Nat.xor_assoc]
theorem sum_append (a b : List Nat) : sum (a ++ b) = iter tab b.length (sum a) ^^^ sum b := by
  unfold sum; rw [List.foldl_append]; exact fold_eq b _

/-- Joined. -/
def join (a b : Nat) (n : Nat) : Nat := iter tab n a ^^^ b

/-- The linear part. -/
def lin (l : List Nat) : Nat := l.foldl (fun r b => tab (r ^^^ b)) 0
theorem lin_snoc (l : List Nat) (b : Nat) : lin (l ++ [b]) = tab (lin l ^^^ b) := by simp [lin]
theorem sum_snoc (l : List Nat) (b : Nat) : sum (l ++ [b]) = nxt (sum l) b := by simp [sum]
theorem nxt0 (b : Nat) : nxt 0 b = (top ^^^ tab top) ^^^ tab b := by
  unfold nxt; rw [thr_eq, tab_xor, tab_xor, tab_zero, Nat.xor_zero, Nat.xor_assoc]
/-- Of two rows of one length the sums differ as the linear part of what they differ by. -/
theorem sum_xor (l : List (Nat × Nat)) : sum (l.map (·.1)) ^^^ sum (l.map (·.2)) = lin (l.map fun p => p.1 ^^^ p.2) := by
  suffices h : ∀ (r : List (Nat × Nat)), sum ((r.reverse).map (·.1)) ^^^ sum ((r.reverse).map (·.2)) = lin ((r.reverse).map fun p => p.1 ^^^ p.2) by
    simpa using h l.reverse
  intro r
  induction r with
  | nil => decide
  | cons p r ih =>
    rw [List.reverse_cons, List.map_append, List.map_append, List.map_append, List.map_singleton, List.map_singleton, List.map_singleton, sum_snoc, sum_snoc, lin_snoc, ← ih, nxt_eq, nxt_eq (sum _) p.2, nxt0, nxt0, tab_xor, tab_xor, tab_xor]
    generalize tab (sum _) = x; generalize tab (sum _) = y; generalize top ^^^ tab top = c; generalize tab p.1 = u; generalize tab p.2 = v
    rw [Nat.xor_comm c u, Nat.xor_comm c v, ← Nat.xor_assoc x, ← Nat.xor_assoc y, xor_cancel, Nat.xor_assoc x, Nat.xor_assoc x, ← Nat.xor_assoc u, Nat.xor_comm u y, Nat.xor_assoc y]

theorem half_inj {a b : Nat} (ha : a < 4294967296) (hb : b < 4294967296) (h : half a = half b) : a = b := by
  have key : ∀ x y : Nat, x < 2147483648 → y < 2147483648 → x ^^^ poly ≠ y := by
    intro x y hx hy e
    have h31 := congrArg (fun n => Nat.testBit n 31) e
    simp only [Nat.testBit_xor] at h31
    rw [Nat.testBit_lt_two_pow (x := x) (i := 31) hx, Nat.testBit_lt_two_pow (x := y) (i := 31) hy] at h31
    exact absurd h31 (by decide)
  unfold half at h
  rcases Nat.mod_two_eq_zero_or_one a with h1 | h1 <;> rcases Nat.mod_two_eq_zero_or_one b with h2 | h2
  · rw [if_neg (by omega), if_neg (by omega)] at h; omega
  · rw [if_neg (by omega), if_pos (by omega)] at h; exact absurd h.symm (key _ _ (by omega) (by omega))
  · rw [if_pos (by omega), if_neg (by omega)] at h; exact absurd h (key _ _ (by omega) (by omega))
  · rw [if_pos (by omega), if_pos (by omega)] at h
    have h' := congrArg (· ^^^ poly) h
    simp only [Nat.xor_assoc, Nat.xor_self, Nat.xor_zero] at h'
    omega
theorem iter_inj {f : Nat → Nat} (hlt : ∀ n, n < 4294967296 → f n < 4294967296) (hf : ∀ a b, a < 4294967296 → b < 4294967296 → f a = f b → a = b) (k : Nat) {a b : Nat} (ha : a < 4294967296) (hb : b < 4294967296) (h : iter f k a = iter f k b) : a = b := by
  induction k generalizing a b with
  | zero => exact h
  | succ k ih => exact hf a b ha hb (ih (hlt a ha) (hlt b hb) h)
theorem tab_inj {a b : Nat} (ha : a < 4294967296) (hb : b < 4294967296) (h : tab a = tab b) : a = b := iter_inj (fun _ => half_lt) (fun _ _ => half_inj) 8 ha hb h
theorem xor_eq_zero {a b : Nat} (h : a ^^^ b = 0) : a = b := by
  have := congrArg (· ^^^ b) h
  simpa [Nat.xor_assoc, Nat.xor_self] using this

theorem lin_zeros (n : Nat) : lin (List.replicate n 0) = 0 := by
  induction n with
  | zero => rfl
  | succ n ih => rw [List.replicate_succ', lin_snoc, ih]; decide
theorem fold_lin (l : List Nat) (r : Nat) : l.foldl (fun r b => tab (r ^^^ b)) r = iter tab l.length r ^^^ lin l := by
  induction l generalizing r with
  | nil => show r = r ^^^ 0; rw [Nat.xor_zero]
  | cons b l ih =>
    show l.foldl _ (tab (r ^^^ b)) = iter tab l.length (tab r) ^^^ l.foldl _ (tab (0 ^^^ b))
    rw [ih, ih (tab (0 ^^^ b)), Nat.zero_xor, tab_xor, iter_xor tab_xor, Nat.xor_assoc]
theorem lin_append (a b : List Nat) : lin (a ++ b) = iter tab b.length (lin a) ^^^ lin b := by
  unfold lin; rw [List.foldl_append]; exact fold_lin b _
theorem lin_lt (l : List Nat) (hl : ∀ b ∈ l, b < 256) : lin l < 4294967296 := by
  unfold lin
  suffices h : ∀ r, r < 4294967296 → l.foldl (fun r b => tab (r ^^^ b)) r < 4294967296 from h 0 (by decide)
  induction l with
  | nil => intro r hr; exact hr
  | cons b l ih => intro r hr; exact ih (fun x hx => hl x (by simp [hx])) _ (tab_lt (xor_lt hr (by have := hl b (by simp); omega)))
theorem iter_tab_zero (n : Nat) : iter tab n 0 = 0 := by
  induction n with
  | zero => rfl
  | succ n ih => show iter tab n (tab 0) = 0; rw [tab_zero]; exact ih
/-- Four bytes beside one another: none of them makes nought but noughts. -/
theorem lin_four {a b c d : Nat} (ha : a < 256) (hb : b < 256) (hc : c < 256) (hd : d < 256) (h : lin [a, b, c, d] = 0) : a = 0 ∧ b = 0 ∧ c = 0 ∧ d = 0 := by
  have e : lin [a, b, c, d] = tab (tab (tab (tab (0 ^^^ a) ^^^ b) ^^^ c) ^^^ d) := rfl
  rw [e, Nat.zero_xor] at h
  have l1 : tab a < 4294967296 := tab_lt (by omega)
  have l2 : tab (tab a ^^^ b) < 4294967296 := tab_lt (xor_lt l1 (by omega))
  have l3 : tab (tab (tab a ^^^ b) ^^^ c) < 4294967296 := tab_lt (xor_lt l2 (by omega))
  have h1 := xor_eq_zero (tab_inj (xor_lt l3 (by omega)) (by decide) (h.trans tab_zero.symm))
  have h2 := tab_inj (xor_lt l2 (by omega)) (by omega) (h1.trans (tab_256 d).symm)
  have h3 : tab (tab a ^^^ b) = tab (256 * (c ^^^ 256 * d)) := by
    rw [tab_256]
    have := congrArg (· ^^^ c) h2
    simp only [Nat.xor_assoc, Nat.xor_self, Nat.xor_zero] at this
    rw [this, Nat.xor_comm]
  have b1 : c ^^^ 256 * d < 65536 := Nat.xor_lt_two_pow (n := 16) (by omega) (by omega)
  have h4 := tab_inj (xor_lt l1 (by omega)) (by omega) h3
  have h5 : tab a = tab (256 * (b ^^^ 256 * (c ^^^ 256 * d))) := by
    rw [tab_256]
    have := congrArg (· ^^^ b) h4
    simp only [Nat.xor_assoc, Nat.xor_self, Nat.xor_zero] at this
    rw [this, Nat.xor_comm]
  have b2 : b ^^^ 256 * (c ^^^ 256 * d) < 16777216 := Nat.xor_lt_two_pow (n := 24) (by omega) (by omega)
  have h6 := tab_inj (by omega) (by omega) h5
  have z1 : b ^^^ 256 * (c ^^^ 256 * d) = 0 := by omega
  have z2 := xor_eq_zero z1
  have z3 : c ^^^ 256 * d = 0 := by omega
  have z4 := xor_eq_zero z3
  omega

/-- A bit's number, so many halvings on. -/
theorem pow_half (j : Nat) (hj : j ≤ 7) : 2 ^ j = iter half (7 - j) 128 := by
  match j, hj with
  | 0, _ => decide
  | 1, _ => decide
  | 2, _ => decide
  | 3, _ => decide
  | 4, _ => decide
  | 5, _ => decide
  | 6, _ => decide
  | 7, _ => decide
theorem iter_tab (n x : Nat) : iter tab n x = iter half (8 * n) x := by
  induction n generalizing x with
  | zero => rfl
  | succ n ih => rw [show 8 * (n + 1) = 8 + 8 * n by omega, iter_add half]; exact ih _
/-- One bit alone, in a row of n bytes. -/
theorem lin_bit (n p : Nat) (_hp : p < 8 * n) : lin (List.replicate (p / 8) 0 ++ [2 ^ (p % 8)] ++ List.replicate (n - 1 - p / 8) 0) = iter half (8 * n + 7 - p) 128 := by
  rw [lin_append, lin_zeros, Nat.xor_zero, lin_snoc, lin_zeros, Nat.zero_xor, List.length_replicate, iter_tab, pow_half _ (by omega)]
  show iter half _ (iter half 8 _) = _
  rw [← iter_add, ← iter_add]
  congr 1; omega
def back : Nat → Nat → Bool
  | 0, _ => true
  | k + 1, x => half x != 128 && back k (half x)
theorem back_ne : ∀ (k x : Nat), back k x = true → ∀ j, 1 ≤ j → j ≤ k → iter half j x ≠ 128
  | 0, _, _, j, h1, h2 => by omega
  | k + 1, x, h, j, h1, h2 => by
    simp only [back, Bool.and_eq_true, bne_iff_ne] at h
    match j, h1 with
    | 1, _ => exact h.1
    | j + 2, _ => exact back_ne k (half x) h.2 (j + 1) (by omega) (by omega)
theorem back_far : back 2400 128 = true := by decide +kernel
theorem two_bits {n p q : Nat} (hn : n ≤ 300) (_hp : p < 8 * n) (hq : q < 8 * n) (hpq : p < q) : iter half (8 * n + 7 - p) 128 ≠ iter half (8 * n + 7 - q) 128 := by
  intro h
  rw [show 8 * n + 7 - p = (q - p) + (8 * n + 7 - q) by omega, iter_add] at h
  exact back_ne 2400 128 back_far (q - p) (by omega) (by omega) (iter_inj (fun _ => half_lt) (fun _ _ => half_inj) _ (iter_lt (fun _ => half_lt) _ (by decide)) (by decide) h)
theorem one_bit {n p : Nat} (_hp : p < 8 * n) : iter half (8 * n + 7 - p) 128 ≠ 0 := by
  have hz : ∀ k, iter half k 0 = 0 := by
    intro k; induction k with
    | zero => rfl
    | succ k ih => exact ih
  intro h
  have := iter_inj (fun _ => half_lt) (fun _ _ => half_inj) _ (a := 128) (b := 0) (by decide) (by decide) (h.trans (hz _).symm)
  omega

/-- The document's byte, bit by bit. -/
def rstep : Nat × Nat → Nat × Nat := fun (r, x) => (if (r + x) % 2 = 1 then (r / 2) ^^^ poly else r / 2, x / 2)
def rsteps : Nat → Nat × Nat → Nat × Nat
  | 0, s => s
  | k + 1, s => rstep (rsteps k s)
theorem rstep_xor (s : Nat × Nat) : (rstep s).1 ^^^ (rstep s).2 = half (s.1 ^^^ s.2) := by
  obtain ⟨r, x⟩ := s
  unfold rstep half
  dsimp only
  rw [xor_two, Nat.xor_div_two]
  split
  · exact xor_right _ _ _
  · rfl
theorem rsteps_xor (k : Nat) (s : Nat × Nat) : (rsteps k s).1 ^^^ (rsteps k s).2 = iter half k (s.1 ^^^ s.2) := by
  induction k with
  | zero => rfl
  | succ k ih => rw [iter_succ, ← ih]; exact rstep_xor _
theorem rsteps_snd (k : Nat) (s : Nat × Nat) : (rsteps k s).2 = s.2 / 2 ^ k := by
  induction k with
  | zero => simp [rsteps]
  | succ k ih => show (rsteps k s).2 / 2 = _; rw [ih, Nat.pow_succ, Nat.div_div_eq_div_mul]
theorem rsteps_eight {r b : Nat} (hb : b < 256) : (rsteps 8 (r, b)).1 = thr r b := by
  have h := rsteps_xor 8 (r, b)
  rw [rsteps_snd 8 (r, b), Nat.div_eq_of_lt (show b < 2 ^ 8 from hb), Nat.xor_zero] at h
  rw [h, thr_eq]; rfl

theorem rsteps_lt (k : Nat) {s : Nat × Nat} (h : s.1 < 4294967296) : (rsteps k s).1 < 4294967296 := by
  induction k with
  | zero => exact h
  | succ k ih =>
    show (rstep (rsteps k s)).1 < _
    generalize rsteps k s = p at ih ⊢
    obtain ⟨r, x⟩ := p
    unfold rstep
    dsimp only at ih ⊢
    split
    · exact xor_lt (by omega) (by decide)
    · omega
theorem rsteps_le2 (k : Nat) {s : Nat × Nat} : (rsteps k s).2 ≤ s.2 := by
  rw [rsteps_snd]; exact Nat.div_le_self _ _
/-! Matrices over bits: a column a bit. -/
def applyTo (m : Nat → Nat) (n : Nat) : Nat → Nat
  | 0 => 0
  | k + 1 => if n / 2 ^ k % 2 = 1 then applyTo m n k ^^^ m k else applyTo m n k
theorem applyTo_lt (m : Nat → Nat) (hm : ∀ j, j < 32 → m j < 4294967296) (n k : Nat) (hk : k ≤ 32) : applyTo m n k < 4294967296 := by
  induction k with
  | zero => simp [applyTo]
  | succ k ih => rw [applyTo]; split <;> first | exact xor_lt (ih (by omega)) (hm k (by omega)) | exact ih (by omega)
theorem mod_succ (n k : Nat) : n % 2 ^ (k + 1) = n % 2 ^ k ^^^ (if n / 2 ^ k % 2 = 1 then 2 ^ k else 0) := by
  apply Nat.eq_of_testBit_eq
  intro i
  rw [Nat.testBit_xor, Nat.testBit_mod_two_pow, Nat.testBit_mod_two_pow]
  have hb : n.testBit k = decide (n / 2 ^ k % 2 = 1) := Nat.testBit_eq_decide_div_mod_eq
  by_cases h : n / 2 ^ k % 2 = 1
  · rw [if_pos h, Nat.testBit_two_pow]
    rcases Nat.lt_trichotomy i k with hl | rfl | hg
    · simp [hl, show i < k + 1 by omega, show ¬ k = i by omega]
    · simp [hb, h]
    · simp [show ¬ i < k by omega, show ¬ i < k + 1 by omega, show ¬ k = i by omega]
  · rw [if_neg h]
    rcases Nat.lt_trichotomy i k with hl | rfl | hg
    · simp [hl, show i < k + 1 by omega]
    · simp [hb, h]
    · simp [show ¬ i < k by omega, show ¬ i < k + 1 by omega]
theorem applyTo_lin {f : Nat → Nat} (hf : ∀ a b, f (a ^^^ b) = f a ^^^ f b) (h0 : f 0 = 0) (n k : Nat) {m : Nat → Nat} (hm : ∀ i, i < k → m i = f (2 ^ i)) : applyTo m n k = f (n % 2 ^ k) := by
  induction k with
  | zero => simp [applyTo, Nat.mod_one, h0]
  | succ k ih =>
    rw [applyTo, ih (fun i hi => hm i (by omega)), mod_succ, hf]
    split
    · rw [hm k (by omega)]
    · rw [h0, Nat.xor_zero]
theorem applyTo_all {f : Nat → Nat} (hf : ∀ a b, f (a ^^^ b) = f a ^^^ f b) (h0 : f 0 = 0) {n : Nat} (hn : n < 4294967296) {m : Nat → Nat} (hm : ∀ i, i < 32 → m i = f (2 ^ i)) : applyTo m n 32 = f n := by
  rw [applyTo_lin hf h0 n 32 hm, Nat.mod_eq_of_lt (by simpa using hn)]
theorem iter_two (f : Nat → Nat) (k x : Nat) : iter f (2 * k) x = iter (fun y => f (f y)) k x := by
  induction k generalizing x with
  | zero => rfl
  | succ k ih => rw [show 2 * (k + 1) = 2 * k + 1 + 1 by omega]; exact ih _
end Go.Proofs.Ytnclbonoenjbeaa.Crc
