/-
  What is met from a vertex on; how a turn is done, one vertex after the other: plainly.
-/
import Derived.Test.YtelplccbcbegkaaOrderPl2
namespace Go.Proofs.Ytelplccbcbegkaa.Ord
set_option linter.unusedVariables false
open Go.Proofs.Ytelplccbcbegkaa.Gr (E Path Inside OK outs intos Cyc putL)

/-- Numbers as they lie. -/
def zs (l : List Nat) : List Int := l.map fun (k : Nat) => (k : Int)
theorem zs_length (l : List Nat) : (zs l).length = l.length := by simp [zs]
theorem zs_append (l m : List Nat) : zs (l ++ m) = zs l ++ zs m := by simp [zs]
theorem zs_at {l : List Nat} {i : Nat} (h : i < l.length) : (zs l)[i]'(by rw [zs_length]; exact h) = (l[i] : Int) := by simp [zs]
theorem zs_getD {l : List Nat} {i : Nat} (h : i < l.length) : (zs l)[i]'(by rw [zs_length]; exact h) = (l.getD i 0 : Int) := by simp [zs, List.getD, h]
theorem zs_inj {l m : List Nat} (h : zs l = zs m) : l = m := by
  unfold zs at h
  exact (List.map_inj_right (fun x y e => by omega)).1 h
theorem zs_set (l : List Nat) (i v : Nat) : (zs l).set i (v : Int) = zs (l.set i v) := by simp [zs, List.map_set]
theorem mem_zs {l : List Nat} {k : Nat} : (k : Int) ∈ zs l ↔ k ∈ l := by
  unfold zs
  rw [List.mem_map]
  exact ⟨fun ⟨a, h1, h2⟩ => by have : a = k := by omega
                               rw [← this]; exact h1, fun h => ⟨k, h, rfl⟩⟩
theorem zs_nats {l : List Int} (h : ∀ x ∈ l, 0 ≤ x) : l = zs (l.map Int.toNat) := by
  unfold zs
  rw [List.map_map]
  have e : l.map ((fun (k : Nat) => (k : Int)) ∘ Int.toNat) = l.map id := List.map_congr_left fun x hx => by
    have := h x hx
    simp only [Function.comp, id]
    omega
  rw [e, List.map_id]
/-- Numbers, sorted. -/
theorem zs_sorted (l : List Nat) : ∃ m : List Nat, ((zs l).mergeSort fun x y => decide (x ≤ y)) = zs m ∧ m.Perm l ∧ m.Pairwise (· ≤ ·) := by
  have hp := List.mergeSort_perm (zs l) (fun x y => decide (x ≤ y))
  have hs := List.pairwise_mergeSort (le := fun (x y : Int) => decide (x ≤ y)) (by intro a b c h1 h2; simp at *; omega) (by intro a b; simp; omega) (zs l)
  have e := zs_nats (l := (zs l).mergeSort fun x y => decide (x ≤ y)) (fun x hx => by
    have := hp.mem_iff.1 hx
    unfold zs at this
    obtain ⟨k, -, rfl⟩ := List.mem_map.1 this
    omega)
  refine ⟨_, e, ?_, ?_⟩
  · have := hp.map Int.toNat
    refine this.trans (List.Perm.of_eq ?_)
    unfold zs
    rw [List.map_map]
    have e : l.map (Int.toNat ∘ fun (k : Nat) => (k : Int)) = l.map id := List.map_congr_left fun x _ => by simp
    rw [e, List.map_id]
  · rw [List.pairwise_map]
    refine hs.imp fun {a b} h => ?_
    have : a ≤ b := by simpa using h
    omega
theorem strict_of {l : List Nat} (h : l.Pairwise (· ≤ ·)) (hn : l.Nodup) : l.Pairwise (· < ·) := by
  rw [List.nodup_iff_pairwise_ne] at hn
  exact (h.and hn).imp fun h => by omega
section
variable (nx : Nat → List Int) (q : Nat → Bool)
/-- What is met behind a vertex that was not met. -/
structure PGo (K K' : List Nat) (x : Nat) : Prop where
  pre : ∃ t, K' = K ++ x :: t
  nodup : K'.Nodup
  way : ∀ y ∈ K', y ∈ K ∨ Way nx q x y
  closed : ∀ y ∈ K', y ∈ K ∨ ∀ z : Nat, (z : Int) ∈ nx y → q z = true → z ∈ K'
/-- What is met while a vertex's row is gone along. -/
structure PScan (K K' : List Nat) (x j : Nat) : Prop where
  pre : ∃ t, K' = K ++ x :: t
  nodup : K'.Nodup
  way : ∀ y ∈ K', y ∈ K ∨ Way nx q x y
  closed : ∀ y ∈ K', y ∈ K ∨ y = x ∨ ∀ z : Nat, (z : Int) ∈ nx y → q z = true → z ∈ K'
  done : ∀ z : Nat, (z : Int) ∈ (nx x).take j → q z = true → z ∈ K'
end
section
variable {nx : Nat → List Int} {q : Nat → Bool} {K K' : List Nat} {x j : Nat}
theorem PScan.start (h : K.Nodup) (hx : x ∉ K) : PScan nx q K (K ++ [x]) x 0 where
  pre := ⟨[], rfl⟩
  nodup := by
    rw [List.nodup_append]
    exact ⟨h, by simp, fun a ha b hb => by
      have : b = x := by simpa using hb
      subst this
      intro e
      exact hx (e ▸ ha)⟩
  way := fun y hy => by
    rcases List.mem_append.1 hy with h | h
    · exact .inl h
    · have : y = x := by simpa using h
      subst this
      exact .inr (.refl _)
  closed := fun y hy => by
    rcases List.mem_append.1 hy with h | h
    · exact .inl h
    · exact .inr (.inl (by simpa using h))
  done := fun z hz => by simp at hz
theorem take_mem {l : List Int} {j : Nat} (hj : j < l.length) {a : Int} : a ∈ l.take (j + 1) ↔ a ∈ l.take j ∨ a = l[j] := by
  rw [List.take_succ_eq_append_getElem hj, List.mem_append, List.mem_singleton]
theorem PScan.skip (h : PScan nx q K K' x j) (hj : j < (nx x).length) {z : Nat} (hz : (nx x)[j] = (z : Int)) (hs : z ∈ K' ∨ q z = false) : PScan nx q K K' x (j + 1) where
  pre := h.pre
  nodup := h.nodup
  way := h.way
  closed := h.closed
  done := fun y hy hq => by
    rcases (take_mem hj).1 hy with h1 | h1
    · exact h.done y h1 hq
    · have : y = z := by omega
      subst this
      rcases hs with hs | hs
      · exact hs
      · rw [hs] at hq; cases hq
theorem PScan.go (h : PScan nx q K K' x j) (hj : j < (nx x).length) {z : Nat} (hz : (nx x)[j] = (z : Int)) (hq : q z = true) {K2 : List Nat} (hg : PGo nx q K' K2 z) : PScan nx q K K2 x (j + 1) := by
  obtain ⟨t, e⟩ := h.pre
  obtain ⟨t2, e2⟩ := hg.pre
  have sub : ∀ {y}, y ∈ K' → y ∈ K2 := fun {y} hy => by rw [e2]; exact List.mem_append_left _ hy
  have hzm : (z : Int) ∈ nx x := by rw [← hz]; exact List.getElem_mem hj
  refine ⟨⟨t ++ z :: t2, by rw [e2, e]; simp⟩, hg.nodup, fun y hy => ?_, fun y hy => ?_, fun y hy hyq => ?_⟩
  · rcases hg.way y hy with h1 | h1
    · exact h.way y h1
    · exact .inr (Way.head hzm hq h1)
  · rcases hg.closed y hy with h1 | h1
    · rcases h.closed y h1 with h2 | h2 | h2
      · exact .inl h2
      · exact .inr (.inl h2)
      · exact .inr (.inr fun z hz hq => sub (h2 z hz hq))
    · exact .inr (.inr h1)
  · rcases (take_mem hj).1 hy with h1 | h1
    · exact sub (h.done y h1 hyq)
    · have : y = z := by omega
      subst this
      rw [e2]; simp
theorem PScan.end_ (h : PScan nx q K K' x (nx x).length) : PGo nx q K K' x where
  pre := h.pre
  nodup := h.nodup
  way := h.way
  closed := fun y hy => by
    rcases h.closed y hy with h1 | h1 | h1
    · exact .inl h1
    · subst h1
      exact .inr fun z hz hq => h.done z (by rw [List.take_length]; exact hz) hq
    · exact .inr h1
theorem PGo.mem (h : PGo nx q [] K' x) {y : Nat} : y ∈ K' ↔ Way nx q x y := by
  obtain ⟨t, e⟩ := h.pre
  constructor
  · intro hy
    rcases h.way y hy with h1 | h1
    · simp at h1
    · exact h1
  · intro hw
    induction hw with
    | refl => rw [e]; simp
    | step _ h2 h3 ih =>
      rcases h.closed _ ih with h1 | h1
      · simp at h1
      · exact h1 _ h2 h3
/-- What is met, by its places, sorted. -/
theorem PGo.part {n : Nat} {P A : List Nat} (hP : Perm n P A) (h : PGo nx q [] K' x) (hn : ∀ y ∈ K', y < n) {m : List Nat} (hm : m.Perm (K'.map fun y => P.getD y 0)) (hs : m.Pairwise (· ≤ ·)) : IsPart nx q P x m := by
  have hnd : (K'.map fun y => P.getD y 0).Nodup := by
    have := h.nodup
    rw [List.nodup_iff_pairwise_ne] at this ⊢
    rw [List.pairwise_map]
    refine List.pairwise_iff_forall_sublist.2 fun {a b} hab e => ?_
    exact List.pairwise_iff_forall_sublist.1 this hab (hP.inj (hn a (hab.subset (by simp))) (hn b (hab.subset (by simp))) e)
  refine ⟨strict_of hs (hm.nodup_iff.2 hnd), fun p => ?_⟩
  rw [hm.mem_iff, List.mem_map]
  constructor
  · rintro ⟨y, h1, h2⟩
    exact ⟨y, h.mem.1 h1, h2⟩
  · rintro ⟨y, h1, h2⟩
    exact ⟨y, h.mem.2 h1, h2⟩
end
section
variable {n : Nat} {P A back fore pl : List Nat}
theorem setAll_snoc (l : List Nat) (ps : List (Nat × Nat)) (x : Nat × Nat) : setAll l (ps ++ [x]) = (setAll l ps).set x.1 x.2 := by simp [setAll]
/-- A turn, as far as it is done. -/
def partP (P A back fore pl : List Nat) (i : Nat) : List Nat := setAll P (((whoL A back fore).zip pl).take i)
def partA (A back fore pl : List Nat) (i : Nat) : List Nat := setAll A ((pl.zip (whoL A back fore)).take i)
def partC (P A back fore pl : List Nat) (i : Nat) : Nat := (((whoL A back fore).zip pl).take i).countP (chg P)
theorem partP_length (P A back fore pl : List Nat) (i : Nat) : (partP P A back fore pl i).length = P.length := setAll_length _ _
theorem partA_length (A back fore pl : List Nat) (i : Nat) : (partA A back fore pl i).length = A.length := setAll_length _ _
theorem whoL_at {A back fore : List Nat} {i : Nat} (h : i < (back ++ fore).length) : (whoL A back fore)[i]'(by unfold whoL; rw [List.length_map]; exact h) = A.getD (back ++ fore)[i] 0 := by unfold whoL; rw [List.getElem_map]
theorem partP_succ (hw : (whoL A back fore).length = pl.length) {i : Nat} (hi : i < pl.length) : partP P A back fore pl (i + 1) = (partP P A back fore pl i).set ((whoL A back fore)[i]'(by omega)) pl[i] := by
  unfold partP
  rw [List.take_succ_eq_append_getElem (by rw [List.length_zip]; omega), setAll_snoc, List.getElem_zip]
theorem partA_succ (hw : (whoL A back fore).length = pl.length) {i : Nat} (hi : i < pl.length) : partA A back fore pl (i + 1) = (partA A back fore pl i).set pl[i] ((whoL A back fore)[i]'(by omega)) := by
  unfold partA
  rw [List.take_succ_eq_append_getElem (by rw [List.length_zip]; omega), setAll_snoc, List.getElem_zip]
theorem partC_succ (hw : (whoL A back fore).length = pl.length) {i : Nat} (hi : i < pl.length) : partC P A back fore pl (i + 1) = partC P A back fore pl i + if P.getD ((whoL A back fore)[i]'(by omega)) 0 ≠ pl[i] then 1 else 0 := by
  unfold partC
  rw [List.take_succ_eq_append_getElem (by rw [List.length_zip]; omega), List.countP_append, List.getElem_zip]
  simp [chg, List.countP_cons]
theorem partP_at (hP : Perm n P A) (h : Parts n back fore pl) {i : Nat} (hi : i < pl.length) : (partP P A back fore pl i).getD ((whoL A back fore)[i]'(by rw [who_len h]; exact hi)) 0 = P.getD ((whoL A back fore)[i]'(by rw [who_len h]; exact hi)) 0 := by
  have hw := who_len (A := A) h
  have hnd := who_nodup hP h
  have hi2 : i < (back ++ fore).length := by rw [← h.all.length_eq]; exact hi
  unfold partP
  refine setAll_other _ P _ ?_ fun x hx e => ?_
  · rw [whoL_at hi2, hP.lp]
    exact (hP.ap _ (h.lt (List.getElem_mem hi2))).1
  · obtain ⟨j, hj, rfl⟩ := List.getElem_of_mem hx
    rw [List.length_take, List.length_zip] at hj
    rw [List.getElem_take, List.getElem_zip] at e
    have := (List.nodup_iff_pairwise_ne.1 hnd)
    exact List.pairwise_iff_getElem.1 this j i (by omega) (by omega) (by omega) e
theorem partP_end (hw : (whoL A back fore).length = pl.length) : partP P A back fore pl pl.length = newP P A back fore pl := by
  unfold partP newP
  rw [List.take_of_length_le (by rw [List.length_zip]; omega)]
theorem partA_end (hw : (whoL A back fore).length = pl.length) : partA A back fore pl pl.length = newA A back fore pl := by
  unfold partA newA
  rw [List.take_of_length_le (by rw [List.length_zip]; omega)]
theorem partC_end (hP : Perm n P A) (h : Parts n back fore pl) : partC P A back fore pl pl.length = moved n P (newP P A back fore pl) := by
  have hw := who_len (A := A) h
  rw [← changed_eq hP h]
  unfold partC
  rw [List.take_of_length_le (by rw [List.length_zip]; omega)]
end
end Go.Proofs.Ytelplccbcbegkaa.Ord
