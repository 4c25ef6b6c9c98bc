/-
  Places of vertices, plainly: what a turn does.
-/
import Derived.Test.YtelplccbcbegkaaOrdG2
namespace Go.Proofs.Ytelplccbcbegkaa.Ord
set_option linter.unusedVariables false
open Go.Proofs.Ytelplccbcbegkaa.Gr (E Path Inside OK outs intos Cyc putL)


/-- Places and vertices, one to another. -/
structure Perm (n : Nat) (P A : List Nat) : Prop where
  lp : P.length = n
  la : A.length = n
  pa : ∀ v, v < n → P.getD v 0 < n ∧ A.getD (P.getD v 0) 0 = v
  ap : ∀ p, p < n → A.getD p 0 < n ∧ P.getD (A.getD p 0) 0 = p
theorem Perm.inj {n : Nat} {P A : List Nat} (h : Perm n P A) {x y : Nat} (hx : x < n) (hy : y < n) (e : P.getD x 0 = P.getD y 0) : x = y := by
  rw [← (h.pa x hx).2, ← (h.pa y hy).2, e]
theorem Perm.injA {n : Nat} {P A : List Nat} (h : Perm n P A) {x y : Nat} (hx : x < n) (hy : y < n) (e : A.getD x 0 = A.getD y 0) : x = y := by
  rw [← (h.ap x hx).2, ← (h.ap y hy).2, e]
theorem Perm.start (n : Nat) : Perm n (List.range n) (List.range n) := by
  have e : ∀ v, v < n → (List.range n).getD v 0 = v := fun v hv => by simp [List.getD, hv]
  exact ⟨by simp, by simp, fun v hv => by rw [e v hv]; exact ⟨hv, e v hv⟩, fun v hv => by rw [e v hv]; exact ⟨hv, e v hv⟩⟩
theorem getD_app {l : List Nat} {k v : Nat} : (l ++ [k]).getD v 0 = if v < l.length then l.getD v 0 else if v = l.length then k else 0 := by
  simp only [List.getD]
  by_cases h : v < l.length
  · rw [List.getElem?_append_left h, if_pos h]
  · rw [List.getElem?_append_right (by omega), if_neg h]
    by_cases h2 : v = l.length
    · simp [h2]
    · rw [if_neg h2, List.getElem?_eq_none (by simp; omega)]; rfl
theorem Perm.more {n : Nat} {P A : List Nat} (h : Perm n P A) : Perm (n + 1) (P ++ [n]) (A ++ [n]) := by
  refine ⟨by simp [h.lp], by simp [h.la], fun v hv => ?_, fun v hv => ?_⟩
  · by_cases e : v < n
    · obtain ⟨h1, h2⟩ := h.pa v e
      rw [getD_app, h.lp, if_pos e, getD_app, h.la, if_pos h1]
      exact ⟨by omega, h2⟩
    · have : v = n := by omega
      subst this
      rw [getD_app, h.lp, if_neg (by omega), if_pos rfl, getD_app, h.la, if_neg (by omega), if_pos rfl]
      exact ⟨by omega, rfl⟩
  · by_cases e : v < n
    · obtain ⟨h1, h2⟩ := h.ap v e
      rw [getD_app, h.la, if_pos e, getD_app, h.lp, if_pos h1]
      exact ⟨by omega, h2⟩
    · have : v = n := by omega
      subst this
      rw [getD_app, h.la, if_neg (by omega), if_pos rfl, getD_app, h.lp, if_neg (by omega), if_pos rfl]
      exact ⟨by omega, rfl⟩
def setAll (l : List Nat) (ps : List (Nat × Nat)) : List Nat := ps.foldl (fun l x => l.set x.1 x.2) l
theorem setAll_length : ∀ (ps : List (Nat × Nat)) (l : List Nat), (setAll l ps).length = l.length
  | [], l => rfl
  | x :: ps, l => by
    have := setAll_length ps (l.set x.1 x.2)
    simpa [setAll] using this
theorem getD_set (l : List Nat) (i v k : Nat) (hk : k < l.length) : (l.set i v).getD k 0 = if i = k then v else l.getD k 0 := by
  simp only [List.getD]
  by_cases h : i = k
  · subst h; simp [hk]
  · rw [List.getElem?_set_ne h, if_neg h]
theorem setAll_other : ∀ (ps : List (Nat × Nat)) (l : List Nat) (k : Nat), k < l.length → (∀ x ∈ ps, x.1 ≠ k) → (setAll l ps).getD k 0 = l.getD k 0
  | [], l, k, _, _ => rfl
  | x :: ps, l, k, hk, h => by
    have := setAll_other ps (l.set x.1 x.2) k (by simpa using hk) (fun y hy => h y (List.mem_cons_of_mem _ hy))
    unfold setAll at this ⊢
    rw [List.foldl_cons, this, getD_set _ _ _ _ hk, if_neg (h x (List.mem_cons_self ..))]
theorem setAll_at : ∀ (ps : List (Nat × Nat)) (l : List Nat) (k v : Nat), k < l.length → (ps.map (·.1)).Nodup → (k, v) ∈ ps → (setAll l ps).getD k 0 = v
  | [], l, k, v, _, _, h => by simp at h
  | x :: ps, l, k, v, hk, hn, h => by
    rw [List.map_cons, List.nodup_cons] at hn
    rcases List.mem_cons.1 h with h | h
    · subst h
      have := setAll_other ps (l.set k v) k (by simpa using hk) (fun y hy e => hn.1 (List.mem_map.2 ⟨y, hy, e⟩))
      unfold setAll at this ⊢
      rw [List.foldl_cons, this, getD_set _ _ _ _ hk, if_pos rfl]
    · have := setAll_at ps (l.set x.1 x.2) k v (by simpa using hk) hn.2 h
      unfold setAll at this ⊢
      rw [List.foldl_cons, this]
theorem cnt_ge {l : List Nat} (h : l.Pairwise (· < ·)) {i : Nat} (hi : i < l.length) {q : Nat → Bool} (hq : ∀ x, x ≤ l[i] → q x = true) : i + 1 ≤ l.countP q := by
  have e : l.countP q = (l.take (i + 1)).countP q + (l.drop (i + 1)).countP q := by rw [← List.countP_append, List.take_append_drop]
  have e2 : (l.take (i + 1)).countP q = (l.take (i + 1)).length := by
    rw [List.countP_eq_length]
    intro x hx
    obtain ⟨j, hj, rfl⟩ := List.getElem_of_mem hx
    rw [List.length_take] at hj
    rw [List.getElem_take]
    refine hq _ ?_
    by_cases hij : j = i
    · subst hij; exact Nat.le_refl _
    · exact Nat.le_of_lt (List.pairwise_iff_getElem.1 h j i (by omega) hi (by omega))
  rw [e2, List.length_take] at e
  omega
theorem cnt_le {l : List Nat} (h : l.Pairwise (· < ·)) {i : Nat} (hi : i < l.length) {q : Nat → Bool} (hq : ∀ x, l[i] ≤ x → q x = false) : l.countP q ≤ i := by
  have e : l.countP q = (l.take i).countP q + (l.drop i).countP q := by rw [← List.countP_append, List.take_append_drop]
  have e2 : (l.drop i).countP q = 0 := by
    rw [List.countP_eq_zero]
    intro x hx
    obtain ⟨j, hj, rfl⟩ := List.getElem_of_mem hx
    rw [List.length_drop] at hj
    rw [List.getElem_drop]
    have : q (l[i + j]) = false := by
      refine hq _ ?_
      by_cases hij : j = 0
      · subst hij; exact Nat.le_refl _
      · exact Nat.le_of_lt (List.pairwise_iff_getElem.1 h i (i + j) hi (by omega) (by omega))
    simp [this]
  have := List.countP_le_length (p := q) (l := l.take i)
  rw [List.length_take] at this
  omega
theorem rise_nodup {l : List Nat} (h : l.Pairwise (· < ·)) : l.Nodup := h.imp fun h => Nat.ne_of_lt h
/-- What a turn is of: rows of places that rise, no place in both; all of them, rising. -/
structure Parts (n : Nat) (back fore pl : List Nat) : Prop where
  rb : back.Pairwise (· < ·)
  rf : fore.Pairwise (· < ·)
  nb : ∀ x ∈ back, x < n
  nf : ∀ x ∈ fore, x < n
  apart : ∀ x ∈ back, x ∉ fore
  rp : pl.Pairwise (· < ·)
  all : pl.Perm (back ++ fore)
def whoL (A back fore : List Nat) : List Nat := (back ++ fore).map fun p => A.getD p 0
section
variable {n : Nat} {P A back fore pl : List Nat}
theorem Parts.len (h : Parts n back fore pl) : pl.length = back.length + fore.length := by rw [h.all.length_eq, List.length_append]
theorem Parts.lt (h : Parts n back fore pl) {x : Nat} (hx : x ∈ back ++ fore) : x < n := by
  rcases List.mem_append.1 hx with hx | hx
  · exact h.nb x hx
  · exact h.nf x hx
theorem Parts.ltp (h : Parts n back fore pl) {x : Nat} (hx : x ∈ pl) : x < n := h.lt (h.all.mem_iff.1 hx)
theorem Parts.nodup (h : Parts n back fore pl) : (back ++ fore).Nodup := h.all.nodup_iff.1 (rise_nodup h.rp)
theorem who_nodup (hP : Perm n P A) (h : Parts n back fore pl) : (whoL A back fore).Nodup := by
  unfold whoL
  rw [List.nodup_iff_pairwise_ne, List.pairwise_map]
  refine (List.pairwise_iff_forall_sublist.2 ?_)
  intro a b hab e
  have hn := h.nodup
  rw [List.nodup_iff_pairwise_ne] at hn
  have ha : a ∈ back ++ fore := hab.subset (by simp)
  have hb : b ∈ back ++ fore := hab.subset (by simp)
  exact List.pairwise_iff_forall_sublist.1 hn hab (hP.injA (h.lt ha) (h.lt hb) e)
def newP (P A back fore pl : List Nat) : List Nat := setAll P ((whoL A back fore).zip pl)
def newA (A back fore pl : List Nat) : List Nat := setAll A (pl.zip (whoL A back fore))
theorem who_len (h : Parts n back fore pl) : (whoL A back fore).length = pl.length := by unfold whoL; rw [List.length_map, h.all.length_eq]
theorem newP_at (hP : Perm n P A) (h : Parts n back fore pl) {i : Nat} (hi : i < pl.length) {x : Nat} (hx : x < n) (e : (back ++ fore)[i]'(by rw [← h.all.length_eq]; exact hi) = P.getD x 0) : (newP P A back fore pl).getD x 0 = pl[i] := by
  unfold newP
  have hw := who_len (A := A) h
  refine setAll_at _ P x _ (by rw [hP.lp]; exact hx) ?_ ?_
  · rw [List.map_fst_zip (by omega)]; exact who_nodup hP h
  · rw [List.mem_iff_getElem]
    refine ⟨i, by rw [List.length_zip]; omega, ?_⟩
    rw [List.getElem_zip]
    unfold whoL
    rw [List.getElem_map, e, (hP.pa x hx).2]
theorem newP_other (hP : Perm n P A) (h : Parts n back fore pl) {x : Nat} (hx : x < n) (e : P.getD x 0 ∉ back ++ fore) : (newP P A back fore pl).getD x 0 = P.getD x 0 := by
  unfold newP
  refine setAll_other _ P x (by rw [hP.lp]; exact hx) fun y hy e2 => ?_
  have h1 := (List.of_mem_zip hy).1
  unfold whoL at h1
  obtain ⟨p, hp, e3⟩ := List.mem_map.1 h1
  have : P.getD y.1 0 = p := by rw [← e3]; exact (hP.ap p (h.lt hp)).2
  rw [e2] at this
  rw [this] at e
  exact e hp
theorem newA_at (hP : Perm n P A) (h : Parts n back fore pl) {i : Nat} (hi : i < pl.length) : (newA A back fore pl).getD pl[i] 0 = A.getD ((back ++ fore)[i]'(by rw [← h.all.length_eq]; exact hi)) 0 := by
  unfold newA
  have hw := who_len (A := A) h
  refine setAll_at _ A _ _ (by rw [hP.la]; exact h.ltp (List.getElem_mem hi)) ?_ ?_
  · rw [List.map_fst_zip (by omega)]; exact rise_nodup h.rp
  · rw [List.mem_iff_getElem]
    refine ⟨i, by rw [List.length_zip]; omega, ?_⟩
    rw [List.getElem_zip]
    unfold whoL
    rw [List.getElem_map]
theorem newA_other (hP : Perm n P A) (h : Parts n back fore pl) {p : Nat} (hp : p < n) (e : p ∉ back ++ fore) : (newA A back fore pl).getD p 0 = A.getD p 0 := by
  unfold newA
  refine setAll_other _ A p (by rw [hP.la]; exact hp) fun y hy e2 => ?_
  have h1 := (List.of_mem_zip hy).1
  rw [e2] at h1
  exact e (h.all.mem_iff.1 h1)
theorem Parts.perm (hP : Perm n P A) (h : Parts n back fore pl) : Perm n (newP P A back fore pl) (newA A back fore pl) := by
  refine ⟨by unfold newP; rw [setAll_length, hP.lp], by unfold newA; rw [setAll_length, hP.la], fun v hv => ?_, fun p hp => ?_⟩
  · by_cases hm : P.getD v 0 ∈ back ++ fore
    · obtain ⟨i, hi, e⟩ := List.getElem_of_mem hm
      have hi' : i < pl.length := by rw [h.all.length_eq]; exact hi
      rw [newP_at hP h hi' hv e]
      exact ⟨h.ltp (List.getElem_mem hi'), by rw [newA_at hP h hi', e, (hP.pa v hv).2]⟩
    · rw [newP_other hP h hv hm, newA_other hP h (hP.pa v hv).1 hm]
      exact hP.pa v hv
  · by_cases hm : p ∈ back ++ fore
    · obtain ⟨i, hi, e⟩ := List.getElem_of_mem (h.all.mem_iff.2 hm)
      have hi2 : i < (back ++ fore).length := by rw [← h.all.length_eq]; exact hi
      have hlt := h.lt (List.getElem_mem hi2)
      rw [← e, newA_at hP h hi]
      refine ⟨(hP.ap _ hlt).1, ?_⟩
      exact newP_at hP h hi (hP.ap _ hlt).1 (hP.ap _ hlt).2.symm
    · rw [newA_other hP h hp hm]
      refine ⟨(hP.ap p hp).1, ?_⟩
      rw [newP_other hP h (hP.ap p hp).1 (by rw [(hP.ap p hp).2]; exact hm)]
      exact (hP.ap p hp).2
theorem Parts.back_le (h : Parts n back fore pl) {i : Nat} (hi : i < back.length) : pl[i]'(by rw [h.len]; omega) ≤ back[i] := by
  refine Nat.le_of_not_lt fun hlt => ?_
  have h1 := cnt_le h.rp (i := i) (by rw [h.len]; omega) (q := fun x => decide (x ≤ back[i])) (fun x hx => decide_eq_false (by omega))
  rw [h.all.countP_eq, List.countP_append] at h1
  have h2 := cnt_ge h.rb hi (q := fun x => decide (x ≤ back[i])) (fun x hx => decide_eq_true hx)
  omega
theorem Parts.fore_ge (h : Parts n back fore pl) {j : Nat} (hj : j < fore.length) : fore[j] ≤ pl[back.length + j]'(by rw [h.len]; omega) := by
  refine Nat.le_of_not_lt fun hlt => ?_
  have h1 := cnt_ge h.rp (i := back.length + j) (by rw [h.len]; omega) (q := fun x => decide (x < fore[j])) (fun x hx => decide_eq_true (by omega))
  rw [h.all.countP_eq, List.countP_append] at h1
  have h2 := cnt_le h.rf hj (q := fun x => decide (x < fore[j])) (fun x hx => decide_eq_false (by omega))
  have h3 := List.countP_le_length (p := fun x => decide (x < fore[j])) (l := back)
  omega
/-- Where vertices of either part are, behind. -/
theorem Parts.of_back (hP : Perm n P A) (h : Parts n back fore pl) {x : Nat} (hx : x < n) (hb : P.getD x 0 ∈ back) : ∃ (i : Nat) (hi : i < back.length), back[i] = P.getD x 0 ∧ (newP P A back fore pl).getD x 0 = pl[i]'(by rw [h.len]; omega) := by
  obtain ⟨i, hi, e⟩ := List.getElem_of_mem hb
  refine ⟨i, hi, e, newP_at hP h (by rw [h.len]; omega) hx ?_⟩
  rw [List.getElem_append_left hi, e]
theorem Parts.of_fore (hP : Perm n P A) (h : Parts n back fore pl) {x : Nat} (hx : x < n) (hb : P.getD x 0 ∈ fore) : ∃ (j : Nat) (hj : j < fore.length), fore[j] = P.getD x 0 ∧ (newP P A back fore pl).getD x 0 = pl[back.length + j]'(by rw [h.len]; omega) := by
  obtain ⟨i, hi, e⟩ := List.getElem_of_mem hb
  refine ⟨i, hi, e, newP_at hP h (by rw [h.len]; omega) hx ?_⟩
  rw [List.getElem_append_right (by omega)]
  simp [e]
theorem rise_lt {l : List Nat} (h : l.Pairwise (· < ·)) {i j : Nat} (hi : i < l.length) (hj : j < l.length) : l[i] < l[j] ↔ i < j := by
  constructor
  · intro hlt
    refine Nat.lt_of_not_le fun hle => ?_
    by_cases e : i = j
    · subst e; omega
    · have := List.pairwise_iff_getElem.1 h j i hj hi (by omega)
      omega
  · exact fun hlt => List.pairwise_iff_getElem.1 h i j hi hj hlt
theorem Parts.down (hP : Perm n P A) (h : Parts n back fore pl) {x : Nat} (hx : x < n) (hb : P.getD x 0 ∈ back) : (newP P A back fore pl).getD x 0 ≤ P.getD x 0 ∧ (newP P A back fore pl).getD x 0 ∈ back ++ fore := by
  obtain ⟨i, hi, e, e2⟩ := h.of_back hP hx hb
  rw [e2, ← e]
  exact ⟨h.back_le hi, h.all.mem_iff.1 (List.getElem_mem _)⟩
theorem Parts.up (hP : Perm n P A) (h : Parts n back fore pl) {x : Nat} (hx : x < n) (hb : P.getD x 0 ∈ fore) : P.getD x 0 ≤ (newP P A back fore pl).getD x 0 ∧ (newP P A back fore pl).getD x 0 ∈ back ++ fore := by
  obtain ⟨i, hi, e, e2⟩ := h.of_fore hP hx hb
  rw [e2, ← e]
  exact ⟨h.fore_ge hi, h.all.mem_iff.1 (List.getElem_mem _)⟩
theorem Parts.back_back (hP : Perm n P A) (h : Parts n back fore pl) {x y : Nat} (hx : x < n) (hy : y < n) (hb : P.getD x 0 ∈ back) (hc : P.getD y 0 ∈ back) : (newP P A back fore pl).getD x 0 < (newP P A back fore pl).getD y 0 ↔ P.getD x 0 < P.getD y 0 := by
  obtain ⟨i, hi, e, e2⟩ := h.of_back hP hx hb
  obtain ⟨j, hj, f, f2⟩ := h.of_back hP hy hc
  rw [e2, f2, ← e, ← f, rise_lt h.rp, rise_lt h.rb]
theorem Parts.fore_fore (hP : Perm n P A) (h : Parts n back fore pl) {x y : Nat} (hx : x < n) (hy : y < n) (hb : P.getD x 0 ∈ fore) (hc : P.getD y 0 ∈ fore) : (newP P A back fore pl).getD x 0 < (newP P A back fore pl).getD y 0 ↔ P.getD x 0 < P.getD y 0 := by
  obtain ⟨i, hi, e, e2⟩ := h.of_fore hP hx hb
  obtain ⟨j, hj, f, f2⟩ := h.of_fore hP hy hc
  rw [e2, f2, ← e, ← f, rise_lt h.rp, rise_lt h.rf]
  omega
theorem Parts.back_fore (hP : Perm n P A) (h : Parts n back fore pl) {x y : Nat} (hx : x < n) (hy : y < n) (hb : P.getD x 0 ∈ back) (hc : P.getD y 0 ∈ fore) : (newP P A back fore pl).getD x 0 < (newP P A back fore pl).getD y 0 := by
  obtain ⟨i, hi, e, e2⟩ := h.of_back hP hx hb
  obtain ⟨j, hj, f, f2⟩ := h.of_fore hP hy hc
  rw [e2, f2, rise_lt h.rp]
  omega
end
/-- A way from vertex to vertex, each but the first one that may be. -/
inductive Way (nx : Nat → List Int) (ok : Nat → Bool) : Nat → Nat → Prop
  | refl (u : Nat) : Way nx ok u u
  | step {u x v : Nat} : Way nx ok u x → (v : Int) ∈ nx x → ok v = true → Way nx ok u v
theorem Way.head {nx : Nat → List Int} {ok : Nat → Bool} {u x v : Nat} (h1 : (x : Int) ∈ nx u) (h2 : ok x = true) (h : Way nx ok x v) : Way nx ok u v := by
  induction h with
  | refl => exact .step (.refl _) h1 h2
  | step h h3 h4 ih => exact .step ih h3 h4
theorem Way.ok_or {nx : Nat → List Int} {ok : Nat → Bool} {u v : Nat} (h : Way nx ok u v) : v = u ∨ ok v = true := by
  cases h with
  | refl => exact .inl rfl
  | step _ _ h => exact .inr h
/-- Each edge goes up. -/
def Up (L : List (List Int)) (P : List Nat) : Prop := ∀ x y, E L x y → P.getD x 0 < P.getD y 0
theorem Up.path {L : List (List Int)} {P : List Nat} (h : Up L P) {x y : Nat} (hp : Path L x y) : P.getD x 0 ≤ P.getD y 0 := by
  induction hp with
  | refl => exact Nat.le_refl _
  | step h1 _ ih => exact Nat.le_trans (Nat.le_of_lt (h _ _ h1)) ih
section
variable {n : Nat} {L : List (List Int)} {P : List Nat}
theorem way_path {ok : Nat → Bool} {u v : Nat} (h : Way (outs L) ok u v) : Path L u v := by
  induction h with
  | refl => exact .refl _
  | step _ h2 _ ih => exact ih.trans (.step h2 (.refl _))
theorem path_way (hu : Up L P) {x y high : Nat} (hp : Path L x y) (hh : P.getD y 0 ≤ high) : Way (outs L) (fun v => decide (P.getD v 0 ≤ high)) x y := by
  induction hp with
  | refl => exact .refl _
  | step h1 h2 ih => exact Way.head h1 (decide_eq_true (Nat.le_trans (hu.path h2) hh)) (ih hh)
theorem OK.back {n : Nat} {L : List (List Int)} (h : OK n L) {x y : Nat} (hx : x < n) : (y : Int) ∈ intos L x ↔ E L y x := by
  constructor
  · intro h1
    have := h.ins (2 * x + 1) y h1
    exact (h.cons y x (by omega) hx).2 h1
  · intro h1
    exact (h.cons y x (h.edge_lt h1).1 hx).1 h1
theorem wayb_path (ok : OK n L) {q : Nat → Bool} {u v : Nat} (hu : u < n) (h : Way (intos L) q u v) : Path L v u ∧ v < n := by
  induction h with
  | refl => exact ⟨.refl _, hu⟩
  | step _ h2 _ ih =>
    have := (OK.back ok ih.2).1 h2
    exact ⟨.step this ih.1, (ok.edge_lt this).1⟩
theorem path_wayb (ok : OK n L) (hu : Up L P) {x y low : Nat} (hy : y < n) (hp : Path L x y) (hl : low ≤ P.getD x 0) : Way (intos L) (fun v => decide (low ≤ P.getD v 0)) y x := by
  induction hp with
  | refl => exact .refl _
  | step h1 h2 ih =>
    have h3 := hu _ _ h1
    have hx := (ok.edge_lt h1).2
    exact .step (ih hy (by omega)) ((OK.back ok hx).2 h1) (decide_eq_true hl)
end
end Go.Proofs.Ytelplccbcbegkaa.Ord
