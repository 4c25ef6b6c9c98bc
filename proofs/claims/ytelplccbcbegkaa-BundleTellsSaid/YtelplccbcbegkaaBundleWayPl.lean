/-
  The least of the shortest ways, plainly.
-/
import Derived.Test.YtelplccbcbegkaaBundlePut
namespace Go.Proofs.Ytelplccbcbegkaa.Ord
set_option linter.unusedVariables false
open Go.Proofs.Ytelplccbcbegkaa.Gr (E Path Inside OK outs intos Cyc putL)

/-- There is a way of so many edges. -/
inductive Steps (L : List (List Int)) (tz : Nat) : Nat → Nat → Prop
  | here : Steps L tz tz 0
  | step {v u d : Nat} : E L v u → Steps L tz u d → Steps L tz v (d + 1)
/-- .. and none of fewer. -/
def Least (L : List (List Int)) (tz v d : Nat) : Prop := Steps L tz v d ∧ ∀ d', d' < d → ¬ Steps L tz v d'
section
variable {L : List (List Int)} {tz fz : Nat}
theorem Steps.of_path {v : Nat} (h : Path L v tz) : ∃ d, Steps L tz v d := by
  induction h with
  | refl => exact ⟨0, .here⟩
  | step he _ ih => obtain ⟨d, hd⟩ := ih; exact ⟨d + 1, .step he hd⟩
theorem Steps.least {v d : Nat} (h : Steps L tz v d) : ∃ d', d' ≤ d ∧ Least L tz v d' := by
  induction d using Nat.strongRecOn with
  | _ d ih =>
    by_cases hm : ∃ d', d' < d ∧ Steps L tz v d'
    · obtain ⟨d', h1, h2⟩ := hm
      obtain ⟨d2, h3, h4⟩ := ih d' h1 h2
      exact ⟨d2, by omega, h4⟩
    · exact ⟨d, Nat.le_refl _, h, fun d' h1 h2 => hm ⟨d', h1, h2⟩⟩
theorem Least.uniq {v d d' : Nat} (h : Least L tz v d) (k : Least L tz v d') : d = d' := by
  apply Nat.le_antisymm
  · exact Nat.le_of_not_lt fun e => h.2 _ e k.1
  · exact Nat.le_of_not_lt fun e => k.2 _ e h.1
theorem Least.top : Least L tz tz 0 := ⟨.here, fun _ h => absurd h (Nat.not_lt_zero _)⟩
theorem Least.zero {v : Nat} (h : Least L tz v 0) : v = tz := by
  obtain ⟨h, -⟩ := h
  cases h
  rfl
theorem Least.next {v d : Nat} (h : Least L tz v (d + 1)) : ∃ u, E L v u ∧ Least L tz u d := by
  obtain ⟨h1, h2⟩ := h
  cases h1 with
  | step he hs => exact ⟨_, he, hs, fun d' hd h3 => h2 (d' + 1) (by omega) (.step he h3)⟩
theorem Least.edge {v u d d' : Nat} (h : Least L tz v d) (he : E L v u) (k : Least L tz u d') : d ≤ d' + 1 := Nat.le_of_not_lt fun e => h.2 _ e (.step he k.1)
theorem Least.down {v d : Nat} (h : Least L tz v d) : ∀ e, e ≤ d → ∃ u, Least L tz u e := by
  induction d generalizing v with
  | zero => intro e he; obtain rfl : e = 0 := by omega
            exact ⟨v, h⟩
  | succ d ih =>
    intro e he
    by_cases h2 : e = d + 1
    · subst h2; exact ⟨v, h⟩
    · obtain ⟨u, -, hu⟩ := h.next
      exact ih hu e (by omega)
/-- The least of the shortest ways. -/
inductive WayTo (L : List (List Int)) (tz : Nat) : Nat → List Nat → Prop
  | here : WayTo L tz tz [tz]
  | step {v u d : Nat} {l : List Nat} : Least L tz v (d + 1) → E L v u → Least L tz u d → (∀ u', E L v u' → Least L tz u' d → u ≤ u') → WayTo L tz u l → WayTo L tz v (v :: l)
theorem WayTo.far {v : Nat} {l : List Nat} (h : WayTo L tz v l) : ∃ d, Least L tz v d ∧ l.length = d + 1 ∧ ∀ x ∈ l, ∃ e, e ≤ d ∧ Least L tz x e := by
  induction h with
  | here => exact ⟨0, .top, rfl, fun x hx => ⟨0, Nat.le_refl _, by rw [List.mem_singleton] at hx; rw [hx]; exact .top⟩⟩
  | @step v u d l hv he hu hmin hl ih =>
    obtain ⟨d', h1, h2, h3⟩ := ih
    obtain rfl := h1.uniq hu
    refine ⟨_, hv, by rw [List.length_cons, h2], fun x hx => ?_⟩
    rcases List.mem_cons.1 hx with rfl | hx
    · exact ⟨_, Nat.le_refl _, hv⟩
    · obtain ⟨e, h4, h5⟩ := h3 x hx
      exact ⟨e, by omega, h5⟩
theorem WayTo.nodup {v : Nat} {l : List Nat} (h : WayTo L tz v l) : l.Nodup := by
  induction h with
  | here => simp
  | @step v u d l hv he hu hmin hl ih =>
    refine List.nodup_cons.2 ⟨fun hm => ?_, ih⟩
    obtain ⟨d', h1, h2, h3⟩ := hl.far
    obtain rfl := h1.uniq hu
    obtain ⟨e, h4, h5⟩ := h3 v hm
    have := h5.uniq hv
    omega
theorem WayTo.edges {v : Nat} {l : List Nat} (h : WayTo L tz v l) : l.head? = some v ∧ l.getLast? = some tz ∧ ∀ i (hi : i + 1 < l.length), E L l[i] l[i + 1] := by
  induction h with
  | here => exact ⟨rfl, rfl, fun i hi => by simp at hi⟩
  | @step v u d l hv he hu hmin hl ih =>
    obtain ⟨h1, h2, h3⟩ := ih
    refine ⟨rfl, ?_, fun i hi => ?_⟩
    · cases l with
      | nil => simp at h1
      | cons a l => rw [List.getLast?_cons_cons]; exact h2
    · cases i with
      | zero =>
        cases l with
        | nil => simp at h1
        | cons a l => simp at h1; subst h1; exact he
      | succ i => exact h3 i (by simpa using hi)
theorem WayTo.uniq {v : Nat} {l l' : List Nat} (h : WayTo L tz v l) (k : WayTo L tz v l') : l = l' := by
  induction h generalizing l' with
  | here =>
    cases k with
    | here => rfl
    | step hv => have := Least.uniq hv .top; omega
  | @step v u d l hv he hu hmin hl ih =>
    cases k with
    | here => have := Least.uniq hv .top; omega
    | @step _ u2 d2 l2 hv2 he2 hu2 hmin2 hl2 =>
      have e := hv.uniq hv2
      obtain rfl : d = d2 := by omega
      obtain rfl : u = u2 := Nat.le_antisymm (hmin _ he2 hu2) (hmin2 _ he hu)
      rw [ih hl2]
theorem E.lt {n : Nat} {v u : Nat} (hok : OK n L) (h : E L v u) : v < n ∧ u < n := by
  have h2 : ((u : Nat) : Int) ∈ outs L v := h
  have h3 := (hok.inside.at_ (2 * v) h2)
  refine ⟨?_, by omega⟩
  apply Nat.lt_of_not_le
  intro hv
  unfold outs at h2
  rw [List.getD_eq_getElem?_getD, List.getElem?_eq_none (by rw [hok.len]; omega)] at h2
  simp at h2
theorem Least.lt {n : Nat} (hok : OK n L) (hto : tz < n) {v d : Nat} (h : Least L tz v d) : v < n := by
  obtain ⟨h, -⟩ := h
  cases h with
  | here => exact hto
  | step he _ => exact (E.lt hok he).1
theorem WayTo.exists_ {v d : Nat} (h : Least L tz v d) : ∃ l, WayTo L tz v l := by
  induction d generalizing v with
  | zero => obtain rfl := h.zero; exact ⟨_, .here⟩
  | succ d ih =>
    have key : ∃ u, (E L v u ∧ Least L tz u d) ∧ ∀ u', (E L v u' ∧ Least L tz u' d) → u ≤ u' := by
      obtain ⟨u, h1, h2⟩ := h.next
      revert h1 h2
      induction u using Nat.strongRecOn with
      | _ u ih2 =>
        intro h1 h2
        by_cases hm : ∃ u', u' < u ∧ E L v u' ∧ Least L tz u' d
        · obtain ⟨u', h3, h4, h5⟩ := hm
          exact ih2 u' h3 h4 h5
        · exact ⟨u, ⟨h1, h2⟩, fun u' h3 => Nat.le_of_not_lt fun e => hm ⟨u', e, h3⟩⟩
    obtain ⟨u, ⟨h1, h2⟩, h3⟩ := key
    obtain ⟨l, hl⟩ := ih h2
    exact ⟨_, .step h h1 h2 (fun u' a b => h3 u' ⟨a, b⟩) hl⟩
theorem Least.few {n : Nat} (hok : OK n L) (hto : tz < n) {v d : Nat} (h : Least L tz v d) : d < n := by
  obtain ⟨l, hl⟩ := WayTo.exists_ h
  obtain ⟨d', h1, h2, h3⟩ := hl.far
  obtain rfl := h1.uniq h
  have := OrW.nodup_le hl.nodup (n := n) (fun y hy => by obtain ⟨e, -, h4⟩ := h3 y hy; exact h4.lt hok hto)
  omega
/-- The distances that are known: right ones, all of the first k layers. -/
structure Bfs (L : List (List Int)) (tz k : Nat) (f : Nat → Nat) : Prop where
  right : ∀ v, f v ≠ 0 → ∃ d, Least L tz v d ∧ f v = d + 1
  all : ∀ v d, Least L tz v d → d < k → f v = d + 1
def up (f : Nat → Nat) (u k : Nat) : Nat → Nat := fun x => if x = u then k else f x
theorem Bfs.start : Bfs L tz 1 (up (fun _ => 0) tz 1) where
  right := fun v hv => by
    unfold up at hv ⊢
    by_cases e : v = tz
    · subst e; exact ⟨0, .top, by simp⟩
    · simp [e] at hv
  all := fun v d hl hd => by
    obtain rfl : d = 0 := by omega
    obtain rfl := hl.zero
    simp [up]
/-- While a layer is gone through: at the j-th of its row, the i-th that come in there. -/
structure Layer (L : List (List Int)) (tz fz k : Nat) (f : Nat → Nat) (row next : List Nat) (j i : Nat) : Prop where
  bfs : Bfs L tz k f
  pos : 1 ≤ k
  isRow : ∀ v, v ∈ row ↔ f v = k
  isNext : ∀ v, v ∈ next ↔ f v = k + 1
  most : ∀ v, f v ≤ k + 1
  nod : next.Nodup
  off : f fz = 0
  done : ∀ j', j' < j → ∀ (h : j' < row.length) u, E L u row[j'] → f u ≠ 0
  part : ∀ i', i' < i → ∀ (h : j < row.length) u, (intos L row[j])[i']? = some ((u : Nat) : Int) → f u ≠ 0
variable {k j i : Nat} {f : Nat → Nat} {row next : List Nat}
theorem Layer.first (h : Bfs L tz 1 f) (hr : ∀ v, v ∈ row ↔ f v = 1) (hm : ∀ v, f v ≤ 1) (ho : f fz = 0) : Layer L tz fz 1 f row [] 0 0 where
  bfs := h
  pos := Nat.le_refl _
  isRow := hr
  isNext := fun v => by have := hm v; simp; omega
  most := fun v => by have := hm v; omega
  nod := by simp
  off := ho
  done := fun j' hj => absurd hj (Nat.not_lt_zero _)
  part := fun j' hj => absurd hj (Nat.not_lt_zero _)
/-- One that comes in is known. -/
theorem Layer.known (h : Layer L tz fz k f row next j i) {u : Nat} (hj : j < row.length) (hu : (intos L row[j])[i]? = some ((u : Nat) : Int)) (hf : f u ≠ 0) : Layer L tz fz k f row next j (i + 1) where
  bfs := h.bfs
  pos := h.pos
  isRow := h.isRow
  isNext := h.isNext
  most := h.most
  nod := h.nod
  off := h.off
  done := h.done
  part := fun i' hi hj' u' hu' => by
    by_cases e : i' < i
    · exact h.part i' e hj' u' hu'
    · obtain rfl : i' = i := by omega
      rw [hu] at hu'
      have : u = u' := by have := Option.some.inj hu'; omega
      exact this ▸ hf
/-- One that comes in is new: its distance is right. -/
theorem Layer.new_ (h : Layer L tz fz k f row next j i) {u v : Nat} (hv : f v = k) (he : E L u v) (hf : f u = 0) : Least L tz u k ∧ Bfs L tz k (up f u (k + 1)) := by
  have hl : Least L tz u k := by
    obtain ⟨d, h1, h2⟩ := h.bfs.right v (by have := h.pos; omega)
    obtain rfl : k = d + 1 := by omega
    obtain ⟨d', h3, h4⟩ := (Steps.step he h1.1).least
    by_cases e : d' < d + 1
    · have := h.bfs.all u d' h4 e; omega
    · obtain rfl : d' = d + 1 := by omega
      exact h4
  refine ⟨hl, fun x hx => ?_, fun x d hx hd => ?_⟩
  · unfold up at hx ⊢
    by_cases e : x = u
    · subst e; exact ⟨k, hl, by simp⟩
    · simp only [if_neg e] at hx ⊢; exact h.bfs.right x hx
  · unfold up
    by_cases e : x = u
    · subst e; have := hx.uniq hl; omega
    · simp only [if_neg e]; exact h.bfs.all x d hx hd
theorem Layer.put (h : Layer L tz fz k f row next j i) {u : Nat} (hj : j < row.length) (hu : (intos L row[j])[i]? = some ((u : Nat) : Int)) (he : E L u row[j]) (hf : f u = 0) (hne : u ≠ fz) : Layer L tz fz k (up f u (k + 1)) row (next ++ [u]) j (i + 1) := by
  have hv : f row[j] = k := (h.isRow _).1 (List.getElem_mem hj)
  have hun : u ∉ next := fun e => by have := (h.isNext u).1 e; omega
  have mono : ∀ x, f x ≠ 0 → up f u (k + 1) x ≠ 0 := fun x hx => by
    unfold up
    by_cases e : x = u
    · simp [e]
    · simp [e, hx]
  refine ⟨(h.new_ hv he hf).2, h.pos, fun v => ?_, fun v => ?_, fun v => ?_, ?_, ?_, fun j' a b x y => mono x (h.done j' a b x y), fun i' hi hj' x hx => ?_⟩
  · rw [h.isRow]; unfold up
    by_cases e : v = u
    · subst e; have := h.pos; simp [hf]; omega
    · simp [e]
  · rw [List.mem_append, h.isNext, List.mem_singleton]; unfold up
    by_cases e : v = u
    · simp [e]
    · simp [e]
  · unfold up
    by_cases e : v = u
    · simp [e]
    · simp only [if_neg e]; exact h.most v
  · rw [List.nodup_append]
    exact ⟨h.nod, by simp, fun a ha b hb e => by
      have : b = u := by simpa using hb
      subst this
      exact hun (e ▸ ha)⟩
  · unfold up; rw [if_neg (fun e => hne e.symm)]; exact h.off
  · by_cases e : i' < i
    · exact mono x (h.part i' e hj' x hx)
    · obtain rfl : i' = i := by omega
      rw [hu] at hx
      have : u = x := by have := Option.some.inj hx; omega
      subst this
      simp [up]
/-- One of the row is done. -/
theorem Layer.over {n : Nat} (hok : OK n L) (h : Layer L tz fz k f row next j i) (hj : j < row.length) (hn : row[j] < n) (hi : (intos L row[j]).length ≤ i) : Layer L tz fz k f row next (j + 1) 0 where
  bfs := h.bfs
  pos := h.pos
  isRow := h.isRow
  isNext := h.isNext
  most := h.most
  nod := h.nod
  off := h.off
  part := fun j' hj => absurd hj (Nat.not_lt_zero _)
  done := fun j' hj' hr u he => by
    by_cases e : j' < j
    · exact h.done j' e hr u he
    · obtain rfl : j' = j := by omega
      have hm : ((u : Nat) : Int) ∈ intos L row[j'] := (hok.cons u _ (E.lt hok he).1 hn).1 he
      obtain ⟨i', hi', e2⟩ := List.mem_iff_getElem.1 hm
      exact h.part i' (by omega) hj u (by rw [List.getElem?_eq_getElem hi', e2])
/-- The layer is done. -/
theorem Layer.end_ (h : Layer L tz fz k f row next j i) (hj : row.length ≤ j) : Bfs L tz (k + 1) f := by
  refine ⟨h.bfs.right, fun v d hl hd => ?_⟩
  by_cases e : d < k
  · exact h.bfs.all v d hl e
  · obtain rfl : d = k := by omega
    have hk := h.pos
    obtain ⟨d', rfl⟩ : ∃ d', d = d' + 1 := ⟨d - 1, by omega⟩
    obtain ⟨u, h1, h2⟩ := hl.next
    have hu : u ∈ row := (h.isRow u).2 (h.bfs.all u d' h2 (by omega))
    obtain ⟨j', hj', e2⟩ := List.mem_iff_getElem.1 hu
    obtain ⟨d2, h3, h4⟩ := h.bfs.right v (h.done j' (by omega) hj' v (by rw [e2]; exact h1))
    have := h3.uniq hl
    omega
theorem Layer.go (h : Layer L tz fz k f row next j i) (hj : row.length ≤ j) : Layer L tz fz (k + 1) f next [] 0 0 where
  bfs := h.end_ hj
  pos := by omega
  isRow := h.isNext
  isNext := fun v => by have := h.most v; simp; omega
  most := fun v => by have := h.most v; omega
  nod := by simp
  off := h.off
  done := fun j' hj => absurd hj (Nat.not_lt_zero _)
  part := fun j' hj => absurd hj (Nat.not_lt_zero _)
/-- The row is never empty ahead of the end. -/
theorem Layer.some_ (h : Layer L tz fz k f row next j i) {d : Nat} (hd : Least L tz fz d) : k ≤ d ∧ row ≠ [] := by
  have hk : k ≤ d := Nat.le_of_not_lt fun e => by have := h.bfs.all fz d hd e; have := h.off; omega
  refine ⟨hk, fun e => ?_⟩
  have := h.pos
  obtain ⟨u, hu⟩ := hd.down (k - 1) (by omega)
  have := (h.isRow u).2 (by rw [h.bfs.all u _ hu (by omega)]; omega)
  simp [e] at this
/-- What the first loop leaves: distances that are right, all that are less than the begin's. -/
structure Known (L : List (List Int)) (tz fz : Nat) (f : Nat → Nat) : Prop where
  right : ∀ v, f v ≠ 0 → ∃ d, Least L tz v d ∧ f v = d + 1
  all : ∀ v d, Least L tz v d → d + 1 < f fz → f v = d + 1
  on : f fz ≠ 0
theorem Layer.found (h : Layer L tz fz k f row next j i) {v : Nat} (hv : f v = k) (he : E L fz v) : Known L tz fz (up f fz (k + 1)) := by
  obtain ⟨hl, hb⟩ := h.new_ hv he h.off
  have e : up f fz (k + 1) fz = k + 1 := by simp [up]
  refine ⟨hb.right, fun x d hx hd => ?_, by omega⟩
  rw [e] at hd
  exact hb.all x d hx (by omega)
/-- On the way: where it is, and what stands ahead of it. -/
structure OnWay (L : List (List Int)) (tz fz : Nat) (f : Nat → Nat) (out : List Nat) (at_ d : Nat) : Prop where
  here : Least L tz at_ d
  known : f at_ = d + 1
  less : d + 1 ≤ f fz
  way : ∀ l, WayTo L tz at_ (at_ :: l) → WayTo L tz fz (out ++ l)
  long : out.length + d = f fz
theorem OnWay.start (h : Known L tz fz f) : ∃ d, OnWay L tz fz f [fz] fz d := by
  obtain ⟨d, h1, h2⟩ := h.right fz h.on
  exact ⟨d, h1, h2, by omega, fun l hl => hl, by simp; omega⟩
def near (f : Nat → Nat) (a v : Nat) : Bool := decide (0 < f v) && decide (f v < f a)
theorem OnWay.near {out : List Nat} {a d v : Nat} (hk : Known L tz fz f) (h : OnWay L tz fz f out a (d + 1)) (he : E L a v) : near f a v = true ↔ Least L tz v d := by
  have h1 := h.known
  have h2 := h.less
  unfold Ord.near
  rw [Bool.and_eq_true, decide_eq_true_iff, decide_eq_true_iff]
  constructor
  · rintro ⟨h3, h4⟩
    obtain ⟨d', h5, h6⟩ := hk.right v (by omega)
    have h7 := h.here.edge he h5
    obtain rfl : d = d' := by omega
    exact h5
  · intro h5
    have h6 := hk.all v d h5 (by omega)
    omega
theorem OnWay.go {out : List Nat} {a d v : Nat} (hk : Known L tz fz f) (h : OnWay L tz fz f out a (d + 1)) (he : E L a v) (hv : Least L tz v d) (hmin : ∀ u', E L a u' → Least L tz u' d → v ≤ u') : OnWay L tz fz f (out ++ [v]) v d where
  here := hv
  known := hk.all v d hv (by have := h.less; omega)
  less := by have := h.less; omega
  way := fun l hl => by
    have := h.way (v :: l) (.step h.here he hv hmin hl)
    rw [List.append_assoc]; exact this
  long := by have := h.long; rw [List.length_append]; simp; omega
theorem OnWay.end_ {out : List Nat} {a : Nat} (h : OnWay L tz fz f out a 0) : WayTo L tz fz out := by
  have := h.here.zero
  subst this
  have := h.way [] .here
  rwa [List.append_nil] at this
end
end Go.Proofs.Ytelplccbcbegkaa.Ord
