/-
  Edges that were taken, plainly: which there are behind; that they are all taken just if they make no cycle.
-/
import Derived.Test.YtelplccbcbegkaaBundleWay
import Derived.Test.YtelplccbcbegkaaOrdG3
namespace Go.Proofs.Ytelplccbcbegkaa.Ord
set_option linter.unusedVariables false
open Go.Proofs.Ytelplccbcbegkaa.Gr (E Path Inside OK outs intos Cyc putL edgesTo)
open Go.Proofs.Ytelplccbcbegkaa.GrW (isV growL canGrow)

theorem Ran.edge {n : Nat} {L L' : List (List Int)} {P A P' A' : List Nat} {es : List (Int × Int)} (h : Ran n L P A es L' P' A') (hs : OSt n L P A) : ∀ x y : Nat, E L' x y ↔ E L x y ∨ ((x : Int), (y : Int)) ∈ es := by
  induction h with
  | nil => intro x y; simp
  | snoc h1 h2 ih =>
    have hs1 := h1.st hs
    intro x y
    rcases h2 with ⟨-, hk, -⟩ | ⟨a, b, ha, hb, rfl, hP⟩
    · cases hk
    · rcases hP with ⟨hk, -⟩ | ⟨-, -, -, -, rfl, -⟩
      · cases hk
      · rw [put_edge hs1.ok ha hb, ih hs, List.mem_append, List.mem_singleton, Prod.mk.injEq, Int.natCast_inj, Int.natCast_inj, or_assoc]
theorem Ran.each {n : Nat} {L L' : List (List Int)} {P A P' A' : List Nat} {es : List (Int × Int)} (h : Ran n L P A es L' P' A') : ∀ x ∈ es, ∃ a b : Nat, a < n ∧ b < n ∧ a ≠ b ∧ x = ((a : Int), (b : Int)) := by
  induction h with
  | nil => simp
  | snoc h1 h2 ih =>
    intro x hx
    rcases List.mem_append.1 hx with hx | hx
    · exact ih x hx
    · have e : x = _ := List.mem_singleton.1 hx
      subst e
      rcases h2 with ⟨-, hk, -⟩ | ⟨a, b, ha, hb, e, hP⟩
      · cases hk
      · rcases hP with ⟨hk, -⟩ | ⟨-, -, -, hne, -⟩
        · cases hk
        · exact ⟨a, b, ha, hb, hne, e⟩
theorem path_sub {L M : List (List Int)} (h : ∀ x y : Nat, E L x y → E M x y) {x y : Nat} (hp : Path L x y) : Path M x y := by
  induction hp with
  | refl => exact .refl _
  | step h1 _ ih => exact .step (h _ _ h1) ih
theorem Went.code {n : Nat} {L L' : List (List Int)} {P A P' A' : List Nat} {es : List (Int × Int)} {i k : Nat} (h : Went n L P A es i k L' P' A') : k = 0 ∨ k = 2 ∨ k = 25 := by
  rcases h with ⟨h, -⟩ | ⟨-, hi, -, _, _, _, hp⟩
  · exact .inl h
  · exact PutI.code hp
theorem Went.all {n : Nat} {L L' : List (List Int)} {P A P' A' : List Nat} {es : List (Int × Int)} {i : Nat} (h : Went n L P A es i 0 L' P' A') : i = es.length ∧ Ran n L P A es L' P' A' := by
  rcases h with ⟨-, h1, h2⟩ | ⟨h, -⟩
  · exact ⟨h1, h2⟩
  · exact absurd rfl h
/-- Where an edge is refused that would make a cycle. -/
theorem Went.stop {n : Nat} {L L' : List (List Int)} {P A P' A' : List Nat} {es : List (Int × Int)} {i : Nat} (h : Went n L P A es i 25 L' P' A') : ∃ (hi : i < es.length) (a b : Nat), a < n ∧ b < n ∧ es[i] = ((a : Int), (b : Int)) ∧ Path L' b a ∧ Ran n L P A (es.take i) L' P' A' := by
  rcases h with ⟨h, -⟩ | ⟨-, hi, hr, _, _, _, hP⟩
  · cases h
  · rcases hP with ⟨-, hk, -⟩ | ⟨a, b, ha, hb, e, hP⟩
    · cases hk
    · rcases hP with ⟨-, -, hp, -⟩ | ⟨hk, -⟩
      · exact ⟨hi, a, b, ha, hb, e, hp, hr⟩
      · cases hk
theorem Went.inside {n : Nat} {L L' : List (List Int)} {P A P' A' : List Nat} {es : List (Int × Int)} {i k : Nat} (h : Went n L P A es i k L' P' A') (hr : ∀ x ∈ es, ∃ a b : Nat, a < n ∧ b < n ∧ x = ((a : Int), (b : Int))) : k = 0 ∨ k = 25 := by
  rcases h with ⟨h, -⟩ | ⟨-, hi, -, _, _, _, hP⟩
  · exact .inl h
  · rcases hP with ⟨hb, -⟩ | ⟨a, b, -, -, -, hP⟩
    · obtain ⟨a, b, ha, hb2, e⟩ := hr _ (List.getElem_mem hi)
      rw [e] at hb
      have e1 : isV n ((a : Nat) : Int) = true := by unfold isV; simp; omega
      have e2 : isV n ((b : Nat) : Int) = true := by unfold isV; simp; omega
      simp [e1, e2] at hb
    · exact hP.code.2
/-- Where all is part of something without a cycle nothing is refused. -/
theorem Went.fitsC {n m : Nat} {L L' M : List (List Int)} {P A P' A' : List Nat} {es : List (Int × Int)} {i k : Nat} (h : Went n L P A es i k L' P' A') (hs : OSt n L P A) (hM : OK m M) (hC : ¬ Cyc m M) (hL : ∀ x y : Nat, E L x y → E M x y) (he : ∀ x y : Nat, ((x : Int), (y : Int)) ∈ es → E M x y) : k ≠ 25 := by
  rintro rfl
  obtain ⟨hi, a, b, ha, hb, e, hp, hr⟩ := h.stop
  have h1 : E M a b := he a b (by rw [← e]; exact List.getElem_mem hi)
  have h2 : Path M b a := path_sub (fun x y hxy => by
    rcases (hr.edge hs x y).1 hxy with h | h
    · exact hL x y h
    · exact he x y (List.mem_of_mem_take h)) hp
  obtain ⟨c1, c2⟩ := hM.edge_lt h1
  exact hC ⟨a, b, c1, c2, h1, h2⟩
theorem Went.fits {n m : Nat} {L L' M : List (List Int)} {P A P' A' Q B : List Nat} {es : List (Int × Int)} {i k : Nat} (h : Went n L P A es i k L' P' A') (hs : OSt n L P A) (hM : OSt m M Q B) (hL : ∀ x y : Nat, E L x y → E M x y) (he : ∀ x y : Nat, ((x : Int), (y : Int)) ∈ es → E M x y) : k ≠ 25 := h.fitsC hs hM.ok hM.acyc hL he
/-- Edges of an order, and others: no loop among these, no cycle in all. -/
def JoinB (m : Nat) (L : List (List Int)) (n : Nat) (es : List (Int × Int)) : Prop := (∀ x ∈ es, x.1 ≠ x.2) ∧ ¬ Cyc m (es.foldl (fun G x => putL G x.1.toNat x.2.toNat) ((edgesTo L n).foldl (fun G x => putL G x.1.toNat x.2.toNat) (List.replicate (2 * m) [])))
/-- The same edges, the same rows. -/
theorem ok_same {n : Nat} {L M : List (List Int)} (h : OK n L) (k : OK n M) (he : ∀ x y : Nat, E L x y ↔ E M x y) : L = M := by
  refine h.ext k fun u hu x => ?_
  constructor
  · intro hx
    have := h.inside.at_ (2 * u) hx
    obtain ⟨y, rfl⟩ : ∃ y : Nat, x = y := ⟨x.toNat, by omega⟩
    exact (he u y).1 hx
  · intro hx
    have := k.inside.at_ (2 * u) hx
    obtain ⟨y, rfl⟩ : ∃ y : Nat, x = y := ⟨x.toNat, by omega⟩
    exact (he u y).2 hx
theorem OSt.same {n : Nat} {L M : List (List Int)} {P A Q B : List Nat} (h : OSt n L P A) (k : OSt n M Q B) (he : ∀ x y : Nat, E L x y ↔ E M x y) : L = M := ok_same h.ok k.ok he
theorem OSt.gro {n : Nat} {L : List (List Int)} {P A : List Nat} (h : OSt n L P A) (m : Nat) : OSt (n + m) (growL L m) (gro P n m) (gro A n m) := h.gro' m (h.ok.grow m)
theorem OSt.hok {n : Nat} {L : List (List Int)} {P A : List Nat} (h : OSt n L P A) : ∀ m, OK (n + m) (growL L m) := fun m => h.ok.grow m
/-- A graph that takes edges, one by one. -/
def takeL (G : List (List Int)) (es : List (Int × Int)) : List (List Int) := es.foldl (fun G x => putL G x.1.toNat x.2.toNat) G
theorem takeL_snoc (G : List (List Int)) (es : List (Int × Int)) (x : Int × Int) : takeL G (es ++ [x]) = putL (takeL G es) x.1.toNat x.2.toNat := by
  unfold takeL; rw [List.foldl_append]; rfl
theorem takeL_ok {n : Nat} {G : List (List Int)} (ok : OK n G) : ∀ (es : List (Int × Int)), (∀ x ∈ es, ∃ a b : Nat, a < n ∧ b < n ∧ a ≠ b ∧ x = ((a : Int), (b : Int))) → OK n (takeL G es) ∧ ∀ x y : Nat, E (takeL G es) x y ↔ E G x y ∨ ((x : Int), (y : Int)) ∈ es := by
  intro es
  suffices h : ∀ k, k ≤ es.length → (∀ x ∈ es, ∃ a b : Nat, a < n ∧ b < n ∧ a ≠ b ∧ x = ((a : Int), (b : Int))) → OK n (takeL G (es.take k)) ∧ ∀ x y : Nat, E (takeL G (es.take k)) x y ↔ E G x y ∨ ((x : Int), (y : Int)) ∈ es.take k by
    intro he
    have := h es.length (Nat.le_refl _) he
    rwa [List.take_length] at this
  intro k hk he
  induction k with
  | zero => exact ⟨ok, fun x y => by simp [takeL]⟩
  | succ k ih =>
    obtain ⟨h1, h2⟩ := ih (by omega)
    have hlt : k < es.length := by omega
    obtain ⟨a, b, ha, hb, hne, e⟩ := he _ (List.getElem_mem hlt)
    rw [List.take_succ_eq_append_getElem hlt, takeL_snoc, e, Int.toNat_natCast, Int.toNat_natCast]
    refine ⟨h1.put ha hb hne, fun x y => ?_⟩
    rw [put_edge h1 ha hb, h2, List.mem_append, List.mem_singleton, Prod.mk.injEq, Int.natCast_inj, Int.natCast_inj, or_assoc]
theorem empty_edge (n : Nat) (x y : Nat) : ¬ E (List.replicate (2 * n) []) x y := fun he => by
  have := (OSt.start n).up x y he
  unfold E at he
  have e : (List.replicate (2 * n) ([] : List Int)).getD (2 * x) [] = [] := by simp [List.getD, List.getElem?_replicate]; split <;> rfl
  rw [e] at he; simp at he
theorem mem_edgesTo' {n : Nat} {L : List (List Int)} (ok : OK n L) {x y : Nat} : ((x : Int), (y : Int)) ∈ edgesTo L n ↔ E L x y := by
  rw [Gr.mem_edgesTo]
  constructor
  · rintro ⟨u, hu, e, h⟩
    have : x = u := by
      have e : (x : Int) = (u : Int) := e
      omega
    subst this
    exact h
  · intro h
    exact ⟨x, (ok.edge_lt h).1, rfl, h⟩
theorem edgesTo_each {n : Nat} {L : List (List Int)} (ok : OK n L) : ∀ x ∈ edgesTo L n, ∃ a b : Nat, a < n ∧ b < n ∧ a ≠ b ∧ x = ((a : Int), (b : Int)) := fun x hx => by
  obtain ⟨i, hi, rfl⟩ := List.mem_iff_getElem.1 hx
  obtain ⟨a, b, e, ha, hb, he⟩ := OrW.edge_of ok hi
  refine ⟨a, b, ha, hb, fun e2 => ?_, e⟩
  subst e2
  exact ok.self a ha he
theorem JoinB.iff {n t : Nat} {L L' : List (List Int)} {P A P' A' : List Nat} {es : List (Int × Int)} {i k : Nat} (hs : OSt n L P A) (h : Went (n + t) (growL L t) (gro P n t) (gro A n t) es i k L' P' A') (hr : ∀ x ∈ es, ∃ a b : Nat, a < n + t ∧ b < n + t ∧ x = ((a : Int), (b : Int))) : JoinB (n + t) L n es ↔ k = 0 := by
  have hst := hs.gro t
  have e0 : (edgesTo L n).foldl (fun G x => putL G x.1.toNat x.2.toNat) (List.replicate (2 * (n + t)) []) = takeL (List.replicate (2 * (n + t)) []) (edgesTo L n) := rfl
  have h1 := takeL_ok (OK.empty (n + t)) (edgesTo L n) (fun x hx => by
    obtain ⟨a, b, ha, hb, hne, e⟩ := edgesTo_each hs.ok x hx
    exact ⟨a, b, by omega, by omega, hne, e⟩)
  have key : (∀ x ∈ es, x.1 ≠ x.2) → OK (n + t) (takeL (takeL (List.replicate (2 * (n + t)) []) (edgesTo L n)) es) ∧ ∀ x y : Nat, E (takeL (takeL (List.replicate (2 * (n + t)) []) (edgesTo L n)) es) x y ↔ E L x y ∨ ((x : Int), (y : Int)) ∈ es := fun hne => by
    have h2 := takeL_ok h1.1 es (fun x hx => by
      obtain ⟨a, b, ha, hb, e⟩ := hr x hx
      have := hne x hx
      rw [e] at this
      exact ⟨a, b, ha, hb, fun e2 => this (by rw [e2]), e⟩)
    refine ⟨h2.1, fun x y => ?_⟩
    rw [h2.2, h1.2, mem_edgesTo' hs.ok]
    exact ⟨fun h => h.imp_left fun h => h.resolve_left (empty_edge _ x y), fun h => h.imp_left .inr⟩
  constructor
  · rintro ⟨hne, hc⟩
    obtain ⟨k1, k2⟩ := key hne
    have := h.fitsC hst k1 hc (fun x y hxy => (k2 x y).2 (.inl ((grow_edge hs.ok).1 hxy))) (fun x y hxy => (k2 x y).2 (.inr hxy))
    exact (h.inside hr).resolve_right this
  · rintro rfl
    obtain ⟨-, hran⟩ := h.all
    have hne : ∀ x ∈ es, x.1 ≠ x.2 := fun x hx => by
      obtain ⟨a, b, -, -, hne, e⟩ := hran.each x hx
      rw [e]
      intro e2
      have e2 : (a : Int) = (b : Int) := e2
      omega
    obtain ⟨k1, k2⟩ := key hne
    have hst' := hran.st hst
    have e : takeL (takeL (List.replicate (2 * (n + t)) []) (edgesTo L n)) es = L' := ok_same k1 hst'.ok fun x y => by rw [k2, hran.edge hst, grow_edge hs.ok]
    refine ⟨hne, ?_⟩
    show ¬ Cyc (n + t) (takeL (takeL (List.replicate (2 * (n + t)) []) (edgesTo L n)) es)
    rw [e]
    exact hst'.acyc
end Go.Proofs.Ytelplccbcbegkaa.Ord
