/-
  NamesTwice, in plain text: a name is there twice just if two places of one scope have it; names anew.
-/
import Derived.Test.YtifmnoepifgaiaaNameNearPl
namespace Go.Proofs.Ytifmnoepifgaiaa.NmW
set_option linter.unusedVariables false
open Go Go.RowKit Go.Maps Go.Sort Go.Shelf Go.Proofs Go.Proofs.Ytifmnoepifgaiaa Go.Proofs.Ytifmnoepifgaiaa.Wd Go.Proofs.Ytifmnoepifgaiaa.ScW Go.Proofs.Ytifmnoepifgaiaa.Nm Go.Proofs.Ytifmnoepifgaiaa.NmL
open Go.Proofs.Ytifmnoepifgaiaa.Sc (N own flow rightAt right chain place chainI deep over below owned)

/-- Another place of the same name. -/
def tw1 (ss : List Str) (i k : Nat) : Bool := decide (k ≠ i) && decide (nm ss k = nm ss i) && decide (nm ss i ≠ none_)
def twI (ns : List N) (ss : List Str) (i : Nat) : Bool := (scopeN ns (i : Int)).any (tw1 ss i)
theorem scopeN_nat {ns : List N} {i : Nat} (hi : i < ns.length) : scopeN ns (i : Int) = owned ns (flow ns i) (own ns i) := by
  unfold scopeN
  rw [if_pos (Sc.place_nat hi), Int.toNat_natCast]
theorem twice_iff (ns : List N) (ss : List Str) : twiceTo ns ss ns.length = (List.range ns.length).any (twI ns ss) := by
  rw [Bool.eq_iff_iff]
  unfold twiceTo
  rw [List.any_eq_true, List.any_eq_true]
  constructor
  · rintro ⟨k, hk, h⟩
    have hk : k < ns.length := by simpa using hk
    obtain ⟨j, h1, h2, h3⟩ := lookN_isSome.1 h
    unfold key at h3
    injection h3 with h3 h4
    injection h4 with h4 h5
    refine ⟨k, by simpa using hk, ?_⟩
    unfold twI
    rw [scopeN_nat hk, List.any_eq_true]
    refine ⟨j, mem_owned.2 ⟨by omega, h3, h4⟩, ?_⟩
    unfold tw1
    rw [decide_eq_true (by omega), decide_eq_true h5, decide_eq_true (by rw [← h5]; exact h2)]
    rfl
  · rintro ⟨i, hi, h⟩
    have hi : i < ns.length := by simpa using hi
    unfold twI at h
    rw [scopeN_nat hi, List.any_eq_true] at h
    obtain ⟨k, hk, h⟩ := h
    obtain ⟨h1, h2, h3⟩ := mem_owned.1 hk
    unfold tw1 at h
    simp only [Bool.and_eq_true, decide_eq_true_eq] at h
    obtain ⟨⟨h4, h5⟩, h6⟩ := h
    rcases Nat.lt_or_gt_of_ne h4 with hlt | hlt
    · exact ⟨i, by simpa using hi, lookN_isSome.2 ⟨k, hlt, by rw [h5]; exact h6, by unfold key; rw [h2, h3, h5]⟩⟩
    · exact ⟨k, by simpa using h1, lookN_isSome.2 ⟨i, hlt, h6, by unfold key; rw [h2, h3, h5]⟩⟩
/-- A place's name, anew. -/
def newName (i : Nat) : Str := ⟨(110 :: List.replicate i 105).toArray⟩
theorem newName_inj {i j : Nat} (h : newName i = newName j) : i = j := by
  unfold newName at h
  injection h with h
  injection h with h
  have := congrArg List.length h
  simpa using this
theorem newName_ne (i : Nat) : newName i ≠ none_ := by
  unfold newName none_
  intro h
  injection h with h
  injection h with h
  cases h
theorem newName_size (i : Nat) : (newName i).size = i + 1 := by
  show (110 :: List.replicate i (105 : UInt8)).toArray.size = i + 1
  simp
/-- All names are new. -/
def Anew (ns : List N) (ss : List Str) : Prop := ∀ i, i < ns.length → nm ss i = newName i
theorem look_new {ns : List N} {ss : List Str} (h : Anew ns ss) {i : Nat} (hi : i < ns.length) (f o : Int) : lookN ns ss ns.length (f, o, newName i) = if f = flow ns i ∧ o = own ns i then some i else none := by
  cases hl : lookN ns ss ns.length (f, o, newName i) with
  | none =>
    by_cases hc : f = flow ns i ∧ o = own ns i
    · exfalso
      have : (lookN ns ss ns.length (f, o, newName i)).isSome = true := lookN_isSome.2 ⟨i, hi, by rw [h i hi]; exact newName_ne i, by unfold key; rw [h i hi, hc.1, hc.2]⟩
      rw [hl] at this
      cases this
    · rw [if_neg hc]
  | some v =>
    obtain ⟨h1, h2, h3, h4⟩ := lookN_iff hl
    unfold key at h3
    injection h3 with h5 h6
    injection h6 with h6 h7
    rw [h v h1] at h7
    have := newName_inj h7
    subst this
    rw [if_pos ⟨h5.symm, h6.symm⟩]
theorem findSome_one {os : List Int} {a : Int} {v : Nat} (h : a ∈ os) : (os.findSome? fun o => if o = a then some v else none) = some v := by
  induction os with
  | nil => cases h
  | cons b r ih =>
    rw [List.findSome?_cons]
    by_cases hb : b = a
    · rw [if_pos hb]
    · rw [if_neg hb]
      rcases List.mem_cons.1 h with e | e
      · exact absurd e.symm hb
      · exact ih e
/-- By its own name a place is seen from itself, and from all that it owns. -/
theorem seen_new {ns : List N} {ss : List Str} (hr : right ns = true) (h : Anew ns ss) {i k : Nat} (hk : k < ns.length) (hik : i ∈ fsN ns k) : seenN ns ss (k : Int) (newName i) = some i := by
  obtain ⟨e1, e2⟩ := fs_all hr k k (Nat.le_refl _) hk
  obtain ⟨g1, g2, g3⟩ := e2 i hik
  rw [seen_eq (Sc.place_nat hk), Int.toNat_natCast, e1]
  unfold seenL
  have : (fun o => lookN ns ss ns.length (flow ns k, o, newName i)) = fun o => if o = own ns i then some i else none := by
    funext o
    rw [look_new h g1]
    by_cases ho : o = own ns i
    · rw [if_pos ⟨g2.symm, ho⟩, if_pos ho]
    · rw [if_neg (fun h => ho h.2), if_neg ho]
  rw [this]
  exact findSome_one (List.mem_map.2 ⟨i, hik, rfl⟩)
theorem seenB_new {ns : List N} {ss : List Str} (hr : right ns = true) (h : Anew ns ss) {i k : Nat} (hk : k < ns.length) (hik : i ∈ fsN ns k) : seenB ns ss (k : Int) (nm ss i) (i : Int) = true := by
  obtain ⟨g1, -, -⟩ := (fs_all hr k k (Nat.le_refl _) hk).2 i hik
  unfold seenB
  rw [h i g1, seen_new hr h hk hik, if_pos (Int.natCast_nonneg _)]
  exact decide_eq_true rfl
/-- Whoever is below is a place that has it in its chain. -/
theorem below_fs {ns : List N} {i k : Nat} (hi : i < ns.length) (h : k ∈ below ns (i : Int)) : k < ns.length ∧ i ∈ fsN ns k := by
  unfold below at h
  rw [if_pos (Sc.place_nat hi), List.mem_filter] at h
  have hk : k < ns.length := by simpa using h.1
  refine ⟨hk, List.mem_cons_of_mem _ ?_⟩
  have := h.2
  rw [Sc.over_nat hk] at this
  exact of_decide_eq_true this
theorem twice_new {ns : List N} {ss : List Str} (h : Anew ns ss) : twiceTo ns ss ns.length = false := by
  rw [twice_iff, List.any_eq_false]
  intro i hi
  have hi : i < ns.length := by simpa using hi
  unfold twI
  rw [scopeN_nat hi, Bool.not_eq_true, List.any_eq_false]
  intro k hk
  obtain ⟨h1, -, -⟩ := mem_owned.1 hk
  unfold tw1
  by_cases hki : k = i
  · subst hki; simp
  · have : nm ss k ≠ nm ss i := by
      rw [h k h1, h i hi]
      exact fun e => hki (newName_inj e)
    simp [this]
end Go.Proofs.Ytifmnoepifgaiaa.NmW
