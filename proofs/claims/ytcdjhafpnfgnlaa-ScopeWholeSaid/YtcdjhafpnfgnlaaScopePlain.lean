/-
  Nodes and their owners, plainly.
-/
import Derived.Calls
namespace Go.Proofs.Ytcdjhafpnfgnlaa.Sc
set_option linter.unusedVariables false

/-- A node: its owner, its flow. -/
abbrev N := Int × Int
def own (ns : List N) (i : Nat) : Int := (ns.getD i (-1, 0)).1
def flow (ns : List N) (i : Nat) : Int := (ns.getD i (-1, 0)).2
def rightAt (ns : List N) (i : Nat) : Bool := decide (-1 ≤ own ns i) && decide (own ns i < i) && (decide (own ns i < 0) || decide (flow ns (own ns i).toNat = flow ns i))
def right (ns : List N) : Bool := (List.range ns.length).all (rightAt ns)
/-- Owners, the nearest one first. -/
def chain (ns : List N) (i : Nat) : List Nat :=
  if h : 0 ≤ own ns i ∧ (own ns i).toNat < i then (own ns i).toNat :: chain ns (own ns i).toNat else []
termination_by i
decreasing_by exact h.2
def place (ns : List N) (i : Int) : Bool := decide (0 ≤ i) && decide (i < ns.length)
def chainI (ns : List N) (i : Int) : List Nat := if place ns i then chain ns i.toNat else []
def deep (ns : List N) (i : Int) : Nat := if place ns i then (chain ns i.toNat).length + 1 else 0
def over (ns : List N) (a b : Int) : Bool := (chainI ns b).any fun o => decide ((o : Int) = a)
def below (ns : List N) (i : Int) : List Nat := if place ns i then (List.range ns.length).filter fun k => over ns i k else []
def owned (ns : List N) (f o : Int) : List Nat := (List.range ns.length).filter fun k => decide (flow ns k = f) && decide (own ns k = o)

theorem right_at {ns : List N} (h : right ns = true) {i : Nat} (hi : i < ns.length) : -1 ≤ own ns i ∧ own ns i < i ∧ (0 ≤ own ns i → flow ns (own ns i).toNat = flow ns i) := by
  have := List.all_eq_true.1 h i (List.mem_range.2 hi)
  unfold rightAt at this
  simp only [Bool.and_eq_true, Bool.or_eq_true, decide_eq_true_eq] at this
  refine ⟨this.1.1, this.1.2, fun h0 => ?_⟩
  rcases this.2 with h | h
  · omega
  · exact h
theorem chain_none {ns : List N} {i : Nat} (h : own ns i < 0) : chain ns i = [] := by
  rw [chain, dif_neg (by omega)]
theorem chain_some {ns : List N} {i : Nat} (h : 0 ≤ own ns i) (h2 : own ns i < i) : chain ns i = (own ns i).toNat :: chain ns (own ns i).toNat := by
  rw [chain, dif_pos ⟨h, by omega⟩]
theorem chain_lt (ns : List N) : ∀ (i : Nat), ∀ o ∈ chain ns i, o < i := by
  intro i
  induction i using Nat.strongRecOn with
  | _ i ih =>
    intro o ho
    rw [chain] at ho
    split at ho
    · rename_i h
      rcases List.mem_cons.1 ho with rfl | ho
      · exact h.2
      · exact Nat.lt_trans (ih _ h.2 o ho) h.2
    · cases ho
theorem chain_length (ns : List N) : ∀ (i : Nat), (chain ns i).length ≤ i := by
  intro i
  induction i using Nat.strongRecOn with
  | _ i ih =>
    rw [chain]
    split
    · rename_i h
      have := ih _ h.2
      rw [List.length_cons]; omega
    · exact Nat.zero_le _
/-- Who is in a chain: the owner, or, if that is higher, who is in its chain. -/
theorem chain_mem {ns : List N} {k : Nat} (h1 : -1 ≤ own ns k) (h2 : own ns k < k) (i : Nat) : i ∈ chain ns k ↔ own ns k = i ∨ ((i : Int) < own ns k ∧ i ∈ chain ns (own ns k).toNat) := by
  rcases Int.lt_or_le (own ns k) 0 with h | h
  · rw [chain_none h]
    constructor
    · intro hm; cases hm
    · rintro (h3 | ⟨h3, _⟩) <;> omega
  · rw [chain_some h h2, List.mem_cons]
    constructor
    · rintro (rfl | hm)
      · left; omega
      · have := chain_lt ns _ _ hm
        right; exact ⟨by omega, hm⟩
    · rintro (h3 | ⟨h3, hm⟩)
      · left; omega
      · right; exact hm
theorem over_place {ns : List N} {a b : Int} (hb : place ns b = true) : over ns a b = (chain ns b.toNat).any fun o => decide ((o : Int) = a) := by
  unfold over chainI; rw [if_pos hb]
theorem place_nat {ns : List N} {i : Nat} (h : i < ns.length) : place ns (i : Int) = true := by unfold place; simp [h]
theorem over_nat {ns : List N} {i k : Nat} (hk : k < ns.length) : over ns (i : Int) (k : Int) = decide (i ∈ chain ns k) := by
  rw [over_place (place_nat hk), Bool.eq_iff_iff, List.any_eq_true]
  simp only [Int.toNat_natCast, decide_eq_true_eq]
  constructor
  · rintro ⟨o, ho, he⟩
    have : o = i := by omega
    subst this; exact ho
  · intro h; exact ⟨i, h, rfl⟩
end Go.Proofs.Ytcdjhafpnfgnlaa.Sc
