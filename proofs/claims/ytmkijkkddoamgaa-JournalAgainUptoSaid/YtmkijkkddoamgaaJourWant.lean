/-
  A row of batches of the call's own, beside a disk.
-/
import Derived.Test.YtmkijkkddoamgaaJourAwake
namespace Go.Proofs.Ytmkijkkddoamgaa.Jo
set_option linter.unusedVariables false
open Go Go.RowKit Go.Shelf Go.Proofs Go.Proofs.Ytmkijkkddoamgaa Go.Proofs.Ytmkijkkddoamgaa.Wd Go.Proofs.Ytmkijkkddoamgaa.Dk Go.Proofs.Ytmkijkkddoamgaa.Hd Go.Proofs.Ytmkijkkddoamgaa.HdW Go.Proofs.Ytmkijkkddoamgaa.BatW
open Go.Proofs.Ytmkijkkddoamgaa.Bat (B)

/-- The row lies from `base` on, in no block of the disk's; what its cells read lies below k. -/
structure Want (w : World) (F : Nat → Prop) (base k : Nat) (v : Value) (xs : List Value) (L : List B) : Prop where
  own : w.ownsRow base 30 1 v L.length xs
  reads : Reads3 w k xs L
  one : ∀ u ∈ xs, u.oneCell' = true
  apart : ∀ g, v.ownBlock = some g → ¬ F g
section
variable {w w' : World} {F F' : Nat → Prop} {base k : Nat} {v : Value} {xs : List Value} {L : List B}
theorem Want.nil (w : World) (F : Nat → Prop) (base k : Nat) : Want w F base k (.slice none 0 0) [] [] := ⟨own_nil _ _ _, ⟨rfl, fun j hj => absurd hj (Nat.not_lt_zero _)⟩, (fun u hu => by cases hu), (fun g hg => by cases hg)⟩
theorem Reads3.below (h : Reads3 w k xs L) (hb : Below k w w') : Reads3 w' k xs L := ⟨h.1, fun j hj => by obtain ⟨v, h1, h2⟩ := h.2 j hj; exact ⟨v, h1, h2.below hb⟩⟩
theorem Want.lt (h : Want w F base k v xs L) {g : Nat} (hg : v.ownBlock = some g) : base ≤ g ∧ g < w.heap.size := by
  obtain ⟨h1, cs, h2⟩ := own_row h.own hg
  exact ⟨h1, h2.lt⟩
theorem Want.keep (h : Want w F base k v xs L) (hs : ∀ g, v.ownBlock = some g → w'.heap[g]? = w.heap[g]?) (hb : Below k w w') (hF : ∀ g, F' g → F g ∨ w.heap.size ≤ g) : Want w' F' base k v xs L :=
  ⟨own_keep h.own hs, Reads3.below h.reads hb, h.one, fun g hg => out_of (h.lt hg).2 (h.apart g hg) hF⟩
theorem Want.below (h : Want w F base k v xs L) (hb : Below w.heap.size w w') (hk : k ≤ w.heap.size) : Want w' F base k v xs L :=
  h.keep (fun g hg => hb.block g (h.lt hg).2) (hb.mono hk) (fun _ h => .inl h)
theorem Want.fr {G : Nat → Prop} (h : Want w F base k v xs L) (hf : Fr G w w') (hG : ∀ g, v.ownBlock = some g → ¬ G g) (hb : Below k w w') (hF : ∀ g, F' g → F g ∨ w.heap.size ≤ g) : Want w' F' base k v xs L :=
  h.keep (fun g hg => hf.block g (h.lt hg).2 (hG g hg)) hb hF
theorem Want.rows (h : Want w F base k v xs L) : ∃ A c, v = .slice A L.length c ∧ L.length ≤ c ∧ c ≤ maxLen ∧ ∃ Z : Nat → Prop, (∀ b, Z b → b < k ∨ v.ownBlock = some b) ∧ RowZ w Z A xs := by
  obtain ⟨A, c, e, hr⟩ := own_slice h.own
  have hc : L.length ≤ c ∧ c ≤ maxLen := by
    rcases h.own.2 with ⟨h1, h0⟩ | ⟨g, cap, cur, h1, _, _, h7, h8, _⟩
    · rw [e] at h1; simp only [Value.slice.injEq] at h1; have := h1.2.1; have := h1.2.2; simp [maxLen]; omega
    · rw [e] at h1; simp only [Value.slice.injEq] at h1; have := h1.2.2; omega
  refine ⟨A, c, e, hc.1, hc.2, fun b => v.ownBlock = some b, fun b hb => .inr hb, fun j hj => ?_⟩
  obtain ⟨b, off, hA, hb, hcell⟩ := hr j hj
  refine ⟨b, off, hA, ?_, hcell⟩
  rcases h.own.2 with ⟨h1, h0⟩ | ⟨g, cap, cur, h1, _⟩
  · rw [e] at h1
    simp only [Value.slice.injEq] at h1
    rw [h1.1] at hA; cases hA
  · rw [e] at h1
    simp only [Value.slice.injEq] at h1
    rw [hA] at h1
    have := h1.1
    simp only [Option.some.injEq, Addr.mk.injEq] at this
    rw [e, hA]
    show some b = some b
    rfl
/-- The batches as they are read. -/
theorem Want.brows (h : Want w F base k v xs L) (hk : k ≤ w.heap.size) : ∃ A c, v = .slice A L.length c ∧ L.length ≤ c ∧ c ≤ maxLen ∧ BRows3 w w.heap.size A L := by
  obtain ⟨A, c, e, h1, h2, Z, hZ, hr⟩ := h.rows
  refine ⟨A, c, e, h1, h2, BRows3.of_row (hr.row fun b hb => (hZ b hb).elim (fun h => by omega) fun h' => (h.lt h').2) ⟨h.reads.1, fun j hj => ?_⟩⟩
  obtain ⟨u, e1, e2⟩ := h.reads.2 j hj
  exact ⟨u, e1, e2.more hk⟩
/-- One more. -/
theorem Want.grown (h : Want w F base k v xs L) {v' u : Value} {b : B} (hu : SR w k u b) (ho : w'.ownsRow base 30 1 v' (L.length + 1) (xs ++ [u])) (hg : w.grownBy w' v.ownBlock) (hv : v'.ownBlock = v.ownBlock ∨ v'.ownBlock = some w.heap.size)
    (hF : ∀ g, F g → g < w.heap.size) (hk : k ≤ base) (hkb : k ≤ w.heap.size) : Want w' F base k v' (xs ++ [u]) (L ++ [b]) := by
  have hf := Fr.of_grown (F := fun g => v.ownBlock = some g) hg (fun g h => h)
  have hb : Below k w w' := hf.below hkb fun g hg => Nat.le_trans hk (h.lt hg).1
  refine ⟨by simpa using ho, (Reads3.below h.reads hb).append ⟨rfl, fun j hj => ?_⟩, fun x hx => ?_, fun g hg => ?_⟩
  · have : j = 0 := by simpa using hj
    subst this
    exact ⟨u, rfl, hu.below hb⟩
  · rcases List.mem_append.1 hx with hx | hx
    · exact h.one x hx
    · have : x = u := by simpa using hx
      subst this; exact hu.one
  · rcases hv with e | e
    · exact h.apart g (e ▸ hg)
    · rw [e] at hg
      cases hg
      exact fun e => Nat.lt_irrefl _ (hF _ e)
theorem Want.grown_fr (h : Want w F base k v xs L) (hg : w.grownBy w' v.ownBlock) : Fr (fun g => v.ownBlock = some g) w w' := Fr.of_grown hg (fun g h => h)
end
end Go.Proofs.Ytmkijkkddoamgaa.Jo
