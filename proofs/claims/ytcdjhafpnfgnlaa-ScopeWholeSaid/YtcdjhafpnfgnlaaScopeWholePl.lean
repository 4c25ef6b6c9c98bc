/-
  ScopeWhole, plainly: what is visited from those that one owns is there once, and what it is.
-/
import Derived.Test.YtcdjhafpnfgnlaaScopePlain
namespace Go.Proofs.Ytcdjhafpnfgnlaa.ScP
set_option linter.unusedVariables false
open Go.Proofs.Ytcdjhafpnfgnlaa.Sc (N own flow rightAt right chain place chainI deep over below owned)

theorem below_is {ns : List N} {i : Nat} (hi : i < ns.length) : below ns (i : Int) = (List.range ns.length).filter fun k => decide (i ∈ chain ns k) := by
  unfold below
  rw [if_pos (Sc.place_nat hi)]
  exact List.filter_congr fun k hk => Sc.over_nat (List.mem_range.1 hk)
theorem mem_below {ns : List N} {i x : Nat} (hi : i < ns.length) : x ∈ below ns (i : Int) ↔ x < ns.length ∧ i ∈ chain ns x := by
  rw [below_is hi, List.mem_filter, List.mem_range, decide_eq_true_eq]
theorem mem_owned {ns : List N} {f o : Int} {x : Nat} : x ∈ owned ns f o ↔ x < ns.length ∧ flow ns x = f ∧ own ns x = o := by
  unfold owned
  rw [List.mem_filter, List.mem_range, Bool.and_eq_true, decide_eq_true_eq, decide_eq_true_eq]
theorem below_lt {ns : List N} {i : Nat} (hi : i < ns.length) : (below ns (i : Int)).Pairwise (· < ·) := by
  rw [below_is hi]; exact List.Pairwise.filter _ List.pairwise_lt_range
theorem below_gt {ns : List N} {i x : Nat} (hi : i < ns.length) (h : x ∈ below ns (i : Int)) : i < x := Sc.chain_lt ns _ _ ((mem_below hi).1 h).2
theorem owned_nodup (ns : List N) (f o : Int) : (owned ns f o).Nodup := by unfold owned; exact List.Pairwise.filter _ List.nodup_range
theorem below_nodup {ns : List N} {i : Nat} (hi : i < ns.length) : (below ns (i : Int)).Nodup := by rw [below_is hi]; exact List.Pairwise.filter _ List.nodup_range
/-- A chain that is not empty. -/
theorem chain_ne {ns : List N} (hr : right ns = true) {x k : Nat} (hx : x < ns.length) (h : k ∈ chain ns x) : ∃ o : Nat, own ns x = o ∧ o < x ∧ chain ns x = o :: chain ns o ∧ flow ns o = flow ns x := by
  obtain ⟨h1, h2, h3⟩ := Sc.right_at hr hx
  rcases Int.lt_or_le (own ns x) 0 with h0 | h0
  · rw [Sc.chain_none h0] at h; cases h
  · exact ⟨(own ns x).toNat, by omega, by omega, Sc.chain_some h0 h2, h3 h0⟩
theorem same_own {ns : List N} (hr : right ns = true) : ∀ {x : Nat}, x < ns.length → ∀ {k k' : Nat}, (k = x ∨ k ∈ chain ns x) → (k' = x ∨ k' ∈ chain ns x) → own ns k = own ns k' → k = k' := by
  have key : ∀ {x k' : Nat}, x < ns.length → k' ∈ chain ns x → own ns x ≠ own ns k' := by
    intro x k' hx hk he
    obtain ⟨o, ho, hox, hc, -⟩ := chain_ne hr hx hk
    have hle : k' ≤ o := by
      rw [hc] at hk
      rcases List.mem_cons.1 hk with rfl | hk
      · exact Nat.le_refl _
      · exact Nat.le_of_lt (Sc.chain_lt ns _ _ hk)
    have := (Sc.right_at hr (i := k') (by omega)).2.1
    omega
  intro x
  induction x using Nat.strongRecOn with
  | _ x ih =>
    intro hx k k' hk hk' he
    rcases hk with rfl | hk
    · rcases hk' with rfl | hk'
      · rfl
      · exact absurd he (key hx hk')
    · rcases hk' with rfl | hk'
      · exact absurd he.symm (key hx hk)
      · obtain ⟨o, ho, hox, hc, -⟩ := chain_ne hr hx hk
        rw [hc] at hk hk'
        exact ih o hox (by omega) (List.mem_cons.1 hk) (List.mem_cons.1 hk') he
/-- Each of them, and those below it. -/
def vis (ns : List N) (ks : List Nat) : List Nat := ks.flatMap fun k => k :: below ns (k : Int)
theorem mem_vis {ns : List N} {ks : List Nat} (hk : ∀ k ∈ ks, k < ns.length) {x : Nat} : x ∈ vis ns ks ↔ ∃ k ∈ ks, x < ns.length ∧ (k = x ∨ k ∈ chain ns x) := by
  unfold vis
  rw [List.mem_flatMap]
  constructor
  · rintro ⟨k, h1, h2⟩
    refine ⟨k, h1, ?_⟩
    rcases List.mem_cons.1 h2 with rfl | h2
    · exact ⟨hk _ h1, .inl rfl⟩
    · have := (mem_below (hk _ h1)).1 h2
      exact ⟨this.1, .inr this.2⟩
  · rintro ⟨k, h1, hx, rfl | h2⟩
    · exact ⟨_, h1, List.mem_cons_self⟩
    · exact ⟨k, h1, List.mem_cons_of_mem _ ((mem_below (hk _ h1)).2 ⟨hx, h2⟩)⟩
theorem mem_one {ns : List N} {k x : Nat} (hk : k < ns.length) (h : x ∈ k :: below ns (k : Int)) : x < ns.length ∧ (k = x ∨ k ∈ chain ns x) := by
  rcases List.mem_cons.1 h with rfl | h2
  · exact ⟨hk, .inl rfl⟩
  · have := (mem_below hk).1 h2
    exact ⟨this.1, .inr this.2⟩
theorem vis_nodup {ns : List N} (hr : right ns = true) (f o : Int) : (vis ns (owned ns f o)).Nodup := by
  unfold vis
  refine List.pairwise_flatMap.2 ⟨fun k hk => ?_, ?_⟩
  · have hkl := (mem_owned.1 hk).1
    exact List.nodup_cons.2 ⟨fun hm => Nat.lt_irrefl _ (below_gt hkl hm), below_nodup hkl⟩
  · refine List.Pairwise.imp_of_mem (fun {a b} ha hb hab => ?_) (owned_nodup ns f o)
    intro x hx y hy e
    subst e
    have ha' := mem_owned.1 ha
    have hb' := mem_owned.1 hb
    have h1 := mem_one ha'.1 hx
    have h2 := mem_one hb'.1 hy
    exact hab (same_own hr h1.1 h1.2 h2.2 (by rw [ha'.2.2, hb'.2.2]))
theorem chain_flow {ns : List N} (hr : right ns = true) : ∀ {x : Nat}, x < ns.length → ∀ {k : Nat}, k ∈ chain ns x → flow ns k = flow ns x := by
  intro x
  induction x using Nat.strongRecOn with
  | _ x ih =>
    intro hx k hk
    obtain ⟨o, ho, hox, hc, hf⟩ := chain_ne hr hx hk
    rw [hc] at hk
    rcases List.mem_cons.1 hk with rfl | hk
    · exact hf
    · rw [ih o hox (by omega) hk, hf]
theorem root {ns : List N} (hr : right ns = true) : ∀ {x : Nat}, x < ns.length → ∃ k, (k = x ∨ k ∈ chain ns x) ∧ own ns k = -1 := by
  intro x
  induction x using Nat.strongRecOn with
  | _ x ih =>
    intro hx
    obtain ⟨h1, h2, h3⟩ := Sc.right_at hr hx
    rcases Int.lt_or_le (own ns x) 0 with h0 | h0
    · exact ⟨x, .inl rfl, by omega⟩
    · obtain ⟨k, hk, he⟩ := ih (own ns x).toNat (by omega) (by omega)
      refine ⟨k, .inr ?_, he⟩
      rw [Sc.chain_some h0 h2]
      exact List.mem_cons.2 hk
theorem mem_flow {ns : List N} (hr : right ns = true) {f : Int} {x : Nat} : x ∈ vis ns (owned ns f (-1)) ↔ x < ns.length ∧ flow ns x = f := by
  rw [mem_vis (fun k hk => (mem_owned.1 hk).1)]
  constructor
  · rintro ⟨k, hk, hx, rfl | hc⟩
    · exact ⟨hx, (mem_owned.1 hk).2.1⟩
    · exact ⟨hx, by rw [← chain_flow hr hx hc]; exact (mem_owned.1 hk).2.1⟩
  · rintro ⟨hx, hf⟩
    obtain ⟨k, hk, he⟩ := root hr hx
    refine ⟨k, mem_owned.2 ⟨?_, ?_, he⟩, hx, hk⟩
    · rcases hk with rfl | hk
      · exact hx
      · exact Nat.lt_trans (Sc.chain_lt ns _ _ hk) hx
    · rcases hk with rfl | hk
      · exact hf
      · rw [chain_flow hr hx hk, hf]
theorem chain_trans {ns : List N} (hr : right ns = true) {i k : Nat} (hi : i ∈ chain ns k) : ∀ {x : Nat}, x < ns.length → k ∈ chain ns x → i ∈ chain ns x := by
  intro x
  induction x using Nat.strongRecOn with
  | _ x ih =>
    intro hx hk
    obtain ⟨o, ho, hox, hc, hf⟩ := chain_ne hr hx hk
    rw [hc] at hk ⊢
    refine List.mem_cons_of_mem _ ?_
    rcases List.mem_cons.1 hk with rfl | hk
    · exact hi
    · exact ih o hox (by omega) hk
theorem child {ns : List N} (hr : right ns = true) {i : Nat} : ∀ {x : Nat}, x < ns.length → i ∈ chain ns x → ∃ k, (k = x ∨ k ∈ chain ns x) ∧ own ns k = i := by
  intro x
  induction x using Nat.strongRecOn with
  | _ x ih =>
    intro hx hi
    obtain ⟨o, ho, hox, hc, hf⟩ := chain_ne hr hx hi
    rw [hc] at hi
    rcases List.mem_cons.1 hi with rfl | hi
    · exact ⟨x, .inl rfl, ho⟩
    · obtain ⟨k, hk, he⟩ := ih o hox (by omega) hi
      exact ⟨k, .inr (by rw [hc]; exact List.mem_cons.2 hk), he⟩
theorem mem_place {ns : List N} (hr : right ns = true) {i : Nat} (hi : i < ns.length) {x : Nat} : x ∈ vis ns (owned ns (flow ns i) (i : Int)) ↔ x ∈ below ns (i : Int) := by
  rw [mem_vis (fun k hk => (mem_owned.1 hk).1), mem_below hi]
  constructor
  · rintro ⟨k, hk, hx, hc⟩
    have hk' := mem_owned.1 hk
    have hik : i ∈ chain ns k := by
      rw [Sc.chain_some (by rw [hk'.2.2]; omega) (Sc.right_at hr hk'.1).2.1, hk'.2.2]
      simp
    rcases hc with rfl | hc
    · exact ⟨hx, hik⟩
    · exact ⟨hx, chain_trans hr hik hx hc⟩
  · rintro ⟨hx, hc⟩
    obtain ⟨k, hk, he⟩ := child hr hx hc
    have hkl : k < ns.length := by
      rcases hk with rfl | hk
      · exact hx
      · exact Nat.lt_trans (Sc.chain_lt ns _ _ hk) hx
    refine ⟨k, mem_owned.2 ⟨hkl, ?_, he⟩, hx, hk⟩
    have := (Sc.right_at hr hkl).2.2 (by omega)
    rw [he] at this
    exact this.symm
theorem place_length {ns : List N} (hr : right ns = true) {i : Nat} (hi : i < ns.length) : (vis ns (owned ns (flow ns i) (i : Int))).length = (below ns (i : Int)).length :=
  ((List.perm_ext_iff_of_nodup (vis_nodup hr _ _) (below_nodup hi)).2 fun x => mem_place hr hi).length_eq
theorem count_nodup {l : List Nat} (h : l.Nodup) (x : Nat) : l.count x = if x ∈ l then 1 else 0 := by
  split
  · rename_i hm
    have h1 := List.nodup_iff_count.1 h x
    have h2 := List.count_pos_iff.2 hm
    omega
  · rename_i hm
    exact List.count_eq_zero.2 hm
theorem vis_take {ns : List N} {ks : List Nat} {p : Nat} (h : p < ks.length) : vis ns (ks.take (p + 1)) = vis ns (ks.take p) ++ (ks[p] :: below ns (ks[p] : Int)) := by
  unfold vis
  rw [List.take_succ_eq_append_getElem h, List.flatMap_append]; simp
/-- What is ahead in a row that holds nothing twice does not hold what is next. -/
theorem ahead {l P t : List Nat} {x : Nat} (h : l.Nodup) (e : l = P ++ x :: t) : x ∉ P := by
  subst e
  intro hm
  have := List.pairwise_append.1 h
  exact this.2.2 x hm x List.mem_cons_self rfl
theorem vis_split {ns : List N} {ks : List Nat} {p : Nat} (h : p < ks.length) : ∃ t, vis ns ks = vis ns (ks.take p) ++ (ks[p] :: below ns (ks[p] : Int)) ++ t := by
  refine ⟨vis ns (ks.drop (p + 1)), ?_⟩
  rw [← vis_take h]
  unfold vis
  rw [← List.flatMap_append, List.take_append_drop]
end Go.Proofs.Ytcdjhafpnfgnlaa.ScP
