/-
  NamesNear, in plain text: the places from which scopes are told, the nearest one first; who is the first of a scope.
-/
import Derived.Test.YtifmnoepifgaiaaNameAllPl
namespace Go.Proofs.Ytifmnoepifgaiaa.NmW
set_option linter.unusedVariables false
open Go Go.RowKit Go.Maps Go.Sort Go.Shelf Go.Proofs Go.Proofs.Ytifmnoepifgaiaa Go.Proofs.Ytifmnoepifgaiaa.Wd Go.Proofs.Ytifmnoepifgaiaa.ScW Go.Proofs.Ytifmnoepifgaiaa.Nm Go.Proofs.Ytifmnoepifgaiaa.NmL
open Go.Proofs.Ytifmnoepifgaiaa.Sc (N own flow rightAt right chain place chainI deep over below owned)

/-- A place, and its chain. -/
def fsN (ns : List N) (i : Nat) : List Nat := i :: chain ns i
theorem fs_all {ns : List N} (hr : right ns = true) : ∀ (n i : Nat), i ≤ n → i < ns.length → ownersI ns (i : Int) = (fsN ns i).map (fun k => own ns k) ∧ ∀ k ∈ fsN ns i, k < ns.length ∧ flow ns k = flow ns i ∧ (own ns k = -1 ∨ (0 ≤ own ns k ∧ (own ns k).toNat ∈ chain ns i))
  | n, i, hn, hi => by
    obtain ⟨h1, h2, h3⟩ := Sc.right_at hr hi
    by_cases h0 : 0 ≤ own ns i
    · have hlt : (own ns i).toNat < i := by omega
      obtain ⟨e1, e2, e3⟩ := ownersI_own hr hi h0
      have hc := Sc.chain_some h0 h2
      obtain ⟨m, rfl⟩ : ∃ m, n = m + 1 := ⟨n - 1, by omega⟩
      obtain ⟨k1, k2⟩ := fs_all hr m (own ns i).toNat (by omega) (by omega)
      refine ⟨?_, fun k hk => ?_⟩
      · rw [e1]
        unfold fsN
        rw [List.map_cons, hc]
        congr 1
        rw [← Int.toNat_of_nonneg h0, k1]
        unfold fsN
        rw [Int.toNat_natCast]
      · unfold fsN at hk
        rcases List.mem_cons.1 hk with rfl | hk
        · exact ⟨hi, rfl, .inr ⟨h0, by rw [hc]; exact List.mem_cons_self⟩⟩
        · rw [hc] at hk
          obtain ⟨m1, m2, m3⟩ := k2 k hk
          refine ⟨m1, m2.trans e3, m3.imp id fun m4 => ⟨m4.1, ?_⟩⟩
          rw [hc]
          exact List.mem_cons_of_mem _ m4.2
    · have hc := Sc.chain_none (ns := ns) (i := i) (by omega)
      have ho : own ns i = -1 := by omega
      refine ⟨?_, fun k hk => ?_⟩
      · unfold ownersI chainI fsN
        rw [if_pos (Sc.place_nat hi), Int.toNat_natCast, hc]
        simp [toI, ho]
      · unfold fsN at hk
        rw [hc] at hk
        rw [List.mem_singleton.1 hk]
        exact ⟨hi, rfl, .inl ho⟩
theorem owned_sorted (ns : List N) (f o : Int) : (owned ns f o).Pairwise (· < ·) := by
  unfold owned
  exact List.Pairwise.filter _ List.pairwise_lt_range
/-- The first of a scope that has the name. -/
theorem look_first {ns : List N} {ss : List Str} {f o : Int} {s : Str} (hs : s ≠ none_) {p : Nat} (hp : p < (owned ns f o).length) (h : nm ss (owned ns f o)[p] = s) (hno : ∀ x ∈ (owned ns f o).take p, nm ss x ≠ s) : lookN ns ss ns.length (f, o, s) = some (owned ns f o)[p] := by
  have hm := mem_owned.1 (List.getElem_mem hp)
  cases hl : lookN ns ss ns.length (f, o, s) with
  | none =>
    have : (lookN ns ss ns.length (f, o, s)).isSome = true := lookN_isSome.2 ⟨_, hm.1, by rw [h]; exact hs, by unfold key; rw [hm.2.1, hm.2.2, h]⟩
    rw [hl] at this
    cases this
  | some v =>
    obtain ⟨h1, h2, h3, h4⟩ := lookN_iff hl
    unfold key at h3
    injection h3 with h5 h6
    injection h6 with h6 h7
    have hv : v ∈ owned ns f o := mem_owned.2 ⟨h1, h5, h6⟩
    obtain ⟨q, hq, e⟩ := List.getElem_of_mem hv
    rcases Nat.lt_trichotomy q p with hqp | hqp | hqp
    · exact absurd h7 (hno v (by rw [List.mem_take_iff_getElem]; exact ⟨q, by omega, e⟩))
    · subst hqp; rw [e]
    · exfalso
      have hlt := List.pairwise_iff_getElem.1 (owned_sorted ns f o) p q hp hq hqp
      rw [e] at hlt
      exact h4 _ hlt (by rw [h]; exact hs) (by unfold key; rw [hm.2.1, hm.2.2, h])
theorem look_nobody {ns : List N} {ss : List Str} {f o : Int} {s : Str} (hno : ∀ x ∈ owned ns f o, nm ss x ≠ s) : lookN ns ss ns.length (f, o, s) = none := by
  cases hl : lookN ns ss ns.length (f, o, s) with
  | none => rfl
  | some v =>
    obtain ⟨h1, h2, h3, h4⟩ := lookN_iff hl
    unfold key at h3
    injection h3 with h5 h6
    injection h6 with h6 h7
    exact absurd h7 (hno v (mem_owned.2 ⟨h1, h5, h6⟩))
theorem over_of {ns : List N} {i : Nat} {o : Int} (hi : i < ns.length) (h0 : 0 ≤ o) (h : o.toNat ∈ chain ns i) : over ns o (i : Int) = true := by
  rw [← Int.toNat_of_nonneg h0, Sc.over_nat hi]
  exact decide_eq_true h
theorem enc_ok (r : Nat) (hr : r < 5) : (Utf8.encode (97 + r)).size ≤ maxLen ∧ Utf8.encode (97 + r) ≠ none_ := by
  have : r = 0 ∨ r = 1 ∨ r = 2 ∨ r = 3 ∨ r = 4 := by omega
  rcases this with rfl | rfl | rfl | rfl | rfl <;> exact ⟨by decide, by decide⟩
end Go.Proofs.Ytifmnoepifgaiaa.NmW
