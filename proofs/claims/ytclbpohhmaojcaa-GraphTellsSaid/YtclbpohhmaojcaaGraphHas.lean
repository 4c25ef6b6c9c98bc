/-
  The walks of Has, Out, In.
-/
import Derived.Test.YtclbpohhmaojcaaGraphNew
namespace Go.Proofs.Ytclbpohhmaojcaa.GrW
set_option linter.unusedVariables false
open Go Go.RowKit Go.Proofs Go.Proofs.Ytclbpohhmaojcaa Go.Proofs.Ytclbpohhmaojcaa.Wd

/-- Rising rows, none too long. -/
def Rises (L : List (List Int)) : Prop := ∀ l ∈ L, l.Pairwise (· < ·) ∧ l.length ≤ 1000000
theorem GAt.row_at {w : World} {base g n : Nat} {F : Nat → Prop} {L : List (List Int)} (h : GAt w base F g n L) : ∃ r c, Head w g (.slice (some ⟨r, 0, none⟩) n c) ∧ ∀ i, i < 2 * n → ∃ A d, w.cell? ⟨r, i, none⟩ = some (.slice A (L.getD i []).length d) ∧ IRow w base (.slice A (L.getD i []).length d) (L.getD i []) := by
  obtain ⟨r, c, cur, h1, h2, h3, h4, h5, h6, -⟩ := h
  refine ⟨r, c, ⟨h1.cell 0, h1.cell 1⟩, fun i hi => ?_⟩
  obtain ⟨v, hv, hr⟩ := h3.row i (by omega)
  have e : L.getD i [] = L[i]'(by omega) := by simp [List.getD, h4, hi]
  obtain ⟨A, d, rfl⟩ := hr.lies
  rw [e]
  exact ⟨A, d, (h3.blk.cell i).trans hv, hr⟩
theorem Rises.at_ {L : List (List Int)} (h : Rises L) (i : Nat) : (L.getD i []).Pairwise (· < ·) ∧ (L.getD i []).length ≤ 1000000 := by
  by_cases hi : i < L.length
  · have e : L.getD i [] = L[i] := by simp [List.getD, hi]
    rw [e]; exact h _ (List.getElem_mem hi)
  · have e : L.getD i [] = [] := by simp [List.getD, List.getElem?_eq_none (Nat.le_of_not_lt hi)]
    rw [e]; exact ⟨List.Pairwise.nil, Nat.zero_le _⟩
def hasE (n : Nat) (L : List (List Int)) (u v : Int) : Bool := isV n u && (L.getD (2 * u.toNat) []).contains v
theorem has_any (w : World) (base g n : Nat) (F : Nat → Prop) (L : List (List Int)) (h : GAt w base F g n L) (hr : Rises L) (u v : Int) :
    Calls Try.prog 18 #[.pointer (some ⟨g, 0, none⟩), .int .i64 u, .int .i64 v] w fun e w' => e = .returned (.bool (hasE n L u v)) ∧ ∃ q, w' = w.drewN q := by
  obtain ⟨r, c, hH, hrow⟩ := h.row_at
  have HI := Lib.hid (is_any w g r n c hH u)
  by_cases hu : isV n u = true
  · obtain ⟨k, rfl, hk⟩ : ∃ k : Nat, u = k ∧ k < n := by
      unfold isV at hu
      simp only [Bool.and_eq_true, decide_eq_true_eq] at hu
      exact ⟨u.toNat, by omega, by omega⟩
    obtain ⟨A, d, hc, hi⟩ := hrow (2 * k) (by omega)
    have hcell : w.cell? ⟨r, k * 2, none⟩ = some (.slice A (L.getD (2 * k) []).length d) := by rw [Nat.mul_comm k 2]; exact hc
    have HS := Lib.hid (search_any w base _ _ hi (hr.at_ (2 * k)).2 (rising (hr.at_ (2 * k)).1) v)
    have HF : Hid (hasE n L (k : Int) v = (L.getD (2 * k) []).contains v) := Lib.hid (by unfold hasE; rw [hu, Int.toNat_natCast]; rfl)
    obtain ⟨h0, h1⟩ := hH
    have i1 : (0 : Int) ≤ (k : Int) := by omega
    have i2 : (k : Int) < (n : Int) := by omega
    rw [hu] at HI
    generalize L.getD (2 * k) [] = l at *
    clear hu hc hi hrow hr h
    go_enter Try.func18, Try.ntmps18
    go_wp2_with fail
    refine Calls.mono HI.out ?_
    rintro e w' ⟨rfl, rfl⟩
    clear HI
    go_wp2_with fail
    refine Calls.mono HS.out ?_
    rintro e w' ⟨rfl, q, rfl⟩
    clear HS
    generalize l.contains v = b at *
    go_wp2_with fail
    go_ret
    exact ⟨by rw [HF.out]; rfl, q, rfl⟩
  · have HF : Hid (hasE n L u v = false) := Lib.hid (by unfold hasE; rw [Bool.eq_false_iff.2 hu]; rfl)
    rw [Bool.eq_false_iff.2 hu] at HI
    clear hu hrow hr h hH
    go_enter Try.func18, Try.ntmps18
    go_wp2_with fail
    refine Calls.mono HI.out ?_
    rintro e w' ⟨rfl, rfl⟩
    clear HI
    go_wp2_with fail
    go_ret
    exact ⟨by rw [HF.out]; rfl, 0, rfl⟩
/-- Numbers that a call made. -/
def NumsOut (w : World) (l : List Int) (e : Ending) (w' : World) : Prop := ∃ v', e = .returned v' ∧ w'.ownsRow w.heap.size 3 1 v' l.length (iv l) ∧ Below w.heap.size w w'
theorem clone_row (w : World) (base : Nat) (v : Value) (l : List Int) (h : IRow w base v l) (hl : l.length ≤ 1000000) : Calls Try.prog 39 #[v] w (NumsOut w l) := by
  rcases h with ⟨rfl, rfl⟩ | ⟨g, off, cap, cur, rfl, hg, hb, hn, hm, hc, ht⟩
  · refine (Any.slices_Clone_int_nil GrL.lays15 0 0 w).mono ?_
    rintro e w' ⟨rfl, rfl⟩
    exact ⟨_, rfl, own_nil _ _ _, Below.refl _ _⟩
  · refine (Any.slices_Clone_int GrL.lays15 g off l.length cap l w (Nat.le_refl _) (by omega) (getD_at hb ht)).mono ?_
    rintro e w' ⟨v', rfl, ho, -, hb'⟩
    rw [List.take_length] at ho
    exact ⟨v', rfl, ho, hb'⟩
def outE (n : Nat) (L : List (List Int)) (u : Int) : List Int := if isV n u = true then L.getD (2 * u.toNat) [] else []
def intoE (n : Nat) (L : List (List Int)) (u : Int) : List Int := if isV n u = true then L.getD (2 * u.toNat + 1) [] else []
theorem out_any (w : World) (base g n : Nat) (F : Nat → Prop) (L : List (List Int)) (h : GAt w base F g n L) (hr : Rises L) (u : Int) :
    Calls Try.prog 11 #[.pointer (some ⟨g, 0, none⟩), .int .i64 u] w (NumsOut w (outE n L u)) := by
  obtain ⟨r, c, hH, hrow⟩ := h.row_at
  have HI := Lib.hid (is_any w g r n c hH u)
  by_cases hu : isV n u = true
  · obtain ⟨k, rfl, hk⟩ : ∃ k : Nat, u = k ∧ k < n := by
      unfold isV at hu
      simp only [Bool.and_eq_true, decide_eq_true_eq] at hu
      exact ⟨u.toNat, by omega, by omega⟩
    obtain ⟨A, d, hc, hi⟩ := hrow (2 * k) (by omega)
    have hcell : w.cell? ⟨r, k * 2, none⟩ = some (.slice A (L.getD (2 * k) []).length d) := by rw [Nat.mul_comm k 2]; exact hc
    have HS := Lib.hid (clone_row w base _ _ hi (hr.at_ (2 * k)).2)
    have HF : Hid (outE n L (k : Int) = L.getD (2 * k) []) := Lib.hid (by unfold outE; rw [if_pos hu, Int.toNat_natCast])
    obtain ⟨h0, h1⟩ := hH
    have i1 : (0 : Int) ≤ (k : Int) := by omega
    have i2 : (k : Int) < (n : Int) := by omega
    rw [hu] at HI
    generalize L.getD (2 * k) [] = l at *
    clear hu hc hi hrow hr h
    go_enter Try.func11, Try.ntmps11
    go_wp2_with fail
    refine Calls.mono HI.out ?_
    rintro e w' ⟨rfl, rfl⟩
    clear HI
    go_wp2_with fail
    refine Calls.mono HS.out ?_
    rintro e w2 ⟨v', rfl, ho, hb⟩
    obtain ⟨A2, c2, hv2⟩ := own_form ho
    subst hv2
    have HE : Hid (NumsOut w (outE n L (k : Int)) (.returned (.slice A2 l.length c2)) w2) := Lib.hid (by rw [HF.out]; exact ⟨_, rfl, ho, hb⟩)
    clear HS ho hb HF
    generalize l.length = m at *
    go_wp2_with fail
    go_ret
    exact HE.out
  · have HF : Hid (NumsOut w (outE n L u) (.returned (.slice none 0 0)) w) := Lib.hid (by unfold outE; rw [if_neg hu]; exact ⟨_, rfl, own_nil _ _ _, Below.refl _ _⟩)
    rw [Bool.eq_false_iff.2 hu] at HI
    clear hu hrow hr h hH
    go_enter Try.func11, Try.ntmps11
    go_wp2_with fail
    refine Calls.mono HI.out ?_
    rintro e w' ⟨rfl, rfl⟩
    clear HI
    go_wp2_with fail
    go_ret
    exact HF.out
theorem into_any (w : World) (base g n : Nat) (F : Nat → Prop) (L : List (List Int)) (h : GAt w base F g n L) (hr : Rises L) (u : Int) :
    Calls Try.prog 12 #[.pointer (some ⟨g, 0, none⟩), .int .i64 u] w (NumsOut w (intoE n L u)) := by
  obtain ⟨r, c, hH, hrow⟩ := h.row_at
  have HI := Lib.hid (is_any w g r n c hH u)
  by_cases hu : isV n u = true
  · obtain ⟨k, rfl, hk⟩ : ∃ k : Nat, u = k ∧ k < n := by
      unfold isV at hu
      simp only [Bool.and_eq_true, decide_eq_true_eq] at hu
      exact ⟨u.toNat, by omega, by omega⟩
    obtain ⟨A, d, hc, hi⟩ := hrow (2 * k + 1) (by omega)
    have hcell : w.cell? ⟨r, k * 2 + 1, none⟩ = some (.slice A (L.getD (2 * k + 1) []).length d) := by rw [Nat.mul_comm k 2]; exact hc
    have HS := Lib.hid (clone_row w base _ _ hi (hr.at_ (2 * k + 1)).2)
    have HF : Hid (intoE n L (k : Int) = L.getD (2 * k + 1) []) := Lib.hid (by unfold intoE; rw [if_pos hu, Int.toNat_natCast])
    obtain ⟨h0, h1⟩ := hH
    have i1 : (0 : Int) ≤ (k : Int) := by omega
    have i2 : (k : Int) < (n : Int) := by omega
    rw [hu] at HI
    generalize L.getD (2 * k + 1) [] = l at *
    clear hu hc hi hrow hr h
    go_enter Try.func12, Try.ntmps12
    go_wp2_with fail
    refine Calls.mono HI.out ?_
    rintro e w' ⟨rfl, rfl⟩
    clear HI
    go_wp2_with fail
    refine Calls.mono HS.out ?_
    rintro e w2 ⟨v', rfl, ho, hb⟩
    obtain ⟨A2, c2, hv2⟩ := own_form ho
    subst hv2
    have HE : Hid (NumsOut w (intoE n L (k : Int)) (.returned (.slice A2 l.length c2)) w2) := Lib.hid (by rw [HF.out]; exact ⟨_, rfl, ho, hb⟩)
    clear HS ho hb HF
    generalize l.length = m at *
    go_wp2_with fail
    go_ret
    exact HE.out
  · have HF : Hid (NumsOut w (intoE n L u) (.returned (.slice none 0 0)) w) := Lib.hid (by unfold intoE; rw [if_neg hu]; exact ⟨_, rfl, own_nil _ _ _, Below.refl _ _⟩)
    rw [Bool.eq_false_iff.2 hu] at HI
    clear hu hrow hr h hH
    go_enter Try.func12, Try.ntmps12
    go_wp2_with fail
    refine Calls.mono HI.out ?_
    rintro e w' ⟨rfl, rfl⟩
    clear HI
    go_wp2_with fail
    go_ret
    exact HF.out
end Go.Proofs.Ytclbpohhmaojcaa.GrW
