/-
  The walks of Put and Cut at whatever numbers; what is put and cut, plainly.
-/
import Derived.Test.YtclbpohhmaojcaaGraphCutE
import Derived.Test.YtclbpohhmaojcaaGraphSortPl
namespace Go.Proofs.Ytclbpohhmaojcaa.Gr
open Go.Proofs.Ytclbpohhmaojcaa.GrW (add rem isV)
/-- An edge more, an edge less. -/
def putL (L : List (List Int)) (k m : Nat) : List (List Int) := (L.set (2 * k) (add (L.getD (2 * k) []) m)).set (2 * m + 1) (add (L.getD (2 * m + 1) []) k)
def cutL (L : List (List Int)) (k m : Nat) : List (List Int) := (L.set (2 * k) (rem (L.getD (2 * k) []) m)).set (2 * m + 1) (rem (L.getD (2 * m + 1) []) k)
end Go.Proofs.Ytclbpohhmaojcaa.Gr
namespace Go.Proofs.Ytclbpohhmaojcaa.GrW
set_option linter.unusedVariables false
open Go Go.RowKit Go.Proofs Go.Proofs.Ytclbpohhmaojcaa Go.Proofs.Ytclbpohhmaojcaa.Wd
open Go.Proofs.Ytclbpohhmaojcaa.Gr (putL cutL)

theorem put_refused (w : World) (base g n : Nat) (F : Nat → Prop) (L : List (List Int)) (h : GAt w base F g n L) (u v : Int) (hb : ¬ (isV n u = true ∧ isV n v = true ∧ u ≠ v)) :
    Calls Try.prog 21 #[.pointer (some ⟨g, 0, none⟩), .int .i64 u, .int .i64 v] w fun e w' => e = .returned (.tuple #[.bool false, .int .i64 2]) ∧ w = w' := by
  obtain ⟨r, c, hH, -⟩ := h.row_at
  have HN := Lib.hid (none_any w g _ hH)
  have HU := Lib.hid (is_any w g r n c hH u)
  have HV := Lib.hid (is_any w g r n c hH v)
  clear h hH
  by_cases hu : isV n u = true
  · rw [hu] at HU
    by_cases hv : isV n v = true
    · rw [hv] at HV
      obtain rfl : v = u := Decidable.not_not.1 fun e => hb ⟨hu, hv, fun e2 => e e2.symm⟩
      clear hb hu hv
      go_enter Try.func21, Try.ntmps21
      go_wp2_with fail
      refine Calls.mono HN.out ?_
      rintro e w' ⟨rfl, rfl⟩
      clear HN
      go_wp2_with fail
      refine Calls.mono HU.out ?_
      rintro e w' ⟨rfl, rfl⟩
      clear HU
      go_wp2_with fail
      refine Calls.mono HV.out ?_
      rintro e w' ⟨rfl, rfl⟩
      clear HV
      go_wp2_with fail
      go_ret2
      exact ⟨rfl, rfl⟩
    · rw [Bool.eq_false_iff.2 hv] at HV
      clear hb hu hv
      go_enter Try.func21, Try.ntmps21
      go_wp2_with fail
      refine Calls.mono HN.out ?_
      rintro e w' ⟨rfl, rfl⟩
      clear HN
      go_wp2_with fail
      refine Calls.mono HU.out ?_
      rintro e w' ⟨rfl, rfl⟩
      clear HU
      go_wp2_with fail
      refine Calls.mono HV.out ?_
      rintro e w' ⟨rfl, rfl⟩
      clear HV
      go_wp2_with fail
      go_ret2
      exact ⟨rfl, rfl⟩
  · rw [Bool.eq_false_iff.2 hu] at HU
    clear hb hu
    go_enter Try.func21, Try.ntmps21
    go_wp2_with fail
    refine Calls.mono HN.out ?_
    rintro e w' ⟨rfl, rfl⟩
    clear HN
    go_wp2_with fail
    refine Calls.mono HU.out ?_
    rintro e w' ⟨rfl, rfl⟩
    clear HU
    go_wp2_with fail
    go_ret2
    exact ⟨rfl, rfl⟩
theorem cut_refused (w : World) (base g n : Nat) (F : Nat → Prop) (L : List (List Int)) (h : GAt w base F g n L) (u v : Int) (hb : ¬ (isV n u = true ∧ isV n v = true)) :
    Calls Try.prog 23 #[.pointer (some ⟨g, 0, none⟩), .int .i64 u, .int .i64 v] w fun e w' => e = .returned (.bool false) ∧ w = w' := by
  obtain ⟨r, c, hH, -⟩ := h.row_at
  have HU := Lib.hid (is_any w g r n c hH u)
  have HV := Lib.hid (is_any w g r n c hH v)
  clear h hH
  by_cases hu : isV n u = true
  · rw [hu] at HU
    by_cases hv : isV n v = true
    · exact absurd ⟨hu, hv⟩ hb
    · rw [Bool.eq_false_iff.2 hv] at HV
      clear hb hu hv
      go_enter Try.func23, Try.ntmps23
      go_wp2_with fail
      refine Calls.mono HU.out ?_
      rintro e w' ⟨rfl, rfl⟩
      clear HU
      go_wp2_with fail
      refine Calls.mono HV.out ?_
      rintro e w' ⟨rfl, rfl⟩
      clear HV
      go_wp2_with fail
      go_ret
      exact ⟨rfl, rfl⟩
  · rw [Bool.eq_false_iff.2 hu] at HU
    clear hb hu
    go_enter Try.func23, Try.ntmps23
    go_wp2_with fail
    refine Calls.mono HU.out ?_
    rintro e w' ⟨rfl, rfl⟩
    clear HU
    go_wp2_with fail
    go_ret
    exact ⟨rfl, rfl⟩
/-- Between two calls: a graph that is another, whose blocks were its own or are new. -/
def Upd (base : Nat) (F : Nat → Prop) (g n : Nat) (L : List (List Int)) (w w' : World) : Prop := ∃ F', GAt w' base F' g n L ∧ Fr F w w' ∧ ∀ j, F' j → F j ∨ w.heap.size ≤ j
theorem Upd.refl {base g n : Nat} {F : Nat → Prop} {L : List (List Int)} {w : World} (h : GAt w base F g n L) : Upd base F g n L w w := ⟨F, h, Fr.refl _ _, fun j h => .inl h⟩
/-- What Put answers at whatever numbers. -/
def canPut (n : Nat) (u v : Int) : Bool := isV n u && isV n v && decide (u ≠ v)
def PutOut (base : Nat) (F : Nat → Prop) (g n : Nat) (L : List (List Int)) (u v : Int) (w : World) (e : Ending) (w' : World) : Prop :=
  if canPut n u v then e = .returned (.tuple #[.bool (!hasE n L u v), .int .i64 0]) ∧ Upd base F g n (putL L u.toNat v.toNat) w w' else e = .returned (.tuple #[.bool false, .int .i64 2]) ∧ w' = w
theorem put_all (w : World) (base g n : Nat) (F : Nat → Prop) (L : List (List Int)) (h : GAt w base F g n L) (hr : Rises L) (hbase : base ≤ w.heap.size) (u v : Int) :
    Calls Try.prog 21 #[.pointer (some ⟨g, 0, none⟩), .int .i64 u, .int .i64 v] w (PutOut base F g n L u v w) := by
  by_cases hb : isV n u = true ∧ isV n v = true ∧ u ≠ v
  · obtain ⟨k, rfl, hk⟩ := isV_nat hb.1
    obtain ⟨m, rfl, hm⟩ := isV_nat hb.2.1
    have hne : k ≠ m := fun e => hb.2.2 (by rw [e])
    refine (putE_any w base g n F L h hr hbase k m hk hm hne).mono ?_
    rintro e w' ⟨F', rfl, h1, h2, h3⟩
    unfold PutOut
    rw [if_pos (by unfold canPut; rw [hb.1, hb.2.1]; simpa using hb.2.2)]
    refine ⟨?_, F', h1, h2, h3⟩
    unfold hasE
    rw [hb.1]
    rfl
  · refine (put_refused w base g n F L h u v hb).mono ?_
    rintro e w' ⟨rfl, rfl⟩
    unfold PutOut
    rw [if_neg]
    · exact ⟨rfl, rfl⟩
    · intro e
      unfold canPut at e
      simp only [Bool.and_eq_true, decide_eq_true_eq] at e
      exact hb ⟨e.1.1, e.1.2, e.2⟩
def CutOut (base : Nat) (F : Nat → Prop) (g n : Nat) (L : List (List Int)) (u v : Int) (w : World) (e : Ending) (w' : World) : Prop :=
  if isV n u && isV n v then e = .returned (.bool (hasE n L u v)) ∧ Upd base F g n (cutL L u.toNat v.toNat) w w' else e = .returned (.bool false) ∧ w' = w
theorem cut_all (w : World) (base g n : Nat) (F : Nat → Prop) (L : List (List Int)) (h : GAt w base F g n L) (hr : Rises L) (hbase : base ≤ w.heap.size) (u v : Int) :
    Calls Try.prog 23 #[.pointer (some ⟨g, 0, none⟩), .int .i64 u, .int .i64 v] w (CutOut base F g n L u v w) := by
  by_cases hb : isV n u = true ∧ isV n v = true
  · obtain ⟨k, rfl, hk⟩ := isV_nat hb.1
    obtain ⟨m, rfl, hm⟩ := isV_nat hb.2
    refine (cutE_any w base g n F L h hr hbase k m hk hm).mono ?_
    rintro e w' ⟨F', rfl, h1, h2, h3⟩
    unfold CutOut
    rw [if_pos (by rw [hb.1, hb.2]; rfl)]
    refine ⟨?_, F', h1, h2, h3⟩
    unfold hasE
    rw [hb.1]
    rfl
  · refine (cut_refused w base g n F L h u v hb).mono ?_
    rintro e w' ⟨rfl, rfl⟩
    unfold CutOut
    rw [if_neg (by rw [Bool.and_eq_true]; exact hb)]
    exact ⟨rfl, rfl⟩
end Go.Proofs.Ytclbpohhmaojcaa.GrW
