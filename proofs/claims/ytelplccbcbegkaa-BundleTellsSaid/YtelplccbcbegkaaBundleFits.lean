/-
  A bundle's Fits: the error that there would be; it is always the same.
-/
import Derived.Test.YtelplccbcbegkaaBundleGrow
namespace Go.Proofs.Ytelplccbcbegkaa.Ord
set_option linter.unusedVariables false
open Go.Proofs.Ytelplccbcbegkaa.Gr (E Path Inside OK outs intos Cyc putL)
open Go.Proofs.Ytelplccbcbegkaa.GrW (isV growL canGrow)

theorem PutI.det {n : Nat} {L L1 L2 : List (List Int)} {P A Q B P1 A1 P2 A2 : List Nat} {x : Int × Int} {c k c2 k2 : Nat} (h : PutI n L P A x c k L1 P1 A1) (h2 : PutI n L Q B x c2 k2 L2 P2 A2) : k = k2 ∧ L1 = L2 := by
  rcases h with ⟨hb, rfl, -, rfl, -⟩ | ⟨a, b, ha, hb, rfl, h⟩
  · rcases h2 with ⟨-, rfl, -, rfl, -⟩ | ⟨a, b, ha, hb2, rfl, -⟩
    · exact ⟨rfl, rfl⟩
    · exfalso
      have e1 : isV n ((a : Nat) : Int) = true := by unfold isV; simp; omega
      have e2 : isV n ((b : Nat) : Int) = true := by unfold isV; simp; omega
      simp [e1, e2] at hb
  · rcases h2 with ⟨hb2, -⟩ | ⟨a2, b2, ha2, hb2, e, h2⟩
    · exfalso
      have e1 : isV n ((a : Nat) : Int) = true := by unfold isV; simp; omega
      have e2 : isV n ((b : Nat) : Int) = true := by unfold isV; simp; omega
      simp [e1, e2] at hb2
    · have e1 : (a : Int) = (a2 : Int) := congrArg Prod.fst e
      have e2 : (b : Int) = (b2 : Int) := congrArg Prod.snd e
      obtain rfl : a = a2 := by omega
      obtain rfl : b = b2 := by omega
      rcases h with ⟨rfl, -, hp, rfl, -⟩ | ⟨rfl, -, hp, -, rfl, -⟩
      · rcases h2 with ⟨rfl, -, -, rfl, -⟩ | ⟨-, -, hp2, -⟩
        · exact ⟨rfl, rfl⟩
        · exact absurd hp hp2
      · rcases h2 with ⟨-, -, hp2, -⟩ | ⟨rfl, -, -, -, rfl, -⟩
        · exact absurd hp2 hp
        · exact ⟨rfl, rfl⟩
theorem Ran.det' {n : Nat} {L L1 : List (List Int)} {P A P1 A1 : List Nat} {es : List (Int × Int)} (h : Ran n L P A es L1 P1 A1) : ∀ {Q B P2 A2 : List Nat} {L2 : List (List Int)} {es2 : List (Int × Int)}, Ran n L Q B es2 L2 P2 A2 → es = es2 → L1 = L2 := by
  induction h with
  | nil =>
    intro Q B P2 A2 L2 es2 h2 hes
    cases h2 with
    | nil => rfl
    | snoc _ _ => simp at hes
  | snoc h1 h3 ih =>
    intro Q B P2 A2 L2 es2 h2 hes
    cases h2 with
    | nil => simp at hes
    | snoc k1 k3 =>
      obtain ⟨e1, e2⟩ := List.append_inj' hes rfl
      simp only [List.cons.injEq, and_true] at e2
      subst e2
      have e3 := ih k1 e1
      subst e3
      exact (h3.det k3).2
theorem Ran.det {n : Nat} {L L1 L2 : List (List Int)} {P A Q B P1 A1 P2 A2 : List Nat} {es : List (Int × Int)} (h : Ran n L P A es L1 P1 A1) (h2 : Ran n L Q B es L2 P2 A2) : L1 = L2 := h.det' h2 rfl
/-- The first edges of what was taken were taken. -/
theorem Ran.pre {n : Nat} {L L1 : List (List Int)} {P A P1 A1 : List Nat} {es : List (Int × Int)} (h : Ran n L P A es L1 P1 A1) : ∀ i, i < es.length → ∃ L2 P2 A2 L3 P3 A3 c, Ran n L P A (es.take i) L2 P2 A2 ∧ ∃ hi : i < es.length, PutI n L2 P2 A2 es[i] c 0 L3 P3 A3 := by
  induction h with
  | nil => intro i hi; simp at hi
  | @snoc La Lb _ _ Pa Aa Pb Ab es x c h1 h3 ih =>
    intro i hi
    by_cases e : i < es.length
    · obtain ⟨L2, P2, A2, L3, P3, A3, c3, q1, hi2, q2⟩ := ih i e
      refine ⟨L2, P2, A2, L3, P3, A3, c3, by rw [List.take_append_of_le_length (by omega)]; exact q1, hi, ?_⟩
      rw [List.getElem_append_left e]; exact q2
    · have : i = es.length := by simp at hi; omega
      subst this
      refine ⟨La, Pa, Aa, Lb, Pb, Ab, c, by rw [List.take_left' rfl]; exact h1, hi, ?_⟩
      rw [List.getElem_append_right (Nat.le_refl _)]
      simpa using h3
theorem Went.det {n : Nat} {L L1 L2 : List (List Int)} {P A Q B P1 A1 P2 A2 : List Nat} {es : List (Int × Int)} {i k i2 k2 : Nat} (h : Went n L P A es i k L1 P1 A1) (h2 : Went n L Q B es i2 k2 L2 P2 A2) : i = i2 ∧ k = k2 ∧ L1 = L2 := by
  have key : ∀ {P A Q B P1 A1 P2 A2 : List Nat} {L1 L2 : List (List Int)} {i k j : Nat} , k ≠ 0 → (hi : i < es.length) → Ran n L P A (es.take i) L1 P1 A1 → (∃ L2 P2 A2, PutI n L1 P1 A1 es[i] 0 k L2 P2 A2) → i < j → j ≤ es.length → Ran n L Q B (es.take j) L2 P2 A2 → False := by
    intro P A Q B P1 A1 P2 A2 L1 L2 i k j hk hi hr hp hij hj hr2
    obtain ⟨L3, P3, A3, L4, P4, A4, c4, q1, hi2, q2⟩ := hr2.pre i (by rw [List.length_take]; omega)
    rw [List.take_take, Nat.min_eq_left (by omega)] at q1
    rw [List.getElem_take] at q2
    have e := hr.det q1
    subst e
    obtain ⟨L5, P5, A5, hp⟩ := hp
    exact hk (hp.det q2).1
  rcases h with ⟨rfl, rfl, h⟩ | ⟨hk, hi, hr, hp⟩
  · rcases h2 with ⟨rfl, rfl, h2⟩ | ⟨hk2, hi2, hr2, hp2⟩
    · exact ⟨rfl, rfl, h.det h2⟩
    · exact (key hk2 hi2 hr2 hp2 hi2 (Nat.le_refl _) (by rw [List.take_length]; exact h)).elim
  · rcases h2 with ⟨rfl, rfl, h2⟩ | ⟨hk2, hi2, hr2, hp2⟩
    · exact (key hk hi hr hp hi (Nat.le_refl _) (by rw [List.take_length]; exact h2)).elim
    · have e : i = i2 := by
        apply Nat.le_antisymm
        · exact Nat.le_of_not_lt fun hlt => key hk2 hi2 hr2 hp2 hlt (by omega) hr
        · exact Nat.le_of_not_lt fun hlt => key hk hi hr hp hlt (by omega) hr2
      subst e
      have e2 := hr.det hr2
      subst e2
      obtain ⟨L5, P5, A5, hp⟩ := hp
      obtain ⟨L6, P6, A6, hp2⟩ := hp2
      exact ⟨rfl, (hp.det hp2).1, rfl⟩
/-- The error that a bundle has. -/
def FitsC (n : Nat) (L : List (List Int)) (P A : List Nat) (more : Int) (es : List (Int × Int)) (k : Nat) : Prop :=
  if canGrow n more then ∃ i L' P' A', Went (n + more.toNat) (growL L more.toNat) (gro P n more.toNat) (gro A n more.toNat) es i k L' P' A' else k = 2
end Go.Proofs.Ytelplccbcbegkaa.Ord
namespace Go.Proofs.Ytelplccbcbegkaa.OrW
set_option linter.unusedVariables false
open Go Go.RowKit Go.Proofs Go.Proofs.Ytelplccbcbegkaa Go.Proofs.Ytelplccbcbegkaa.Wd Go.Proofs.Ytelplccbcbegkaa.GrW Go.Proofs.Ytelplccbcbegkaa.Ord
open Go.Proofs.Ytelplccbcbegkaa.Gr (OK putL outs intos Path edgesTo ev)

theorem _root_.Go.Proofs.Ytelplccbcbegkaa.GrW.EdgesAt.more' {w : World} {B B' : Nat} {A : Option Addr} {l : List (Int × Int)} (h : EdgesAt w B A l) (hB : B ≤ B') : EdgesAt w B' A l := fun j hj => by
  obtain ⟨b, off, h1, h2, h3⟩ := h j hj
  exact ⟨b, off, h1, by omega, h3⟩
set_option maxRecDepth 100000 in
set_option maxHeartbeats 4000000 in
theorem fits_any' (w : World) (base o n : Nat) (F : Nat → Prop) (L : List (List Int)) (P A : List Nat) (h : OAt w base F o n L P A) (hs : OSt n L P A) (hn : n ≤ 10000) (more : Int) (hok : ∀ m, OK (n + m) (growL L m)) (Ae : Option Addr) (q c : Nat) (es : List (Int × Int)) (hq : q = es.length) (hqm : q ≤ 1000000) (hE : EdgesAt w w.heap.size Ae es) (hAe : ∀ b off, Ae = some ⟨b, off, none⟩ → es ≠ [] → b < w.heap.size) :
    Calls Try.prog 12 #[.pointer (some ⟨o, 0, none⟩), .int .i64 more, .slice Ae q c] w fun e w' => ∃ k : Nat, e = .returned (.int .i64 (k : Nat)) ∧ FitsC n L P A more es k ∧ Below w.heap.size w w' := by
  have HO := Lib.hid h
  have HS := Lib.hid hs
  have HOK := Lib.hid hok
  have HQ := Lib.hid hq
  have HE := Lib.hid hE
  have HAE := Lib.hid hAe
  clear h hs hok hq hE hAe
  go_enter Try.func12, Try.ntmps12
  go_wp2_with fail
  refine Calls.mono (copyO_any w base o n F L P A HO.out HS.out.ok HS.out.perm (by omega)) ?_
  rintro e w1 ⟨o1, rfl, -, b1⟩
  have HB1 := Lib.hid b1
  clear b1
  go_wp2_with fail
  refine Calls.mono (copyO_any w1 base o n F L P A (HO.out.below HB1.out) HS.out.ok HS.out.perm (by omega)) ?_
  rintro e w2 ⟨o2, rfl, hc2, b2⟩
  have HC2 := Lib.hid hc2
  have HB2 := Lib.hid (HB1.out.trans (b2.mono HB1.out.size))
  clear hc2 b2
  go_wp2_with fail
  refine Calls.mono (bgrow_any' w2 w1.heap.size o2 n _ L P A HC2.out HS.out hn more HOK.out Ae q c es HQ.out hqm ((EdgesAt.below HE.out HB2.out).more' HB2.out.size) (fun b off e hne e2 => by have := HAE.out b off e hne; have := HB1.out.size; omega)) ?_
  intro e w3 h3
  unfold BGrowOut at h3
  by_cases hc : canGrow n more = true
  · rw [if_pos hc] at h3
    obtain ⟨i, k, L', P', A', rfl, hw, hu⟩ := h3
    obtain ⟨-, hb3⟩ := hu.low (B := w.heap.size) (fun j e => Nat.le_trans HB1.out.size e) HB2.out.size
    have HF : Hid (FitsC n L P A more es k ∧ Below w.heap.size w w3) := Lib.hid ⟨by unfold FitsC; rw [if_pos hc]; exact ⟨i, L', P', A', hw⟩, HB2.out.trans hb3⟩
    clear hw hu hb3 hc HC2
    go_wp2_with fail
    go_ret
    exact ⟨k, rfl, HF.out⟩
  · rw [if_neg hc] at h3
    obtain ⟨rfl, rfl⟩ := h3
    have HF : Hid (FitsC n L P A more es 2 ∧ Below w.heap.size w w3) := Lib.hid ⟨by unfold FitsC; rw [if_neg hc], HB2.out⟩
    clear hc HC2
    go_wp2_with fail
    go_ret
    exact ⟨2, rfl, HF.out⟩
theorem fits_any (w : World) (base o n : Nat) (F : Nat → Prop) (L : List (List Int)) (P A : List Nat) (h : OAt w base F o n L P A) (hs : OSt n L P A) (hn : n ≤ 10000) (more : Int) (hok : ∀ m, OK (n + m) (growL L m)) (Ae : Option Addr) (q c : Nat) (es : List (Int × Int)) (hq : q = es.length) (hqm : q ≤ 1000000) (hE : EdgesAt w w.heap.size Ae es) (hAe : ∀ b off, Ae = some ⟨b, off, none⟩ → b < w.heap.size) :
    Calls Try.prog 12 #[.pointer (some ⟨o, 0, none⟩), .int .i64 more, .slice Ae q c] w fun e w' => ∃ k : Nat, e = .returned (.int .i64 (k : Nat)) ∧ FitsC n L P A more es k ∧ Below w.heap.size w w' :=
  fits_any' w base o n F L P A h hs hn more hok Ae q c es hq hqm hE (fun b off e _ => hAe b off e)
end Go.Proofs.Ytelplccbcbegkaa.OrW
