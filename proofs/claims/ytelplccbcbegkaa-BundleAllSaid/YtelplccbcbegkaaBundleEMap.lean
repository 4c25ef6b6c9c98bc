/-
  A map whose keys are edges.
-/
import Derived.Test.YtelplccbcbegkaaBundleOrderWalk
import Derived.DeepKeys5
namespace Go.Proofs.Ytelplccbcbegkaa.OrW
set_option linter.unusedVariables false
open Go Go.RowKit Go.Maps Go.Proofs Go.Proofs.Ytelplccbcbegkaa Go.Proofs.Ytelplccbcbegkaa.Wd Go.Proofs.Ytelplccbcbegkaa.GrW Go.Proofs.Ytelplccbcbegkaa.Ord
open Go.Proofs.Ytelplccbcbegkaa.Gr (OK putL outs intos Path edgesTo ev)

theorem laidE : laidOutB Try.prog = true := by kernel_rfl
theorem elaw : Keyed Try.prog 34 := Keyed.of_law (deep_law_gate laidE (of_decide_eq_true (by kernel_rfl)) (of_decide_eq_true (by kernel_rfl)) (by kernel_rfl) (by kernel_rfl))
theorem keyLits_int (d : Nat) (a : Int) (ha : (Lit.int .i64 a).wf = true) : Try.prog.keyLits (d + 1) 3 [.int .i64 a] = some [.int .i64 a] := by
  unfold Program.keyLits
  rw [Try.underlying3]
  simp [ha]
theorem keyLits_edge (d : Nat) (a b : Int) (ha : (Lit.int .i64 a).wf = true) (hb : (Lit.int .i64 b).wf = true) : ∃ l, Try.prog.keyLits (d + 2) 34 [.int .i64 a, .int .i64 b] = some l := by
  have hC : Try.prog.cellsOf 34 = 2 := by kernel_rfl
  have hI : Try.prog.cellsOf 3 = 1 := by kernel_rfl
  unfold Program.keyLits
  rw [Try.underlying34]
  have h1 := keyLits_int d a ha
  have h2 := keyLits_int d b hb
  simp [hC, hI, h1, h2]
theorem ekey (a b : Int) (ha : (Lit.int .i64 a).wf = true) (hb : (Lit.int .i64 b).wf = true) : ∃ l, keyOf Try.prog 34 (.agg #[.int .i64 a, .int .i64 b]) = some l := by
  have hC : Try.prog.cellsOf 34 = 2 := by kernel_rfl
  have hk : Try.prog.keyType 34 = true := by kernel_rfl
  obtain ⟨m, hm⟩ : ∃ m, Try.prog.types.size = m + 1 := ⟨Try.prog.types.size - 1, by have : 0 < Try.prog.types.size := of_decide_eq_true (by kernel_rfl); omega⟩
  obtain ⟨l, hl⟩ := keyLits_edge m a b ha hb
  refine ⟨.string (keyBytes l), ?_⟩
  unfold keyOf Value.formed
  rw [Try.underlying34, hm]
  simp [hk, hC, Value.cells, hl]
abbrev eagg (x : Int × Int) : Value := .agg #[.int .i64 x.1, .int .i64 x.2]
set_option maxRecDepth 100000 in
theorem ekey_inj {x y : Int × Int} {l : Lit} (hx : keyOf Try.prog 34 (eagg x) = some l) (hy : keyOf Try.prog 34 (eagg y) = some l) : x = y := by
  have h := elaw.inj hx hy
  injection h with h
  have h1 : (#[Value.int .i64 x.1, Value.int .i64 x.2] : Array Value)[0]? = (#[Value.int .i64 y.1, Value.int .i64 y.2] : Array Value)[0]? := congrArg (fun a : Array Value => a[0]?) h
  have h2 : (#[Value.int .i64 x.1, Value.int .i64 x.2] : Array Value)[1]? = (#[Value.int .i64 y.1, Value.int .i64 y.2] : Array Value)[1]? := congrArg (fun a : Array Value => a[1]?) h
  simp at h1 h2
  exact Prod.ext h1 h2
/-- A map that holds one at each edge of the list, and at no other. -/
def EMap (D : DataW Unit) (ds : List (Int × Int)) : Prop :=
  Tidy D ∧ (∀ (x : Int × Int) (l : Lit), keyOf Try.prog 34 (eagg x) = some l → D.atKey l (.lit (.int .i64 0)) = .lit (.int .i64 (if x ∈ ds then 1 else 0)) ∧ has D l = decide (x ∈ ds)) ∧ Maps.size D = ds.length
theorem EMap.nil : EMap (.map []) [] := ⟨tidy_empty, fun x l _ => ⟨by simp [DataW.atKey], by simp [has]⟩, rfl⟩
set_option maxRecDepth 100000 in
theorem EMap.put {D : DataW Unit} {ds : List (Int × Int)} (h : EMap D ds) {x : Int × Int} {l : Lit} (hl : keyOf Try.prog 34 (eagg x) = some l) : ∃ ds', EMap (D.put l (.lit (.int .i64 1))) ds' ∧ (∀ y, y ∈ ds' ↔ y ∈ ds ∨ y = x) ∧ (ds.Nodup → ds'.Nodup) := by
  obtain ⟨h1, h2, h3⟩ := h
  have hk := elaw.key hl
  have hg : ∀ ds' : List (Int × Int), (∀ y, y ∈ ds' ↔ y ∈ ds ∨ y = x) → (Maps.size (D.put l (.lit (.int .i64 1))) = ds'.length) → EMap (D.put l (.lit (.int .i64 1))) ds' := fun ds' hm hs => by
    refine ⟨h1.put hk _, fun y l' hl' => ?_, hs⟩
    by_cases hy : y = x
    · subst hy
      have e : l' = l := by rw [hl] at hl'; exact (Option.some.inj hl').symm
      subst e
      refine ⟨?_, ?_⟩
      · rw [atKey_put_same h1.isMap hk, if_pos ((hm y).2 (.inr rfl))]
      · rw [has_put_same h1.isMap hk, decide_eq_true ((hm y).2 (.inr rfl))]
    · have e : l' ≠ l := fun e => hy (ekey_inj (e ▸ hl') hl)
      have hmy : y ∈ ds' ↔ y ∈ ds := by rw [hm]; exact ⟨fun h => h.resolve_right hy, .inl⟩
      refine ⟨?_, ?_⟩
      · rw [atKey_put_other e, (h2 y l' hl').1]
        simp only [hmy]
      · rw [has_put_other e, (h2 y l' hl').2]
        simp only [hmy]
  have hsz := size_put (k := l) h1 (.lit (.int .i64 1))
  rw [(h2 x l hl).2] at hsz
  by_cases hx : x ∈ ds
  · refine ⟨ds, hg ds (fun y => ⟨.inl, fun h => h.elim id fun e => e ▸ hx⟩) ?_, fun y => ⟨.inl, fun h => h.elim id fun e => e ▸ hx⟩, id⟩
    rw [hsz, if_pos (decide_eq_true hx), h3]
  · refine ⟨ds ++ [x], hg _ (fun y => by simp) ?_, fun y => by simp, fun hn => ?_⟩
    · rw [hsz, if_neg (by simp [hx]), h3, List.length_append]; rfl
    · rw [List.nodup_append]
      exact ⟨hn, by simp, fun a ha b hb e => by
        have : b = x := by simpa using hb
        subst this
        exact hx (e ▸ ha)⟩
set_option maxRecDepth 100000 in
theorem EMap.at_ {D : DataW Unit} {ds : List (Int × Int)} (h : EMap D ds) {x : Int × Int} {l : Lit} (hl : keyOf Try.prog 34 (eagg x) = some l) {c : Int} (hat : D.atKey l (.lit (.int .i64 0)) = .lit (.int .i64 c)) : c = if x ∈ ds then 1 else 0 := by
  rw [(h.2.1 x l hl).1] at hat
  injection hat with hat
  injection hat with _ hat
  exact hat.symm
abbrev OE (W : World) (mb n : Nat) (D : DataW Unit) : Prop := W.ownsMap Try.prog 34 (plainElem Try.prog 3) mb n D
theorem oe_keep {W W' : World} {mb n : Nat} {D : DataW Unit} (h : OE W mb n D) (hk : W'.heap[mb]? = W.heap[mb]?) : OE W' mb n D := by
  obtain ⟨es, clock, h1, h2⟩ := h
  exact ⟨es, clock, hk.trans h1, h2⟩
/-- The map of edges, so far. -/
def EState (W : World) (mb i : Nat) (E : List (Int × Int)) : Prop := ∃ D ds, OE W mb i D ∧ EMap D ds ∧ ds.Nodup ∧ ∀ x, x ∈ ds ↔ x ∈ E
theorem EState.keep {W W' : World} {mb i : Nat} {E : List (Int × Int)} (h : EState W mb i E) (hk : W'.heap[mb]? = W.heap[mb]?) : EState W' mb i E := by
  obtain ⟨D, ds, h1, h2⟩ := h
  exact ⟨D, ds, oe_keep h1 hk, h2⟩
theorem EState.look {W : World} {mb i : Nat} {E : List (Int × Int)} (h : EState W mb i E) {x : Int × Int} (hx : x ∈ E) (h1 : (Lit.int .i64 x.1).wf = true) (h2 : (Lit.int .i64 x.2).wf = true) : (Instr.lookup 45 (.map (some mb)) (.agg #[.int .i64 x.1, .int .i64 x.2]) false).run Try.prog W = .ok (.int .i64 1) W := by
  obtain ⟨D, ds, ho, hm, hn, he⟩ := h
  obtain ⟨l, hl⟩ := ekey x.1 x.2 h1 h2
  obtain ⟨c, hrun, hat, -⟩ := ho.lookup_int elaw Try.underlying45 Try.underlying3 (zeroI W) hl
  have hc := hm.at_ (x := x) hl hat
  rw [if_pos ((he x).2 hx)] at hc
  rw [hc] at hrun
  exact hrun
theorem nodup_same {a b : List (Int × Int)} (ha : a.Nodup) (hb : b.Nodup) (h : ∀ x, x ∈ a ↔ x ∈ b) : a.length = b.length :=
  Nat.le_antisymm (List.Nodup.length_le_of_subset ha fun x hx => (h x).1 hx) (List.Nodup.length_le_of_subset hb fun x hx => (h x).2 hx)
theorem edgesTo_nodup {n : Nat} {L : List (List Int)} (ok : OK n L) (k : Nat) : (edgesTo L k).Nodup := (Gr.edgesTo_up ok k).imp fun h e => by
  subst e
  rw [Gr.gtE_self] at h
  cases h
end Go.Proofs.Ytelplccbcbegkaa.OrW
