/-
  A map whose keys are scopes with a name.
-/
import Derived.Test.YtifmnoepifgaiaaNamePl
import Derived.DeepKeys5
namespace Go.Proofs.Ytifmnoepifgaiaa.NmW
set_option linter.unusedVariables false
open Go Go.RowKit Go.Maps Go.Proofs Go.Proofs.Ytifmnoepifgaiaa Go.Proofs.Ytifmnoepifgaiaa.Wd Go.Proofs.Ytifmnoepifgaiaa.ScW Go.Proofs.Ytifmnoepifgaiaa.Nm
open Go.Proofs.Ytifmnoepifgaiaa.Sc (N own flow rightAt right chain place chainI deep over below owned)

theorem zeroI (w : World) : (zeroValue 3).run Try.prog w = .ok (.int .i64 0) w := by kernel_rfl
theorem laidK : laidOutB Try.prog = true := by kernel_rfl
theorem klaw : Keyed Try.prog 56 := Keyed.of_law (deep_law_gate laidK (of_decide_eq_true (by kernel_rfl)) (of_decide_eq_true (by kernel_rfl)) (by kernel_rfl) (by kernel_rfl))
theorem keyLits_int (d : Nat) (a : Int) (ha : (Lit.int .i64 a).wf = true) : Try.prog.keyLits (d + 1) 3 [.int .i64 a] = some [.int .i64 a] := by
  unfold Program.keyLits
  rw [Try.underlying3]
  simp [ha]
theorem keyLits_str (d : Nat) (s : ByteArray) (hs : s.size ≤ maxLen) : Try.prog.keyLits (d + 1) 9 [.string s] = some [.string s.data.toList] := by
  unfold Program.keyLits
  rw [Try.underlying9]
  simp [hs]
theorem keyLits_key (d : Nat) (a b : Int) (s : ByteArray) (ha : (Lit.int .i64 a).wf = true) (hb : (Lit.int .i64 b).wf = true) (hs : s.size ≤ maxLen) : ∃ l, Try.prog.keyLits (d + 2) 56 [.int .i64 a, .int .i64 b, .string s] = some l := by
  have hC : Try.prog.cellsOf 56 = 3 := by kernel_rfl
  have hI : Try.prog.cellsOf 3 = 1 := by kernel_rfl
  have hJ : Try.prog.cellsOf 9 = 1 := by kernel_rfl
  unfold Program.keyLits
  rw [Try.underlying56]
  have h1 := keyLits_int d a ha
  have h2 := keyLits_int d b hb
  have h3 := keyLits_str d s hs
  simp [hC, hI, hJ, h1, h2, h3]
/-- Numbers that a number of 64 bits can be, and a name that is not too long. -/
def KOk (x : Key) : Prop := (Lit.int .i64 x.1).wf = true ∧ (Lit.int .i64 x.2.1).wf = true ∧ x.2.2.size ≤ maxLen
abbrev kagg (x : Key) : Value := .agg #[.int .i64 x.1, .int .i64 x.2.1, .string x.2.2]
theorem kkey (x : Key) (hx : KOk x) : ∃ l, keyOf Try.prog 56 (kagg x) = some l := by
  have hC : Try.prog.cellsOf 56 = 3 := by kernel_rfl
  have hk : Try.prog.keyType 56 = true := by kernel_rfl
  obtain ⟨m, hm⟩ : ∃ m, Try.prog.types.size = m + 1 := ⟨Try.prog.types.size - 1, by have : 0 < Try.prog.types.size := of_decide_eq_true (by kernel_rfl); omega⟩
  obtain ⟨l, hl⟩ := keyLits_key m x.1 x.2.1 x.2.2 hx.1 hx.2.1 hx.2.2
  refine ⟨.string (keyBytes l), ?_⟩
  unfold keyOf Value.formed
  rw [Try.underlying56, hm]
  simp [hk, hC, Value.cells, hl]
set_option maxRecDepth 100000 in
theorem kkey_inj {x y : Key} {l : Lit} (hx : keyOf Try.prog 56 (kagg x) = some l) (hy : keyOf Try.prog 56 (kagg y) = some l) : x = y := by
  have h := klaw.inj hx hy
  injection h with h
  have h1 : (#[Value.int .i64 x.1, Value.int .i64 x.2.1, Value.string x.2.2] : Array Value)[0]? = (#[Value.int .i64 y.1, Value.int .i64 y.2.1, Value.string y.2.2] : Array Value)[0]? := congrArg (fun a : Array Value => a[0]?) h
  have h2 : (#[Value.int .i64 x.1, Value.int .i64 x.2.1, Value.string x.2.2] : Array Value)[1]? = (#[Value.int .i64 y.1, Value.int .i64 y.2.1, Value.string y.2.2] : Array Value)[1]? := congrArg (fun a : Array Value => a[1]?) h
  have h3 : (#[Value.int .i64 x.1, Value.int .i64 x.2.1, Value.string x.2.2] : Array Value)[2]? = (#[Value.int .i64 y.1, Value.int .i64 y.2.1, Value.string y.2.2] : Array Value)[2]? := congrArg (fun a : Array Value => a[2]?) h
  simp at h1 h2 h3
  exact Prod.ext h1 (Prod.ext h2 h3)
/-- A map that tells a place of some keys. -/
def KMap (D : DataW Unit) (g : Key → Option Nat) : Prop :=
  Tidy D ∧ ∀ (x : Key) (l : Lit), keyOf Try.prog 56 (kagg x) = some l → ∀ zd, D.atKey l zd = match g x with | some v => .lit (.int .i64 (v : Int)) | none => zd
theorem KMap.nil : KMap (.map []) (fun _ => none) := ⟨tidy_empty, fun x l _ zd => by simp [DataW.atKey]⟩
theorem KMap.put {D : DataW Unit} {g : Key → Option Nat} (h : KMap D g) {x : Key} {l : Lit} (hl : keyOf Try.prog 56 (kagg x) = some l) (v : Nat) : KMap (D.put l (.lit (.int .i64 (v : Int)))) (fun y => if y = x then some v else g y) := by
  obtain ⟨h1, h2⟩ := h
  have hk := klaw.key hl
  refine ⟨h1.put hk _, fun y l' hl' zd => ?_⟩
  by_cases hy : y = x
  · subst hy
    have e : l' = l := by rw [hl] at hl'; exact (Option.some.inj hl').symm
    subst e
    rw [atKey_put_same h1.isMap hk]
    simp
  · have e : l' ≠ l := fun e => hy (kkey_inj (e ▸ hl') hl)
    rw [atKey_put_other e, h2 y l' hl' zd]
    simp only [if_neg hy]
abbrev OK_ (W : World) (mb n : Nat) (D : DataW Unit) : Prop := W.ownsMap Try.prog 56 (plainElem Try.prog 3) mb n D
theorem ok_keep {W W' : World} {mb n : Nat} {D : DataW Unit} (h : OK_ W mb n D) (hk : W'.heap[mb]? = W.heap[mb]?) : OK_ W' mb n D := by
  obtain ⟨es, clock, h1, h2⟩ := h
  exact ⟨es, clock, hk.trans h1, h2⟩
/-- The table: a map that tells what 'g' tells. -/
def KS (W : World) (mb n : Nat) (g : Key → Option Nat) : Prop := ∃ D, OK_ W mb n D ∧ KMap D g
theorem KS.keep {W W' : World} {mb n : Nat} {g : Key → Option Nat} (h : KS W mb n g) (hk : W'.heap[mb]? = W.heap[mb]?) : KS W' mb n g := by
  obtain ⟨D, h1, h2⟩ := h
  exact ⟨D, ok_keep h1 hk, h2⟩
theorem KS.lt {W : World} {mb n : Nat} {g : Key → Option Nat} (h : KS W mb n g) : mb < W.heap.size := by
  obtain ⟨D, h1, h2⟩ := h
  exact h1.lt
theorem KS.below {W W' : World} {mb n B : Nat} {g : Key → Option Nat} (h : KS W mb n g) (hb : Below B W W') (hB : mb < B) : KS W' mb n g := h.keep (hb.block _ hB)
theorem KS.congr {W : World} {mb n : Nat} {g g' : Key → Option Nat} (h : KS W mb n g) (he : ∀ x, g x = g' x) : KS W mb n g' := by
  rw [← funext he]; exact h
def toV (o : Option Nat) : Value := .tuple #[.int .i64 ((o.getD 0 : Nat) : Int), .bool o.isSome]
/-- Look, with whether it is there. -/
theorem KS.look {W : World} {mb n : Nat} {g : Key → Option Nat} (h : KS W mb n g) (x : Key) (hx : KOk x) : (Instr.lookup 52 (.map (some mb)) (.agg #[.int .i64 x.1, .int .i64 x.2.1, .string x.2.2]) true).run Try.prog W = .ok (.tuple #[.int .i64 (((g x).getD 0 : Nat) : Int), .bool (g x).isSome]) W := by
  obtain ⟨D, ⟨es, clock, hb, F, hs, hD⟩, hm⟩ := h
  obtain ⟨l, hl⟩ := kkey x hx
  have hz : (zeroValue 3).run Try.prog W = .ok (.int .i64 0) W := zeroI W
  have hat := hm.2 x l hl
  subst hD
  rcases Maps.fit_look true klaw Try.underlying52 hz hb F hl with ⟨hrun, _, ha⟩ | ⟨e0, y, _, _, hrun, hR, ha, _⟩
  · have e : g x = none := by
      cases hg : g x with
      | none => rfl
      | some v =>
        exfalso
        have h1 := hat (.lit (.bool true))
        rw [ha, hg] at h1
        simp at h1
    rw [e]
    exact hrun
  · obtain ⟨c, e1, e2, _⟩ := plainElem_int_inv Try.underlying3 hR
    have e : ∃ v, g x = some v ∧ c = (v : Int) := by
      cases hg : g x with
      | none =>
        exfalso
        have h1 := hat (.lit (.bool true))
        have h2 := ha (.lit (.bool true))
        rw [hg] at h1
        rw [h1, e2] at h2
        simp at h2
      | some v =>
        refine ⟨v, rfl, ?_⟩
        have h1 := hat (.lit (.bool true))
        rw [ha, hg, e2] at h1
        simp at h1
        exact h1
    obtain ⟨v, hg, rfl⟩ := e
    rw [hg]
    rw [e1] at hrun
    exact hrun
end Go.Proofs.Ytifmnoepifgaiaa.NmW
