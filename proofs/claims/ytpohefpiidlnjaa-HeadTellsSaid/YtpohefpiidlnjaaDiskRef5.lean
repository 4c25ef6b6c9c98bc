/-
  The walks of the document's disk: Truncate.
-/
import Derived.Test.YtpohefpiidlnjaaDiskRef4
namespace Go.Proofs.Ytpohefpiidlnjaa.Dr
set_option linter.unusedVariables false
open Go Go.RowKit Go.Proofs Go.Proofs.Ytpohefpiidlnjaa Go.Proofs.Ytpohefpiidlnjaa.Wd
open Go.Proofs.Ytpohefpiidlnjaa.Dk (DS upd upd_eq upd_ne Fresh rd hd free own_empty Ok among_yes syncD syD putS wrD truncD trD after died fused)
theorem RV.truncs0 {w : World} {F : Nat → Prop} {s : DS} {v : Nat → Sl} {cl k : Int} (h : RV w F s v cl k) {n : Nat} {x y : Sl} (hx : Ref w F x (((s.all 0).take n).take (min (s.safe 0) n))) (hy : Ref w F y (((s.all 0).take n).drop (min (s.safe 0) n))) : RV w F (truncD 0 n s) (upd (upd v 1 x) 2 y) cl k :=
  ⟨hx, hy, h.a1, h.b1, h.c0, h.d0, h.c1, h.d1, h.fu⟩
theorem RV.truncs1 {w : World} {F : Nat → Prop} {s : DS} {v : Nat → Sl} {cl k : Int} (h : RV w F s v cl k) {n : Nat} {x y : Sl} (hx : Ref w F x (((s.all 1).take n).take (min (s.safe 1) n))) (hy : Ref w F y (((s.all 1).take n).drop (min (s.safe 1) n))) : RV w F (truncD 1 n s) (upd (upd v 3 x) 4 y) cl k :=
  ⟨h.a0, h.b0, hx, hy, h.c0, h.d0, h.c1, h.d1, h.fu⟩
/-- An own row of bytes: its block, or none. -/
theorem own_block {w : World} {base n c : Nat} {A : Option Addr} {l : List UInt8} (h : w.ownsRow base 5 1 (.slice A n c) n (bs l)) : n = l.length ∧ n ≤ c ∧ c ≤ maxLen ∧ ((A = none ∧ l = [] ∧ n = 0 ∧ c = 0) ∨ ∃ g, A = some ⟨g, 0, none⟩ ∧ base ≤ g ∧ Bytes w w.heap.size (some ⟨g, 0, none⟩) l) := by
  obtain ⟨A', c', e, h1, h2, h3⟩ := own_bytes h
  cases e
  refine ⟨h2, h1, own_cap' h, ?_⟩
  rcases h.2 with ⟨h4, h0⟩ | ⟨g, cap, cur, h4, hg, -⟩
  · cases h4
    exact .inl ⟨rfl, List.eq_nil_of_length_eq_zero (by omega), rfl, rfl⟩
  · cases h4
    exact .inr ⟨g, rfl, hg, h3⟩
theorem wpList_wantedR {P : Program} {ops : Array Oper} {rest : List Oper} {o : Oper} {a : Act} {w : World} {Q : Exit → Act → World → Prop} (hw : Region.wanted o (yielded ops a.tmps) = true)
    (h : ∀ K : Act → World → Prop, (∀ a' w', wpList P ops Q rest a' w' → K a' w') → o.wp P a w K Q) : wpList P ops Q (o :: rest) a w := by
  unfold wpList
  rw [if_pos hw]
  exact .inl (h _ fun _ _ hh => hh)
theorem wpList_load_row_g {P : Program} {ops : Array Oper} {rest : List Oper} {o : Oper} {a : Act} {w : World} {Q : Exit → Act → World → Prop} (hw : Region.wanted o (yielded ops a.tmps) = true) (ty : TypeId) (x : Operand) (ho : o.op = .load ty x)
    (g : Nat) (hx : a.eval x = .pointer (some ⟨g, 0, none⟩)) (t : TypeId) (cs : Array Value) (fr : Nat × Nat) (d : TypeDesc) (hg : w.heap[g]? = some (.cells cs t fr))
    (hu : P.underlying ty = some d) (hd : (match d with | .struct _ | .array _ _ => true | _ => false) = true) (hi : (P.info? ty).map (·.size) = some cs.size)
    (h : wpList P ops Q rest (a.put o.dst (.agg cs)) w) : wpList P ops Q (o :: rest) a w :=
  wpList_wantedR hw fun _ hK => wp_load_row ty x ho g hx t cs fr d hg hu hd hi (hK _ _ h)
section
variable {w : World} {F : Nat → Prop} {s : DS} {v : Nat → Sl} {cl k : Int}
end
end Go.Proofs.Ytpohefpiidlnjaa.Dr
