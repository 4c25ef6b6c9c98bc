/-
  Words for memory: maps from numbers to numbers that hold a one at each number of a list; append of one own row onto another, of whatever size the elements are.
-/
import Derived.Test.YtclbpohhmaojcaaWordsMore
import Derived.Maps.OwnSet
import Derived.Maps.OwnOps
namespace Go.Proofs.Ytclbpohhmaojcaa.Wd
set_option linter.unusedVariables false
open Go Go.RowKit Go.Maps

theorem ikey {z : Int} : WideAt.IsKeyLit (.int .i64 z) := by simp [WideAt.IsKeyLit]
/-- A map that holds one at each number of the list, and no other number. -/
def InMap (D : DataW Unit) (l : List Int) : Prop :=
  Tidy D ∧ (∀ z : Int, D.atKey (.int .i64 z) (.lit (.int .i64 0)) = .lit (.int .i64 (if z ∈ l then 1 else 0))) ∧ (∀ z : Int, has D (.int .i64 z) = decide (z ∈ l)) ∧ Maps.size D = l.length
theorem InMap.nil : InMap (.map []) [] := ⟨tidy_empty, fun z => by simp [DataW.atKey], fun z => by simp [has], rfl⟩
theorem InMap.put {D : DataW Unit} {l : List Int} (h : InMap D l) {x : Int} (hx : x ∉ l) : InMap (D.put (.int .i64 x) (.lit (.int .i64 1))) (l ++ [x]) := by
  obtain ⟨h1, h2, h3, h4⟩ := h
  refine ⟨h1.put ikey _, fun z => ?_, fun z => ?_, ?_⟩
  · by_cases hz : z = x
    · subst hz
      rw [atKey_put_same h1.isMap ikey, if_pos (by simp)]
    · rw [atKey_put_other (by intro e; injection e with _ e; exact hz e), h2 z]
      simp [hz]
  · by_cases hz : z = x
    · subst hz
      rw [has_put_same h1.isMap ikey]; simp
    · rw [has_put_other (by intro e; injection e with _ e; exact hz e), h3 z]
      simp [hz]
  · rw [size_put h1, h3 x, decide_eq_false hx, h4]; simp
theorem InMap.at_ {D : DataW Unit} {l : List Int} (h : InMap D l) {z c : Int} (hat : D.atKey (.int .i64 z) (.lit (.int .i64 0)) = .lit (.int .i64 c)) : c = if z ∈ l then 1 else 0 := by
  rw [h.2.1 z] at hat
  injection hat with hat
  injection hat with _ hat
  exact hat.symm
theorem ownsMap_below {H : Type} {P : Program} {k : TypeId} {R : Value → Option (DataW H × List MemPlace)} {w w' : World} {b n B : Nat} {D : DataW H} (h : w.ownsMap P k R b n D) (hb : Below B w w') (hlt : b < B) : w'.ownsMap P k R b n D := by
  obtain ⟨es, clock, h1, h2⟩ := h
  exact ⟨es, clock, (hb.block b hlt).trans h1, h2⟩

section
variable {P : Program} (w : World)
theorem run_append_own2 (base base' : Nat) (t ty e : TypeId) (i : TypeInfo) (z : Value) (size bytes : Nat) (ht : P.underlying t = some (.slice e)) (hi : P.info? e = some i) (hz : i.zero = some z)
    (hsize : i.size = size) (hby : i.bytes = bytes) (hzs : z.cells.size = size) (hsz : 0 < size)
    (v : Value) (n : Nat) (xs : List Value) (hown : w.ownsRow base e size v n xs)
    (A : Option Addr) (m c : Nat) (news : List Value) (hsrc : w.ownsRow base' e size (.slice A m c) m news) (h1 : ∀ u ∈ news, u.oneCell' = true)
    (h63 : n + m ≤ maxLen) (hbytes : (n + m) * bytes ≤ 140737488355328) (hbase : base ≤ w.heap.size) :
    ∃ v' w', (Builtin.append_ #[t, t] ty #[v, .slice A m c]).run P w = .ok v' w' ∧ w'.ownsRow base e size v' (n + m) (xs ++ news) ∧ w.grownBy w' v.ownBlock ∧ (v'.ownBlock = v.ownBlock ∨ v'.ownBlock = some w.heap.size) := by
  have hl := hsrc.1
  rcases hsrc.2 with ⟨hv, h0⟩ | ⟨g, cap, cur, hv, _, hh, hmc, hcm, hcs, htk⟩
  · cases hv
    have hn : news = [] := List.eq_nil_of_length_eq_zero (by simpa using hl)
    subst hn
    exact ⟨v, w, run_append_nothing w base t ty e i size ht hi v n xs hown 0, by simpa using hown, World.grownBy.refl w _, .inl rfl⟩
  · cases hv
    have hblk : Blk w g e cur := hh
    have hcells : ∀ j u, news[j]? = some u → w.cell? ((⟨g, 0, none⟩ : Addr).add j) = some u := by
      intro j u hu
      have hj := (List.getElem?_eq_some_iff.1 hu).1
      rw [Addr.add_lit, Nat.zero_add, hblk.cell]
      have h2 : (cur.toList.take (m * size))[j]? = some u := by rw [htk]; exact hu
      rw [List.getElem?_take_of_lt (by omega)] at h2
      simpa using h2
    obtain ⟨v', w', hr, h2, h3, _, h5⟩ := run_append_own_at (P := P) w base t ty e i z size bytes ht hi hz hsize hby hzs hsz v n xs hown ⟨g, 0, none⟩ m c news hl hcells h1 h63 hbytes hbase
    exact ⟨v', w', hr, h2, h3, h5⟩
theorem wp_append_own2 {o : Oper} {a : Act} {K : Act → World → Prop} {Q : Exit → Act → World → Prop} (s x : Operand) (t : TypeId)
    (ho : o.op = .call { callee := .builtin .append, args := #[s, x], argTypes := #[t, t] })
    (base base' : Nat) (e : TypeId) (i : TypeInfo) (z : Value) (size bytes : Nat) (ht : P.underlying t = some (.slice e)) (hi : P.info? e = some i) (hz : i.zero = some z)
    (hsize : i.size = size) (hby : i.bytes = bytes) (hzs : z.cells.size = size) (hsz : 0 < size)
    (v : Value) (n : Nat) (xs : List Value) (hs : a.eval s = v) (hown : w.ownsRow base e size v n xs)
    (A : Option Addr) (m c : Nat) (news : List Value) (hx : a.eval x = .slice A m c) (hsrc : w.ownsRow base' e size (.slice A m c) m news) (h1 : ∀ u ∈ news, u.oneCell' = true)
    (h63 : n + m ≤ maxLen) (hbytes : (n + m) * bytes ≤ 140737488355328) (hbase : base ≤ w.heap.size)
    (h : ∀ v' w', w'.ownsRow base e size v' (n + m) (xs ++ news) → w.grownBy w' v.ownBlock → (v'.ownBlock = v.ownBlock ∨ v'.ownBlock = some w.heap.size) → K (a.put o.dst v') w') : o.wp P a w K Q := by
  obtain ⟨v', w', hr, h2, h3, h5⟩ := run_append_own2 (P := P) w base base' t o.type e i z size bytes ht hi hz hsize hby hzs hsz v n xs hown A m c news hsrc h1 h63 hbytes hbase
  unfold Oper.wp execOp
  simp only [ho, resolve, invoke, builtin, Sem.run_bind, Sem.run_pure, Result.andThen_ok, List.map_toArray, List.map_cons, List.map_nil, hs, hx, hr]
  exact h v' w' h2 h3 h5
end
/-- A block that is known whole, of elements of more than one cell, owns its elements. -/
theorem Blk.ownS {w : World} {g base : Nat} {e : TypeId} {cs : Array Value} (h : Blk w g e cs) (hb : base ≤ g) (size n : Nat) (hn : cs.size = n * size) (hm : n ≤ maxLen) :
    w.ownsRow base e size (.slice (some ⟨g, 0, none⟩) n n) n cs.toList :=
  ⟨by simp [hn], .inr ⟨g, n, cs, rfl, hb, h, Nat.le_refl _, hm, hn, by rw [← hn]; exact List.take_length⟩⟩
end Go.Proofs.Ytclbpohhmaojcaa.Wd
