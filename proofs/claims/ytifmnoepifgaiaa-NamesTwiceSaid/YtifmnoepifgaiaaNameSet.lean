/-
  A map whose keys are names, and that counts.
-/
import Derived.Test.YtifmnoepifgaiaaNameScope
import Derived.Maps.OwnSet
import Derived.StringKeys
import Derived.Sort.KeysCollected
namespace Go.Proofs.Ytifmnoepifgaiaa.NmW
set_option linter.unusedVariables false
open Go Go.RowKit Go.Maps Go.Sort Go.Proofs Go.Proofs.Ytifmnoepifgaiaa Go.Proofs.Ytifmnoepifgaiaa.Wd Go.Proofs.Ytifmnoepifgaiaa.ScW Go.Proofs.Ytifmnoepifgaiaa.Nm
open Go.Proofs.Ytifmnoepifgaiaa.Sc (N own flow rightAt right chain place chainI deep over below owned)

theorem slaw : Keyed Try.prog 9 := string_keyed Try.underlying9
theorem skeyLit {x : List UInt8} : WideAt.IsKeyLit (.string x) := by simp [WideAt.IsKeyLit]
theorem skey (s : ByteArray) (hs : s.size ≤ maxLen) : keyOf Try.prog 9 (.string s) = some (.string s.data.toList) := WideMaps.keyOf_string_mk Try.underlying9 hs
/-- A map of counts, none above t, with just the keys of S. -/
def SMap (D : DataW Unit) (t : Nat) (S : List UInt8 → Prop) : Prop :=
  Tidy D ∧ (∀ x, has D (.string x) = true ↔ S x) ∧ (∀ x, ∃ c : Nat, c ≤ t ∧ D.atKey (.string x) (.lit (.int .i64 0)) = .lit (.int .i64 (c : Int))) ∧ Maps.size D ≤ t
theorem SMap.nil : SMap (.map []) 0 (fun _ => False) := ⟨tidy_empty, fun x => by simp [has], fun x => ⟨0, Nat.le_refl _, by simp [DataW.atKey]⟩, Nat.le_refl _⟩
theorem SMap.put {D : DataW Unit} {t : Nat} {S : List UInt8 → Prop} (h : SMap D t S) (x : List UInt8) (c : Nat) (hc : c ≤ t + 1) : SMap (D.put (.string x) (.lit (.int .i64 (c : Int)))) (t + 1) (fun y => S y ∨ y = x) := by
  obtain ⟨h1, h2, h3, h4⟩ := h
  refine ⟨h1.put skeyLit _, fun y => ?_, fun y => ?_, ?_⟩
  · by_cases hy : y = x
    · subst hy
      rw [has_put_same h1.isMap skeyLit]; simp
    · rw [has_put_other (by intro e; injection e with e; exact hy e), h2 y]
      simp [hy]
  · by_cases hy : y = x
    · subst hy
      exact ⟨c, hc, by rw [atKey_put_same h1.isMap skeyLit]⟩
    · obtain ⟨d, hd, he⟩ := h3 y
      exact ⟨d, by omega, by rw [atKey_put_other (by intro e; injection e with e; exact hy e), he]⟩
  · rw [size_put h1]
    split <;> omega
theorem SMap.del {D : DataW Unit} {t : Nat} {S : List UInt8 → Prop} (h : SMap D t S) (x : List UInt8) : SMap (D.del (.string x)) t (fun y => S y ∧ y ≠ x) := by
  obtain ⟨h1, h2, h3, h4⟩ := h
  refine ⟨h1.del _, fun y => ?_, fun y => ?_, ?_⟩
  · by_cases hy : y = x
    · subst hy
      rw [has_del_same]; simp
    · rw [has_del_other (by intro e; injection e with e; exact hy e), h2 y]
      simp [hy]
  · by_cases hy : y = x
    · subst hy
      exact ⟨0, Nat.zero_le _, by rw [atKey_del_same]; rfl⟩
    · obtain ⟨d, hd, he⟩ := h3 y
      exact ⟨d, hd, by rw [atKey_del_other (by intro e; injection e with e; exact hy e), he]⟩
  · have := size_del (k := .string x) h1
    split at this <;> omega
theorem SMap.congr {D : DataW Unit} {t : Nat} {S S' : List UInt8 → Prop} (h : SMap D t S) (he : ∀ x, S x ↔ S' x) : SMap D t S' := ⟨h.1, fun x => (h.2.1 x).trans (he x), h.2.2⟩
abbrev OS_ (W : World) (mb n : Nat) (D : DataW Unit) : Prop := W.ownsMap Try.prog 9 (plainElem Try.prog 3) mb n D
/-- The names so far. -/
def SS (W : World) (mb t : Nat) (S : List UInt8 → Prop) : Prop := ∃ D, OS_ W mb t D ∧ SMap D t S
theorem SS.keep {W W' : World} {mb t : Nat} {S : List UInt8 → Prop} (h : SS W mb t S) (hk : W'.heap[mb]? = W.heap[mb]?) : SS W' mb t S := by
  obtain ⟨D, ⟨es, clock, h1, h2⟩, h3⟩ := h
  exact ⟨D, ⟨es, clock, hk.trans h1, h2⟩, h3⟩
theorem SS.lt {W : World} {mb t : Nat} {S : List UInt8 → Prop} (h : SS W mb t S) : mb < W.heap.size := by
  obtain ⟨D, h1, h2⟩ := h
  exact h1.lt
theorem SS.below {W W' : World} {mb t B : Nat} {S : List UInt8 → Prop} (h : SS W mb t S) (hb : Below B W W') (hB : mb < B) : SS W' mb t S := h.keep (hb.block _ hB)
theorem SS.congr {W : World} {mb t : Nat} {S S' : List UInt8 → Prop} (h : SS W mb t S) (he : ∀ x, S x ↔ S' x) : SS W mb t S' := by
  obtain ⟨D, h1, h2⟩ := h
  exact ⟨D, h1, h2.congr he⟩
theorem SS.made (w : World) : SS (w.alloc (.map #[] 0)) w.heap.size 0 (fun _ => False) := ⟨.map [], World.ownsMap_made (H := Unit) w Try.prog 9 (plainElem Try.prog 3), SMap.nil⟩
/-- A count read. -/
theorem SS.look {W : World} {mb t : Nat} {S : List UInt8 → Prop} (h : SS W mb t S) (s : ByteArray) (hs : s.size ≤ maxLen) : ∃ c : Nat, c ≤ t ∧ (Instr.lookup 28 (.map (some mb)) (.string s) false).run Try.prog W = .ok (.int .i64 (c : Int)) W := by
  obtain ⟨D, h1, h2⟩ := h
  obtain ⟨c, hrun, hat, -⟩ := h1.lookup_int slaw Try.underlying28 Try.underlying3 (zeroI W) (skey s hs)
  obtain ⟨d, hd, he⟩ := h2.2.2.1 s.data.toList
  rw [he] at hat
  injection hat with hat
  injection hat with _ hat
  subst hat
  exact ⟨d, hd, hrun⟩
/-- A count put. -/
theorem wpList_update_ss (w : World) {ops : Array Oper} {rest : List Oper} {o : Oper} {a : Act} {Q : Exit → Act → World → Prop}
    (hg : o.guard = none) (m x y : Operand) (hop : o.op = Op.mapUpdate 28 m x y)
    (mb t : Nat) (S : List UInt8 → Prop) (hm : a.eval m = .map (some mb)) (hown : SS w mb t S) (hn : t ≤ 1000000000000) (s : ByteArray) (hx : a.eval x = .string s) (hk : s.size ≤ maxLen) (v : Nat) (hy : a.eval y = .int .i64 (v : Int)) (hv : v ≤ t + 1)
    (hK : ∀ wu, SS wu mb (t + 1) (fun z => S z ∨ z = s.data.toList) → w.grownBy wu (some mb) → wpList Try.prog ops Q rest (a.put o.dst undef) wu) :
    wpList Try.prog ops Q (o :: rest) a w := by
  obtain ⟨D, h1, h2⟩ := hown
  exact wpList_mapUpdate_own w hg m x y _ hop 9 3 slaw Try.underlying28 _ mb t D hm h1 (by unfold maxLen; omega) _ _ _ hx hy (skey s hk) _ [] (plainElem_int Try.underlying3 (WalkArith.wf_i64 (by omega))) fun wu r1 r2 => hK wu ⟨_, r1, h2.put _ v hv⟩ r2
-- A name struck.
set_option maxRecDepth 100000 in
theorem wpList_delete_ss (w : World) {ops : Array Oper} {rest : List Oper} {o : Oper} {a : Act} {Q : Exit → Act → World → Prop}
    (hg : o.guard = none) (m x : Operand) (hop : o.op = Op.call { callee := Callee.builtin Builtin.delete, args := #[m, x], argTypes := #[28, 9] })
    (mb t : Nat) (S : List UInt8 → Prop) (hm : a.eval m = .map (some mb)) (hown : SS w mb t S) (s : ByteArray) (hx : a.eval x = .string s) (hk : s.size ≤ maxLen)
    (hK : ∀ wu, SS wu mb t (fun z => S z ∧ z ≠ s.data.toList) → w.grownBy wu (some mb) → wpList Try.prog ops Q rest (a.put o.dst (.tuple #[])) wu) :
    wpList Try.prog ops Q (o :: rest) a w := by
  obtain ⟨D, h1, h2⟩ := hown
  exact wpList_delete_own w hg m x _ 9 hop 3 slaw Try.underlying28 _ mb t D hm h1 _ _ hx (skey s hk) fun wu r1 r2 => hK wu ⟨_, r1, h2.del _⟩ r2.grown
/-- The keys of such a map. -/
theorem SMap.keys {D : DataW Unit} {t : Nat} {S : List UInt8 → Prop} {W : World} {mb : Nat} (h : SMap D t S) (ho : OS_ W mb t D) (x : List UInt8) : x ∈ strKeys D ↔ S x := by
  obtain ⟨es, rfl, hk⟩ := ho.keysOf
  rw [← h.2.1 x, has_eq, List.any_eq_true]
  show x ∈ es.map (fun p => strOf p.1) ↔ _
  rw [List.mem_map]
  have hks : ∀ p ∈ es, ∃ b, p.1 = .string b := fun p hp => by
    obtain ⟨v, hv⟩ := hk p hp
    obtain ⟨b, -, hb, -⟩ := Maps.keyOf_str Try.underlying9 hv
    exact ⟨b, hb⟩
  constructor
  · rintro ⟨p, hp, rfl⟩
    obtain ⟨b, hb⟩ := hks p hp
    refine ⟨p, hp, ?_⟩
    rw [hb]
    simp [Lit.sameKey, strOf]
  · rintro ⟨p, hp, e⟩
    obtain ⟨b, hb⟩ := hks p hp
    refine ⟨p, hp, ?_⟩
    rw [hb] at e ⊢
    simpa [Lit.sameKey, strOf] using e
theorem SMap.nodup {D : DataW Unit} {t : Nat} {S : List UInt8 → Prop} {W : World} {mb : Nat} (h : SMap D t S) (ho : OS_ W mb t D) : (strKeys D).Nodup := by
  obtain ⟨es, rfl, hk⟩ := ho.keysOf
  obtain ⟨es', e, hp⟩ := h.1
  cases e
  show (es.map fun p => strOf p.1).Nodup
  refine List.pairwise_map.2 (hp.imp_of_mem fun {p q} hp' hq' hne e => hne ?_)
  obtain ⟨v, hv⟩ := hk p hp'
  obtain ⟨b, -, hb, -⟩ := Maps.keyOf_str Try.underlying9 hv
  obtain ⟨v', hv'⟩ := hk q hq'
  obtain ⟨b', -, hb', -⟩ := Maps.keyOf_str Try.underlying9 hv'
  rw [hb, hb'] at e ⊢
  exact congrArg _ e
end Go.Proofs.Ytifmnoepifgaiaa.NmW
