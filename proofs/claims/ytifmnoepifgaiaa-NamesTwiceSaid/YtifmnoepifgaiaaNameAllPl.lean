/-
  NamesAll, in plain text: who is seen by a name just if it is among all names; an owner sees no more.
-/
import Derived.Test.YtifmnoepifgaiaaNameNamed
import Derived.Shelf.SlSorted.Search
namespace Go.Proofs.Ytifmnoepifgaiaa.NmW
set_option linter.unusedVariables false
open Go Go.RowKit Go.Maps Go.Sort Go.Shelf Go.Proofs Go.Proofs.Ytifmnoepifgaiaa Go.Proofs.Ytifmnoepifgaiaa.Wd Go.Proofs.Ytifmnoepifgaiaa.ScW Go.Proofs.Ytifmnoepifgaiaa.Nm Go.Proofs.Ytifmnoepifgaiaa.NmL
open Go.Proofs.Ytifmnoepifgaiaa.Sc (N own flow rightAt right chain place chainI deep over below owned)

theorem mem_owned {ns : List N} {f o : Int} {k : Nat} : k ∈ owned ns f o ↔ k < ns.length ∧ flow ns k = f ∧ own ns k = o := by
  unfold owned
  simp [List.mem_filter]
theorem str_eq {s : Str} {x : List UInt8} : s.data.toList = x ↔ s = ⟨x.toArray⟩ := by
  obtain ⟨⟨l⟩⟩ := s
  constructor
  · intro h
    simp at h
    rw [h]
  · intro h
    injection h with h
    injection h
/-- By a name that is one somebody is seen just if it is among all names. -/
theorem seen_names {ns : List N} {ss : List Str} {i : Int} {x : List UInt8} (hx : x ≠ []) : (seenN ns ss i ⟨x.toArray⟩).isSome = true ↔ namesN ns ss i x := by
  by_cases hp : place ns i = true
  · rw [seen_eq hp]
    unfold seenL namesN namesL
    rw [List.findSome?_isSome_iff]
    constructor
    · rintro ⟨o, ho, h⟩
      obtain ⟨k, h1, h2, h3⟩ := lookN_isSome.1 h
      unfold key at h3
      injection h3 with h3 h4
      injection h4 with h4 h5
      exact ⟨hp, hx, o, ho, k, mem_owned.2 ⟨h1, h3, h4⟩, str_eq.2 h5⟩
    · rintro ⟨-, -, o, ho, k, hk, h⟩
      obtain ⟨h1, h2, h3⟩ := mem_owned.1 hk
      have h4 := str_eq.1 h
      refine ⟨o, ho, lookN_isSome.2 ⟨k, h1, ?_, by unfold key; rw [h2, h3, h4]⟩⟩
      rw [h4]
      intro e
      unfold none_ at e
      injection e with e
      injection e with e
      exact hx e
  · have hp : place ns i = false := by simpa using hp
    unfold seenN namesN
    rw [hp]
    simp
theorem ownersI_own {ns : List N} (hr : right ns = true) {i : Nat} (hi : i < ns.length) (h : 0 ≤ own ns i) : ownersI ns (i : Int) = own ns i :: ownersI ns (own ns i) ∧ place ns (own ns i) = true ∧ flow ns (own ns i).toNat = flow ns i := by
  obtain ⟨h1, h2, h3⟩ := Sc.right_at hr hi
  have hpl : place ns (own ns i) = true := by unfold place; simp; omega
  refine ⟨?_, hpl, h3 h⟩
  unfold ownersI chainI
  rw [if_pos (Sc.place_nat hi), if_pos hpl, Int.toNat_natCast, Sc.chain_some h h2]
  unfold toI
  rw [List.map_cons, Int.toNat_of_nonneg h]
  rfl
/-- Whoever owns sees no more. -/
theorem names_own {ns : List N} {ss : List Str} (hr : right ns = true) {i : Nat} (hi : i < ns.length) (h : 0 ≤ own ns i) {x : List UInt8} (hx : namesN ns ss (own ns i) x) : namesN ns ss (i : Int) x := by
  obtain ⟨e1, e2, e3⟩ := ownersI_own hr hi h
  obtain ⟨h1, h2, o, ho, h4⟩ := hx
  refine ⟨Sc.place_nat hi, h2, o, ?_, ?_⟩
  · rw [e1]
    exact List.mem_cons_of_mem _ ho
  · rw [Int.toNat_natCast, ← e3]
    exact h4
theorem names_ne {ns : List N} {ss : List Str} {i : Int} {x : List UInt8} (h : namesN ns ss i x) : x ≠ [] := h.2.1
theorem names_size {ns : List N} {ss : List Str} {i : Int} {x : List UInt8} (hg : ∀ k, k < ns.length → KOk (key ns ss k)) (h : namesN ns ss i x) : (⟨x.toArray⟩ : ByteArray).size ≤ maxLen := by
  obtain ⟨-, -, o, ho, k, hk, e⟩ := h
  have := (hg k (mem_owned.1 hk).1).2.2
  rw [← str_eq.1 e]
  exact this
/-- A map of ones at these names. -/
def OMap (D : DataW Unit) (T : List (List UInt8)) : Prop := Tidy D ∧ ∀ x, D.atKey (.string x) (.lit (.int .i64 0)) = .lit (.int .i64 (if x ∈ T then 1 else 0))
theorem OMap.nil : OMap (.map []) [] := ⟨tidy_empty, fun x => by simp [DataW.atKey]⟩
theorem OMap.put {D : DataW Unit} {T : List (List UInt8)} (h : OMap D T) (x : List UInt8) : OMap (D.put (.string x) (.lit (.int .i64 1))) (T ++ [x]) := by
  obtain ⟨h1, h2⟩ := h
  refine ⟨h1.put skeyLit _, fun y => ?_⟩
  by_cases hy : y = x
  · subst hy
    rw [atKey_put_same h1.isMap skeyLit, if_pos (by simp)]
  · rw [atKey_put_other (by intro e; injection e with e; exact hy e), h2 y]
    simp [hy]
/-- Ones at these names. -/
def OO (W : World) (mb n : Nat) (T : List (List UInt8)) : Prop := ∃ D, OS_ W mb n D ∧ OMap D T
theorem OO.keep {W W' : World} {mb n : Nat} {T : List (List UInt8)} (h : OO W mb n T) (hk : W'.heap[mb]? = W.heap[mb]?) : OO W' mb n T := by
  obtain ⟨D, ⟨es, clock, h1, h2⟩, h3⟩ := h
  exact ⟨D, ⟨es, clock, hk.trans h1, h2⟩, h3⟩
theorem OO.lt {W : World} {mb n : Nat} {T : List (List UInt8)} (h : OO W mb n T) : mb < W.heap.size := by
  obtain ⟨D, h1, h2⟩ := h
  exact h1.lt
theorem OO.below {W W' : World} {mb n B : Nat} {T : List (List UInt8)} (h : OO W mb n T) (hb : Below B W W') (hB : mb < B) : OO W' mb n T := h.keep (hb.block _ hB)
theorem OO.made (w : World) : OO (w.alloc (.map #[] 0)) w.heap.size 0 [] := ⟨.map [], World.ownsMap_made (H := Unit) w Try.prog 9 (plainElem Try.prog 3), OMap.nil⟩
set_option maxRecDepth 100000 in
theorem OO.look {W : World} {mb n : Nat} {T : List (List UInt8)} (h : OO W mb n T) (s : ByteArray) (hs : s.size ≤ maxLen) : (Instr.lookup 28 (.map (some mb)) (.string s) false).run Try.prog W = .ok (.int .i64 (if s.data.toList ∈ T then 1 else 0)) W := by
  obtain ⟨D, h1, h2⟩ := h
  obtain ⟨c, hrun, hat, -⟩ := h1.lookup_int slaw Try.underlying28 Try.underlying3 (zeroI W) (skey s hs)
  rw [h2.2] at hat
  injection hat with hat
  injection hat with _ hat
  subst hat
  exact hrun
set_option maxRecDepth 100000 in
theorem wpList_update_oo (w : World) {ops : Array Oper} {rest : List Oper} {o : Oper} {a : Act} {Q : Exit → Act → World → Prop}
    (hg : o.guard = none) (m x y : Operand) (hop : o.op = Op.mapUpdate 28 m x y)
    (mb n : Nat) (T : List (List UInt8)) (hm : a.eval m = .map (some mb)) (hown : OO w mb n T) (hn : n < maxLen) (s : ByteArray) (hx : a.eval x = .string s) (hk : s.size ≤ maxLen) (hy : a.eval y = .int .i64 1)
    (hK : ∀ wu, OO wu mb (n + 1) (T ++ [s.data.toList]) → w.grownBy wu (some mb) → wpList Try.prog ops Q rest (a.put o.dst undef) wu) :
    wpList Try.prog ops Q (o :: rest) a w := by
  obtain ⟨D, h1, h2⟩ := hown
  exact wpList_mapUpdate_own w hg m x y _ hop 9 3 slaw Try.underlying28 _ mb n D hm h1 hn _ _ _ hx hy (skey s hk) _ [] (plainElem_int Try.underlying3 (by decide)) fun wu r1 r2 => hK wu ⟨_, r1, h2.put _⟩ r2
end Go.Proofs.Ytifmnoepifgaiaa.NmW
