/-
  Blocks of bytes that lie as they lay; the cells of records; what All answers.
-/
import Derived.Test.YtnclbonoenjbeaaRecWalks3
import Derived.Test.YtnclbonoenjbeaaRecPlain2
import Derived.Test.YtnclbonoenjbeaaWordsRange
import Derived.Test.YtnclbonoenjbeaaWordsHeld
namespace Go.Proofs.Ytnclbonoenjbeaa.RecW
open Go.RowKit Go.Shelf Go.Proofs Go.Proofs.Ytnclbonoenjbeaa Go.Proofs.Ytnclbonoenjbeaa.Wd Go.Proofs.Ytnclbonoenjbeaa.CrcW
open Go.Proofs.Ytnclbonoenjbeaa.Rec (R takeErr takeEnd takeRec)
theorem own_one {w : World} {base : Nat} {e : TypeId} {size n : Nat} {v : Value} {xs : List Value} (h : w.ownsRow base e size v n xs) : v.oneCell' = true := by
  rcases h.2 with ⟨rfl, _⟩ | ⟨g', cap, cur, rfl, hb, _⟩ <;> rfl
theorem own_below {B : Nat} {e : TypeId} {k : Nat} {v : Value} {n : Nat} {xs : List Value} {w w' : World} (h : w.ownsRow B e k v n xs) (hb : Below w.heap.size w w') : w'.ownsRow B e k v n xs := by
  obtain ⟨h1, h2⟩ := h
  refine ⟨h1, ?_⟩
  rcases h2 with h2 | ⟨g, cap, cur, hv, hg, hh, r⟩
  · exact .inl h2
  · exact .inr ⟨g, cap, cur, hv, hg, (hb.block g (Array.getElem?_eq_some_iff.1 hh).1).trans hh, r⟩
/-- Blocks of bytes that nothing froze lie as they lay. -/
def KeepU8 (w w' : World) : Prop := ∀ (g : Nat) (cs : Array Value), w.heap[g]? = some (.cells cs 5 (0, 0)) → w'.heap[g]? = some (.cells cs 5 (0, 0))
theorem KeepU8.refl (w : World) : KeepU8 w w := fun _ _ h => h
theorem KeepU8.trans {a b c : World} (h : KeepU8 a b) (k : KeepU8 b c) : KeepU8 a c := fun g cs hg => k g cs (h g cs hg)
theorem KeepU8.below {w w' : World} (h : Below w.heap.size w w') : KeepU8 w w' := fun g _ hg => (h.block g (Array.getElem?_eq_some_iff.1 hg).1).trans hg
theorem KeepU8.turns {B : Nat} {w w' : World} (h : Turns B w w') : KeepU8 w w' := fun g _ hg => h.cells g _ hg rfl
theorem KeepU8.alloc (w : World) (o : Obj) : KeepU8 w (w.alloc o) := fun g _ hg => (Below.heap_alloc w o g (Array.getElem?_eq_some_iff.1 hg).1).trans hg
theorem KeepU8.set_ {w : World} {g : Nat} {t : TypeId} {cs : Array Value} (h : Blk w g t cs) (ht : t ≠ 5) (i : Nat) (u : Value) : KeepU8 w (w.setCell ⟨g, i, none⟩ u) := fun k cs' hk => by
  have hne : k ≠ g := fun e => by subst e; exact Blk.ne_ h (cs' := cs') hk ht rfl
  exact (heap_setCell_other w _ k u hne).trans hk
theorem KeepU8.grown {w w' : World} {row : Option Nat} (h : w.grownBy w' row) (hr : ∀ g, row = some g → ∃ t cs fr, w.heap[g]? = some (.cells cs t fr) ∧ t ≠ 5) : KeepU8 w w' := fun k cs' hk => by
  refine (h.block k (Array.getElem?_eq_some_iff.1 hk).1 (fun e => ?_)).trans hk
  obtain ⟨t, cs, fr, hg, ht⟩ := hr k e.symm
  rw [hk] at hg
  injection hg with hg
  injection hg with _ hg
  exact ht hg.symm
theorem own_u8 {w w' : World} {B n : Nat} {v : Value} {xs : List Value} (h : w.ownsRow B 5 1 v n xs) (hk : KeepU8 w w') : w'.ownsRow B 5 1 v n xs := by
  obtain ⟨h1, h2⟩ := h
  refine ⟨h1, ?_⟩
  rcases h2 with h2 | ⟨g, cap, cur, hv, hg, hh, r⟩
  · exact .inl h2
  · exact .inr ⟨g, cap, cur, hv, hg, hk g cur hh, r⟩
/-- The cells of records. -/
def RecsAt (w : World) (B : Nat) (xs : List Value) (rs : List R) : Prop :=
  xs.length = rs.length * 2 ∧ ∀ j (h : j < rs.length), ∃ v, xs[2 * j]? = some (.int .u8 (rs[j].1.toNat : Nat)) ∧ xs[2 * j + 1]? = some v ∧ w.ownsRow B 5 1 v rs[j].2.length (bs rs[j].2)
theorem RecsAt.nil (w : World) (B : Nat) : RecsAt w B [] [] := ⟨rfl, fun _ h => absurd h (Nat.not_lt_zero _)⟩
theorem RecsAt.keep {w w' : World} {B : Nat} {xs : List Value} {rs : List R} (h : RecsAt w B xs rs) (hk : KeepU8 w w') : RecsAt w' B xs rs :=
  ⟨h.1, fun j hj => let ⟨v, h1, h2, h3⟩ := h.2 j hj; ⟨v, h1, h2, own_u8 h3 hk⟩⟩
theorem RecsAt.snoc {w : World} {B : Nat} {xs : List Value} {rs : List R} (h : RecsAt w B xs rs) {k : UInt8} {v : Value} {d : List UInt8} (hv : w.ownsRow B 5 1 v d.length (bs d)) :
    RecsAt w B (xs ++ [.int .u8 (k.toNat : Nat), v]) (rs ++ [(k, d)]) := by
  obtain ⟨hl, ha⟩ := h
  refine ⟨by simp [hl]; omega, fun j hj => ?_⟩
  by_cases hlt : j < rs.length
  · obtain ⟨u, h1, h2, h3⟩ := ha j hlt
    refine ⟨u, ?_, ?_, ?_⟩
    · rw [List.getElem?_append_left (by omega), List.getElem_append_left hlt]; exact h1
    · rw [List.getElem?_append_left (by omega)]; exact h2
    · rw [List.getElem_append_left hlt]; exact h3
  · have : j = rs.length := by simp at hj; omega
    subst this
    refine ⟨v, ?_, ?_, ?_⟩
    · rw [List.getElem?_append_right (by omega)]; simp [show 2 * rs.length - xs.length = 0 by omega]
    · rw [List.getElem?_append_right (by omega)]; simp [show 2 * rs.length + 1 - xs.length = 1 by omega]
    · simpa using hv
/-- What All answers. -/
def AllOut (w : World) (b : List UInt8) (e : Ending) (w' : World) : Prop :=
  ∃ v xs, e = .returned (.tuple #[v, .int .i64 ((Rec.all b).2.1 : Nat), .int .i64 ((Rec.all b).2.2 : Nat)]) ∧ Below w.heap.size w w' ∧ w'.ownsRow w.heap.size 42 2 v (Rec.all b).1.length xs ∧ RecsAt w' w.heap.size xs (Rec.all b).1

theorem infoRec : (Try.prog.info? 42).map (fun i => (i.zero, i.size, i.bytes)) = some (some (.agg #[.int .u8 0, .slice none 0 0]), 2, 32) := by kernel_rfl
end Go.Proofs.Ytnclbonoenjbeaa.RecW
