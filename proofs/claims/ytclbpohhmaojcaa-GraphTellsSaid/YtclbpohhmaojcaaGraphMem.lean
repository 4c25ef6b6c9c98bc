/-
  A graph in memory: its struct, its vertices, their rows, each in a block of its own.
-/
import Derived.Test.YtclbpohhmaojcaaGraphPut
namespace Go.Proofs.Ytclbpohhmaojcaa.GrW
set_option linter.unusedVariables false
open Go Go.RowKit Go.Proofs Go.Proofs.Ytclbpohhmaojcaa Go.Proofs.Ytclbpohhmaojcaa.Wd

/-- Rows of numbers, their slices in the cells of block r, one behind the other; no two of them in one block. -/
structure VRows (w : World) (base r : Nat) (cur : Array Value) (L : List (List Int)) : Prop where
  blk : Blk w r 71 cur
  far : base ≤ r
  fits : L.length ≤ cur.size
  row : ∀ i (h : i < L.length), ∃ v, cur[i]? = some v ∧ IRow w base v L[i]
  apart : ∀ i j v u g, i ≠ j → i < L.length → j < L.length → cur[i]? = some v → cur[j]? = some u → v.ownBlock = some g → u.ownBlock ≠ some g
theorem VRows.ne_row {w : World} {base r : Nat} {cur : Array Value} {L : List (List Int)} (h : VRows w base r cur L) {v : Value} {l : List Int} (hv : IRow w base v l) {g : Nat} (hg : v.ownBlock = some g) : g ≠ r := fun e => by
  obtain ⟨_, cs, hb⟩ := hv.blk hg
  rw [e] at hb
  exact hb.ne_ h.blk (by decide) rfl
theorem VRows.below {w w' : World} {base r : Nat} {cur : Array Value} {L : List (List Int)} (h : VRows w base r cur L) (hb : Below w.heap.size w w') : VRows w' base r cur L where
  blk := h.blk.below hb h.blk.lt
  far := h.far
  fits := h.fits
  row := fun i hi => by obtain ⟨v, h1, h2⟩ := h.row i hi; exact ⟨v, h1, h2.below hb⟩
  apart := h.apart
theorem VRows.put {w w' : World} {base r : Nat} {cur : Array Value} {L : List (List Int)} (h : VRows w base r cur L) {i : Nat} (hi : i < L.length) {v v' : Value} {l : List Int} (hv : cur[i]? = some v) (hr : IRow w' base v' l) (hg : w.grownBy w' v.ownBlock)
    (ho : v'.ownBlock = v.ownBlock ∨ ∃ g, v'.ownBlock = some g ∧ w.heap.size ≤ g) : VRows (w'.setCell ⟨r, i, none⟩ v') base r (cur.setIfInBounds i v') (L.set i l) := by
  have hvr : IRow w base v L[i] := by
    obtain ⟨u, h1, h2⟩ := h.row i hi
    rw [hv] at h1
    cases h1
    exact h2
  have hb' : Blk w' r 71 cur := h.blk.grown hg (fun e => h.ne_row hvr e.symm rfl)
  have hic : i < cur.size := Nat.lt_of_lt_of_le hi h.fits
  refine ⟨hb'.set_ i v', h.far, by rw [List.length_set, Array.size_setIfInBounds]; exact h.fits, fun j hj => ?_, fun j k u x g hjk hj hk hu hx hug => ?_⟩
  · have hj' : j < L.length := by rw [List.length_set] at hj; exact hj
    by_cases e : i = j
    · subst e
      refine ⟨v', Array.getElem?_setIfInBounds_self_of_lt hic, ?_⟩
      rw [List.getElem_set_self]
      refine hr.keep fun g hg2 => heap_setCell_other w' ⟨r, i, none⟩ g v' (fun e => ?_)
      obtain ⟨_, cs, hb2⟩ := hr.blk hg2
      have e' : g = r := e
      rw [e'] at hb2
      exact hb2.ne_ hb' (by decide) rfl
    · obtain ⟨u, h1, h2⟩ := h.row j hj'
      refine ⟨u, by rw [Array.getElem?_setIfInBounds_ne e]; exact h1, ?_⟩
      rw [List.getElem_set_ne e]
      refine h2.keep fun g hg2 => ?_
      obtain ⟨_, cs, hb2⟩ := h2.blk hg2
      refine (heap_setCell_other w' ⟨r, i, none⟩ g v' (fun e2 => ?_)).trans (hg.block g hb2.lt (fun e2 => h.apart i j v u g e hi hj' hv h1 e2.symm hg2))
      have e' : g = r := e2
      rw [e'] at hb2
      exact hb2.ne_ h.blk (by decide) rfl
  · rw [List.length_set] at hj hk
    have old : ∀ {m : Nat} {y : Value} {q : Nat}, m < L.length → cur[m]? = some y → y.ownBlock = some q → q < w.heap.size := fun {m y q} hm hy hq => by
      obtain ⟨y2, h1, h2⟩ := h.row m hm
      rw [hy] at h1
      cases h1
      obtain ⟨_, cs, hb2⟩ := h2.blk hq
      exact hb2.lt
    by_cases e1 : i = j
    · subst e1
      rw [Array.getElem?_setIfInBounds_self_of_lt hic] at hu
      cases hu
      rw [Array.getElem?_setIfInBounds_ne hjk] at hx
      rcases ho with ho | ⟨g', ho, hlt⟩
      · exact h.apart i k v x g hjk hi hk hv hx (by rw [← ho]; exact hug)
      · intro e
        rw [hug] at ho
        cases ho
        have := old hk hx e
        omega
    · rw [Array.getElem?_setIfInBounds_ne e1] at hu
      by_cases e2 : i = k
      · subst e2
        rw [Array.getElem?_setIfInBounds_self_of_lt hic] at hx
        cases hx
        rcases ho with ho | ⟨g', ho, hlt⟩
        · rw [ho]; exact h.apart j i u v g hjk hj hi hu hv hug
        · rw [ho]
          intro e
          cases e
          have := old hj hu hug
          omega
      · rw [Array.getElem?_setIfInBounds_ne e2] at hx
        exact h.apart j k u x g hjk hj hk hu hx hug
/-- A graph of n vertices: row 2 v is where its edges go to, row 2 v + 1 where they come from; its blocks are of F. -/
def GAt (w : World) (base : Nat) (F : Nat → Prop) (g n : Nat) (L : List (List Int)) : Prop :=
  ∃ r c cur, Blk w g 65 #[.bool true, .slice (some ⟨r, 0, none⟩) n c] ∧ base ≤ g ∧ VRows w base r cur L ∧ L.length = 2 * n ∧ n ≤ c ∧ c ≤ maxLen ∧ cur.size = c * 2 ∧ F g ∧ F r ∧ ∀ i v b, i < L.length → cur[i]? = some v → v.ownBlock = some b → F b
/-- Between two worlds: only blocks of F, and new ones, are another. -/
structure Fr (F : Nat → Prop) (w w' : World) : Prop where
  os : w'.os = w.os
  tape : w'.tape = w.tape
  output : w'.output = w.output
  size : w.heap.size ≤ w'.heap.size
  block : ∀ k, k < w.heap.size → ¬ F k → w'.heap[k]? = w.heap[k]?
theorem Fr.refl (F : Nat → Prop) (w : World) : Fr F w w := ⟨rfl, rfl, rfl, Nat.le_refl _, fun _ _ _ => rfl⟩
theorem Fr.trans {F F' : Nat → Prop} {a b c : World} (h : Fr F a b) (k : Fr F' b c) (hF : ∀ j, j < a.heap.size → F' j → F j) : Fr F a c :=
  ⟨k.os.trans h.os, k.tape.trans h.tape, k.output.trans h.output, Nat.le_trans h.size k.size, fun j hj hf => (k.block j (Nat.lt_of_lt_of_le hj h.size) (fun e => hf (hF j hj e))).trans (h.block j hj hf)⟩
theorem Fr.of_grown {F : Nat → Prop} {w w' : World} {row : Option Nat} (h : w.grownBy w' row) (hr : ∀ g, row = some g → F g) : Fr F w w' :=
  ⟨h.os, h.tape, h.output, h.size, fun k hk hf => h.block k hk (fun e => hf (hr k e.symm))⟩
theorem Fr.of_below {F : Nat → Prop} {w w' : World} (h : Below w.heap.size w w') : Fr F w w' := ⟨h.os, h.tape, h.output, h.size, fun k hk _ => h.block k hk⟩
theorem Fr.set_ {F : Nat → Prop} {w w' : World} (h : Fr F w w') {r : Nat} (hr : F r) (i : Nat) (v : Value) : Fr F w (w'.setCell ⟨r, i, none⟩ v) :=
  ⟨h.os, h.tape, h.output, by simpa using h.size, fun k hk hf => (heap_setCell_other w' ⟨r, i, none⟩ k v (fun e => hf (by have e' : k = r := e; rw [e']; exact hr))).trans (h.block k hk hf)⟩
theorem GAt.below {w w' : World} {base g n : Nat} {F : Nat → Prop} {L : List (List Int)} (h : GAt w base F g n L) (hb : Below w.heap.size w w') : GAt w' base F g n L := by
  obtain ⟨r, c, cur, h1, h2, h3, h4⟩ := h
  exact ⟨r, c, cur, h1.below hb h1.lt, h2, h3.below hb, h4⟩
/-- Another graph stays where its blocks are none of F. -/
theorem GAt.fr {w w' : World} {base g n : Nat} {F F' : Nat → Prop} {L : List (List Int)} (h : GAt w base F' g n L) (hf : Fr F w w') (hd : ∀ k, F' k → ¬ F k) : GAt w' base F' g n L := by
  obtain ⟨r, c, cur, h1, h2, h3, h4, h5, h6, h7, f1, f2, f3⟩ := h
  have keep : ∀ {k : Nat} {t : TypeId} {cs : Array Value}, Blk w k t cs → F' k → Blk w' k t cs := fun hb hk => (hf.block _ hb.lt (hd _ hk)).trans hb
  refine ⟨r, c, cur, keep h1 f1, h2, ⟨keep h3.blk f2, h3.far, h3.fits, fun i hi => ?_, h3.apart⟩, h4, h5, h6, h7, f1, f2, f3⟩
  obtain ⟨v, hv, hr⟩ := h3.row i hi
  refine ⟨v, hv, hr.keep fun b hb => ?_⟩
  obtain ⟨_, cs, hbl⟩ := hr.blk hb
  exact hf.block b hbl.lt (hd _ (f3 i v b hi hv hb))
end Go.Proofs.Ytclbpohhmaojcaa.GrW
