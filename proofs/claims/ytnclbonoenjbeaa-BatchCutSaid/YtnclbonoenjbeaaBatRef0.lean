/-
  What the reference's Scan holds: records of its own, and its two rows.
-/
import Derived.Test.YtnclbonoenjbeaaBatScan
import Derived.Test.YtnclbonoenjbeaaBatWalks4
import Derived.Test.YtnclbonoenjbeaaRecWalks9
namespace Go.Proofs.Ytnclbonoenjbeaa.BatW
set_option linter.unusedVariables false
open Go.RowKit Go.Proofs Go.Proofs.Ytnclbonoenjbeaa Go.Proofs.Ytnclbonoenjbeaa.Wd Go.Proofs.Ytnclbonoenjbeaa.RecW
open Go.Proofs.Ytnclbonoenjbeaa.Rec (R weight)
open Go.Proofs.Ytnclbonoenjbeaa.Bat (B cnt St)

theorem own_Ts {t : TypeId} {row : Option Nat} {w w' : World} {B n size : Nat} {v : Value} {xs : List Value} (h : w.ownsRow B t size v n xs) (hk : KeepT t row w w') (hr : ∀ g, v.ownBlock = some g → some g ≠ row) : w'.ownsRow B t size v n xs := by
  obtain ⟨h1, h2⟩ := h
  refine ⟨h1, ?_⟩
  rcases h2 with h2 | ⟨g, cap, cur, hv, hg, hh, r⟩
  · exact .inl h2
  · exact .inr ⟨g, cap, cur, hv, hg, hk g cur (hr g (by subst hv; rfl)) hh, r⟩
theorem KeepT.u8 {w w' : World} (h : KeepT 5 none w w') : KeepU8 w w' := fun g cs hg => h g cs (by simp) hg
structure RS (w : World) (base : Nat) (v : Value) (xs : List Value) (rs : List R) (vo vk : Value) (s : St) : Prop where
  own : w.ownsRow base 42 2 v rs.length xs
  recs : RecsAt w base xs rs
  kept : Kept w base vk s.2
  outs : Outs w base vo s.1 vk
section
variable {w w' w2 : World} {base : Nat} {v vo vk : Value} {s : St} {rs : List R} {zs : List Value}
theorem RS.below (h : RS w base v zs rs vo vk s) (hb : Below w.heap.size w w') : RS w' base v zs rs vo vk s := ⟨own_belowT h.own hb, h.recs.keep (KeepU8.below hb), h.kept.below hb, h.outs.below hb⟩
theorem RS.app (h : RS w base v zs rs vo vk s) {vd : Value} {d : List UInt8} (hd : w.ownsRow base 5 1 vd d.length (bs d)) {n : Nat} {xs : List Value} (ho : w.ownsRow base 24 1 vk n xs) (hx : RowsAt w base xs s.2) (hg : w.grownBy w2 vk.ownBlock)
    {v' : Value} {m : Nat} (hm : m = s.2.length + 1) (hn : w2.ownsRow base 24 1 v' m (xs ++ [vd])) (hv : v'.ownBlock = vk.ownBlock ∨ v'.ownBlock = some w.heap.size) : RS w2 base v zs rs vo v' (s.1, s.2 ++ [d]) := by
  subst hm
  have j8 : KeepT 5 none w w2 := KeepT.grownOther hg (row_other ho (by decide))
  have jSS : KeepT 37 none w w2 := KeepT.grownOther hg (row_other ho (by decide))
  have jR : KeepT 42 none w w2 := KeepT.grownOther hg (row_other ho (by decide))
  refine ⟨own_Ts h.own jR (fun _ _ => by simp), h.recs.keep j8.u8, ⟨xs ++ [vd], by simpa using hn, (hx.keep j8).snoc (own_T hd j8 (fun _ _ => by simp))⟩, h.outs.grow j8 (KeepT.grown hg) jSS ?_⟩
  rcases hv with e | e
  · exact .inl e
  · exact .inr (.inr ⟨_, e, Nat.le_refl _⟩)
theorem RS.end_ (h : RS w base v zs rs vo vk s) {n : Nat} {xs : List Value} (ho : w.ownsRow base 37 1 vo n xs) (hx : ∀ j (hj : j < s.1.length), ∃ v, xs[j]? = some v ∧ Kept w base v s.1[j] ∧ ∀ g, v.ownBlock = some g → vk.ownBlock ≠ some g) (hxl : xs.length = s.1.length) (hg : w.grownBy w2 vo.ownBlock)
    {v' : Value} {m : Nat} (hm : m = s.1.length + 1) (hn : w2.ownsRow base 37 1 v' m (xs ++ [vk])) : RS w2 base v zs rs v' (.slice none 0 0) (s.1 ++ [s.2], []) := by
  subst hm
  have j8 : KeepT 5 none w w2 := KeepT.grownOther hg (row_other ho (by decide))
  have jS : KeepT 24 none w w2 := KeepT.grownOther hg (row_other ho (by decide))
  have jR : KeepT 42 none w w2 := KeepT.grownOther hg (row_other ho (by decide))
  have keep : ∀ {v : Value} {ls : B}, Kept w base v ls → Kept w2 base v ls := fun hv => hv.keep j8 jS (fun _ _ => by simp)
  refine ⟨own_Ts h.own jR (fun _ _ => by simp), h.recs.keep j8.u8, Kept.nil _ _, ⟨xs ++ [vk], by simpa using hn, fun j hj => ?_⟩⟩
  by_cases hlt : j < s.1.length
  · obtain ⟨v, e, hv, _⟩ := hx j hlt
    exact ⟨v, by rw [List.getElem?_append_left (by omega)]; exact e, by rw [List.getElem_append_left hlt]; exact keep hv, fun g hg => by simp [Value.ownBlock]⟩
  · have : j = s.1.length := by simp at hj; omega
    subst this
    exact ⟨vk, by rw [List.getElem?_append_right (by omega), hxl]; simp, by simpa using keep h.kept, fun g hg => by simp [Value.ownBlock]⟩
/-- Its cells. -/
theorem RS.get (h : RS w base v zs rs vo vk s) {j : Nat} (hj : j < rs.length) : ∃ g c A cd, v = .slice (some ⟨g, 0, none⟩) rs.length c ∧ g < w.heap.size ∧ w.cell? ⟨g, j * 2, none⟩ = some (.int .u8 (rs[j].1.toNat : Nat)) ∧ w.cell? ⟨g, j * 2 + 1, none⟩ = some (.slice A rs[j].2.length cd) ∧ rs[j].2.length ≤ cd ∧
    w.ownsRow base 5 1 (.slice A rs[j].2.length cd) rs[j].2.length (bs rs[j].2) ∧ Bytes w w.heap.size A rs[j].2 := by
  obtain ⟨vd, h1, h2, h3⟩ := h.recs.2 j hj
  obtain ⟨A, cd, rfl, hc, -, hb⟩ := own_bytes h3
  rcases h.own.2 with ⟨-, h0⟩ | ⟨g, cap, cur, rfl, hg, hh, hc1, hm, hs, ht⟩
  · omega
  have hblk : Blk w g 42 cur := hh
  have cell : ∀ i u, zs[i]? = some u → w.cell? ⟨g, i, none⟩ = some u := fun i u hu => by
    rw [hblk.cell]
    rw [← ht, List.getElem?_take] at hu
    split at hu
    · simpa using hu
    · cases hu
  exact ⟨g, cap, A, cd, rfl, hblk.lt, by rw [Nat.mul_comm]; exact cell _ _ h1, by rw [Nat.mul_comm]; exact cell _ _ h2, hc, h3, hb⟩
end
/-- Two bytes that are a number's. -/
theorem cnt_two {d : List UInt8} (hd : d.length = 2) {m : Nat} (hm : m ≤ 1024) : d = cnt m ↔ (d[0]'(by omega)).toNat + 256 * (d[1]'(by omega)).toNat = m := by
  match d, hd with
  | [x, y], _ =>
    have hx := x.toNat_lt
    have hy := y.toNat_lt
    show [x, y] = cnt m ↔ x.toNat + 256 * y.toNat = m
    constructor
    · intro h
      unfold cnt at h
      injection h with h1 h2
      injection h2 with h2
      have e1 := congrArg UInt8.toNat h1
      have e2 := congrArg UInt8.toNat h2
      simp only [UInt8.toNat_ofNat'] at e1 e2
      omega
    · intro h
      unfold cnt
      have e1 : x = UInt8.ofNat m := UInt8.toNat_inj.1 (by rw [UInt8.toNat_ofNat']; omega)
      have e2 : y = UInt8.ofNat (m / 256) := UInt8.toNat_inj.1 (by rw [UInt8.toNat_ofNat']; omega)
      rw [← e1, ← e2]
/-- So far, record by record. -/
def Far (b : List UInt8) (rs : List R) (er : Nat) (i : Nat) (s : St) (k te : Nat) : Prop := Bat.scan b = Bat.run er (rs.drop i) s k te
theorem Far.start (b : List UInt8) : Far b (Rec.all b).1 (Rec.all b).2.2 0 ([], []) 0 0 := rfl
theorem Far.bad {b : List UInt8} {rs : List R} {er i : Nat} {s : St} {k te : Nat} (h : Far b rs er i s k te) (hi : i < rs.length) {q : St × Bool × Nat} (hq : Bat.take s rs[i] = q) (h2 : q.2.2 ≠ 0) : Bat.scan b = (s.1, te, q.2.2) := by
  subst hq
  unfold Far at h
  rw [h, List.drop_eq_getElem_cons hi]
  simp only [Bat.run, if_pos h2]
theorem Far.next {b : List UInt8} {rs : List R} {er i : Nat} {s : St} {k te : Nat} (h : Far b rs er i s k te) (hi : i < rs.length) {q : St × Bool × Nat} (hq : Bat.take s rs[i] = q) (h2 : q.2.2 = 0) :
    Far b rs er (i + 1) q.1 (k + (rs[i].2.length + 9)) (if q.2.1 then k + (rs[i].2.length + 9) else te) := by
  subst hq
  unfold Far at *
  rw [h, List.drop_eq_getElem_cons hi]
  simp only [Bat.run]
  rw [if_neg (by rw [h2]; simp)]
theorem Far.full {b : List UInt8} {rs : List R} {er i : Nat} {s : St} {k te : Nat} (h : Far b rs er i s k te) (hi : ¬ i < rs.length) : Bat.scan b = (s.1, te, if er ≠ 0 then er else if 0 < s.2.length then 32 else 0) := by
  unfold Far at h
  rw [h, List.drop_eq_nil_of_le (by omega)]
  rfl
theorem drop_weight {rs : List R} {i : Nat} (hi : i < rs.length) : weight (rs.drop i) = rs[i].2.length + 9 + weight (rs.drop (i + 1)) := by
  unfold weight; rw [List.drop_eq_getElem_cons hi, List.map_cons, List.sum_cons]
theorem all_weight (b : List UInt8) : weight (Rec.all b).1 ≤ b.length := by
  obtain ⟨h1, h2, h3, h4⟩ := Rec.all_any_bytes b.length b (Nat.le_refl _)
  rw [← Rec.flat_length, h2, List.length_take]; omega
end Go.Proofs.Ytnclbonoenjbeaa.BatW
