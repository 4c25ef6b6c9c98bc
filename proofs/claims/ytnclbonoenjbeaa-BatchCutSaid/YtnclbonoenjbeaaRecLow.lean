/-
  Bytes anew; are bytes the same; slices of records.
-/
import Derived.Test.YtnclbonoenjbeaaRecKeep
namespace Go.Proofs.Ytnclbonoenjbeaa.RecW
set_option linter.unusedVariables false
open Go.RowKit Go.Proofs Go.Proofs.Ytnclbonoenjbeaa Go.Proofs.Ytnclbonoenjbeaa.Wd Go.Proofs.Ytnclbonoenjbeaa.CrcW
open Go.Proofs.Ytnclbonoenjbeaa.Rec (R four number fine takeErr takeEnd takeRec putErr)

theorem anew_any (A : Option Addr) (c : Nat) (l : List UInt8) (n : Nat) (hn : n = l.length) (hc : l.length ≤ 100000000000) (w : World) (hI : Bytes w w.heap.size A l) :
    Calls Try.prog 14 #[.slice A n c] w (Fresh w n l) := by
  subst hn
  obtain ⟨i0, hi0, hz0, hz1, hz2⟩ := info_parts infoU8
  go_enter Try.func14, Try.ntmps14
  go_wp2_with (at_builtin; refine wpList_append_row _ rfl (.tmp 3) (.tmp 4) _ rfl w.heap.size 5 i0 _ 1 Try.underlying24 hi0 hz0 hz1 hz2 rfl _ 0 [] rfl (by exact own_empty _ _ (Nat.le_refl _)) w.heap.size A l.length c (bs l) rfl (bs_length l).symm (by exact hI.alloc (Nat.le_refl _) _) (bs_one l) (by unfold maxLen; omega) (by omega) (by simp) ?_)
  intro v1 w1 hown hgrow _ _
  have hB1 : Below w.heap.size w w1 := ((Below.refl _ w).alloc (Nat.le_refl _) _).grown hgrow (by simp) (by simp [Value.ownBlock])
  go_wp2
  go_ret
  exact ⟨_, rfl, hown, hB1⟩

theorem same_any (A B : Option Addr) (c d : Nat) (l k : List UInt8) (n m : Nat) (hn : n = l.length) (hm : m = k.length) (w : World) (hI : Bytes w w.heap.size A l) (hJ : Bytes w w.heap.size B k) :
    Calls Try.prog 20 #[.slice A n c, .slice B m d] w fun e w' => e = .returned (.bool (l == k)) ∧ w = w' := by
  subst hn hm
  have k1 := run_convert_bytes (P := Try.prog) w 24 5 9 Try.underlying24 Try.underlying5 Try.underlying9 hI c rfl
  have k2 := run_convert_bytes (P := Try.prog) w 24 5 9 Try.underlying24 Try.underlying5 Try.underlying9 hJ d rfl
  go_enter Try.func20, Try.ntmps20
  go_wp2
  go_ret
  exact ⟨rfl, rfl⟩
/-- A slice of records: from its address they lie one behind the other, below block B. -/
def Recs (w : World) (B : Nat) (A : Option Addr) (rs : List R) : Prop :=
  ∀ j (h : j < rs.length), ∃ b off A' c, A = some ⟨b, off, none⟩ ∧ b < B ∧ w.cell? ⟨b, off + j * 2, none⟩ = some (.int .u8 (rs[j].1.toNat : Nat)) ∧ w.cell? ⟨b, off + j * 2 + 1, none⟩ = some (.slice A' rs[j].2.length c) ∧
    rs[j].2.length ≤ c ∧ Bytes w B A' rs[j].2
section
variable {w w' : World} {B B' : Nat} {A : Option Addr} {rs : List R}
theorem Recs.nil : Recs w B A [] := fun _ h => absurd h (Nat.not_lt_zero _)
theorem Recs.below (h : Recs w B A rs) (hb : Below B w w') : Recs w' B A rs := fun j hj => by
  obtain ⟨b, off, A', c, e, hlt, h1, h2, h3, h4⟩ := h j hj
  exact ⟨b, off, A', c, e, hlt, (hb.cell (p := ⟨b, _, none⟩) hlt).trans h1, (hb.cell (p := ⟨b, _, none⟩) hlt).trans h2, h3, h4.below hb⟩
theorem Recs.more (h : Recs w B A rs) (hB : B ≤ B') : Recs w B' A rs := fun j hj => by
  obtain ⟨b, off, A', c, e, hlt, h1, h2, h3, h4⟩ := h j hj
  exact ⟨b, off, A', c, e, by omega, h1, h2, h3, h4.more hB⟩
theorem Recs.grow (h : Recs w w.heap.size A rs) (hb : Below w.heap.size w w') : Recs w' w'.heap.size A rs := (h.below hb).more hb.size
theorem Recs.drew (h : Recs w B A rs) : Recs w.drew B A rs := h
theorem Recs.take (h : Recs w B A rs) (k : Nat) : Recs w B A (rs.take k) := fun j hj => by
  have hj' : j < rs.length := by simp at hj; omega
  obtain ⟨b, off, A', c, e, hlt, h1, h2, h3, h4⟩ := h j hj'
  refine ⟨b, off, A', c, e, hlt, ?_⟩
  rw [List.getElem_take]
  exact ⟨h1, h2, h3, h4⟩
end
theorem own_recs {w : World} {base : Nat} {v : Value} {n : Nat} {xs : List Value} {rs : List R} (h : w.ownsRow base 42 2 v n xs) (hr : RecsAt w base xs rs) : ∃ A c, v = .slice A n c ∧ n ≤ c ∧ n = rs.length ∧ Recs w w.heap.size A rs := by
  have hl := h.1
  have hl2 := hr.1
  have hn : n = rs.length := by omega
  rcases h.2 with ⟨rfl, h0⟩ | ⟨g, cap, cur, rfl, hg, hh, hc, hm, _, ht⟩
  · have : rs = [] := List.eq_nil_of_length_eq_zero (by omega)
    subst this
    subst h0
    exact ⟨none, 0, rfl, Nat.le_refl _, rfl, Recs.nil⟩
  · refine ⟨_, cap, rfl, hc, hn, fun j hj => ?_⟩
    obtain ⟨v, h1, h2, h3⟩ := hr.2 j hj
    obtain ⟨A', c', rfl, hcc, hle, hb⟩ := own_bytes h3
    have hblk : Blk w g 42 cur := hh
    have cell : ∀ i u, xs[i]? = some u → w.cell? ⟨g, i, none⟩ = some u := fun i u hu => by
      rw [hblk.cell]
      rw [← ht, List.getElem?_take] at hu
      split at hu
      · simpa using hu
      · cases hu
    refine ⟨g, 0, A', c', rfl, hblk.lt, ?_, ?_, hcc, hb⟩
    · rw [Nat.zero_add, Nat.mul_comm]; exact cell _ _ h1
    · rw [Nat.zero_add, Nat.mul_comm]; exact cell _ _ h2
end Go.Proofs.Ytnclbonoenjbeaa.RecW
