/-
  The walks of put and cut: a number more in a rising row, a number less.
-/
import Derived.Test.YtclbpohhmaojcaaGraphRow
import Derived.WalkKit
import Derived.Lib.Hide
namespace Go.Proofs.Ytclbpohhmaojcaa.GrW
set_option linter.unusedVariables false
open Go Go.RowKit Go.Proofs Go.Proofs.Ytclbpohhmaojcaa Go.Proofs.Ytclbpohhmaojcaa.Wd

def rk (l : List Int) (x : Int) : Nat := l.countP (· < x)
/-- A number more in a rising row. -/
def add (l : List Int) (x : Int) : List Int := if l.contains x then l else ins l (rk l x) x
def rem (l : List Int) (x : Int) : List Int := if l.contains x then del l (rk l x) else l
theorem rk_le (l : List Int) (x : Int) : rk l x ≤ l.length := List.countP_le_length
theorem rk_lt {l : List Int} {x : Int} (h : l.contains x = true) : rk l x < l.length := by
  unfold rk
  refine Nat.lt_of_le_of_ne List.countP_le_length (fun e => ?_)
  have := List.countP_eq_length.1 e x (by simpa using h)
  simp at this
theorem rising {l : List Int} (h : l.Pairwise (· < ·)) : l.Pairwise (· ≤ ·) := h.imp Int.le_of_lt
/-- What put and cut answer: the row, where its block was or anew; whether it is another. -/
def Put2 (w : World) (base : Nat) (v : Value) (l : List Int) (b : Bool) (e : Ending) (w' : World) : Prop :=
  ∃ v', e = .returned (.tuple #[v', .bool b]) ∧ IRow w' base v' l ∧ w.grownBy w' v.ownBlock ∧ (v'.ownBlock = v.ownBlock ∨ ∃ g, v'.ownBlock = some g ∧ w.heap.size ≤ g)
set_option maxRecDepth 100000 in
theorem put_any (w : World) (base : Nat) (hbase : base ≤ w.heap.size) (v : Value) (l : List Int) (h : IRow w base v l) (hl : l.length ≤ 1000000) (hs : l.Pairwise (· < ·)) (x : Int) :
    Calls Try.prog 41 #[v, .int .i64 x] w (Put2 w base v (add l x) (!l.contains x)) := by
  have HS := Lib.hid (search_any w base v l h hl (rising hs) x)
  have H := Lib.hid h
  obtain ⟨A, c, hv⟩ := h.lies
  subst hv
  generalize hn : l.length = n at *
  clear h hs
  go_enter Try.func41, Try.ntmps41
  go_wp2_with fail
  refine Calls.mono HS.out ?_
  rintro e w1 ⟨rfl, q, rfl⟩
  by_cases hc : l.contains x = true
  · have HF : Hid (Put2 w base (.slice A n c) (add l x) (!l.contains x) (.returned (.tuple #[.slice A n c, .bool false])) (w.drewN q)) := Lib.hid ⟨_, by rw [hc]; rfl, by unfold add; rw [if_pos hc]; exact H.out, ⟨rfl, rfl, rfl, Nat.le_refl _, fun _ _ _ => rfl⟩, .inl rfl⟩
    rw [hc]
    clear hc HS H hn
    generalize List.countP (fun y => decide (y < x)) l = k at *
    go_wp2_with fail
    go_ret2
    exact HF.out
  · have hc' : l.contains x = false := by simpa using hc
    have hrk := rk_le l x
    have HC := Lib.hid hc'
    have HI : Hid (Calls Try.prog 48 #[.slice A n c, .int .i64 (rk l x), .slice (some ⟨w.heap.size, 0, none⟩) 1 1] ((w.drewN q).alloc (.cells #[.int .i64 x] 3)) (Put1 ((w.drewN q).alloc (.cells #[.int .i64 x] 3)) base (.slice A n c) (ins l (rk l x) x))) := Lib.hid (by
      refine insert_any _ base (by simp; omega) _ l ?_ (by omega) (rk l x) hrk x w.heap.size (Blk.new_ (w.drewN q) 3 _ rfl) (fun e => ?_)
      · exact IRow.below (w := w.drewN q) H.out ((Below.refl _ (w.drewN q)).alloc (Nat.le_refl _) _)
      · obtain ⟨_, cs, hb⟩ := H.out.blk e
        exact Nat.lt_irrefl _ hb.lt)
    rw [hc']
    unfold rk at HI hrk
    have HA : Hid (add l x = ins l (rk l x) x) := Lib.hid (by unfold add; rw [if_neg hc])
    unfold rk at HA
    clear hc hc' HS hn
    generalize List.countP (fun y => decide (y < x)) l = k at *
    go_wp2_with fail
    refine Calls.mono HI.out ?_
    rintro e w2 ⟨v', rfl, hr, hg, ho⟩
    have HF : Hid (Put2 w base (.slice A n c) (add l x) (!l.contains x) (.returned (.tuple #[v', .bool true])) w2) := Lib.hid (by
      refine ⟨_, by rw [HC.out]; rfl, by rw [HA.out]; exact hr, ?_, ?_⟩
      · exact ((⟨rfl, rfl, rfl, Nat.le_refl _, fun _ _ _ => rfl⟩ : w.grownBy (w.drewN q) _).trans (World.grownBy_alloc (w.drewN q) _ _)).trans hg
      · rcases ho with ho | ho
        · exact .inl ho
        · exact .inr ⟨_, ho, by simp⟩)
    obtain ⟨A', c', hv'⟩ := hr.lies
    subst hv'
    clear HI hr hg ho HA H
    generalize (ins l k x).length = n' at *
    go_wp2_with fail
    go_ret2
    exact HF.out
set_option maxRecDepth 100000 in
theorem cut_any (w : World) (base : Nat) (v : Value) (l : List Int) (h : IRow w base v l) (hl : l.length ≤ 1000000) (hs : l.Pairwise (· < ·)) (x : Int) :
    Calls Try.prog 44 #[v, .int .i64 x] w (Put2 w base v (rem l x) (l.contains x)) := by
  have HS := Lib.hid (search_any w base v l h hl (rising hs) x)
  have H := Lib.hid h
  obtain ⟨A, c, hv⟩ := h.lies
  subst hv
  generalize hn : l.length = n at *
  clear h hs
  go_enter Try.func44, Try.ntmps44
  go_wp2_with fail
  refine Calls.mono HS.out ?_
  rintro e w1 ⟨rfl, q, rfl⟩
  by_cases hc : l.contains x = true
  · have hrk := rk_lt hc
    have HC := Lib.hid hc
    have HI : Hid (Calls Try.prog 51 #[.slice A n c, .int .i64 (rk l x), .int .i64 ((rk l x : Int) + 1)] (w.drewN q) (Put1 (w.drewN q) base (.slice A n c) (del l (rk l x)))) := Lib.hid (delete_any (w.drewN q) base _ l H.out (rk l x) hrk)
    have HA : Hid (rem l x = del l (rk l x)) := Lib.hid (by unfold rem; rw [if_pos hc])
    have hk2 : rk l x ≤ 1000000 := by omega
    rw [hc]
    unfold rk at HI hrk HA hk2
    clear hc HS hn hrk
    generalize List.countP (fun y => decide (y < x)) l = k at *
    go_wp2_with fail
    refine Calls.mono HI.out ?_
    rintro e w2 ⟨v', rfl, hr, hg, ho⟩
    have HF : Hid (Put2 w base (.slice A n c) (rem l x) (l.contains x) (.returned (.tuple #[v', .bool true])) w2) := Lib.hid (by
      refine ⟨_, by rw [HC.out], by rw [HA.out]; exact hr, ?_, ?_⟩
      · exact (⟨rfl, rfl, rfl, Nat.le_refl _, fun _ _ _ => rfl⟩ : w.grownBy (w.drewN q) _).trans hg
      · rcases ho with ho | ho
        · exact .inl ho
        · exact .inr ⟨_, ho, Nat.le_refl _⟩)
    obtain ⟨A', c', hv'⟩ := hr.lies
    subst hv'
    clear HI hr hg ho HA H
    generalize (del l k).length = n' at *
    go_wp2_with fail
    go_ret2
    exact HF.out
  · have hc' : l.contains x = false := by simpa using hc
    have HF : Hid (Put2 w base (.slice A n c) (rem l x) (l.contains x) (.returned (.tuple #[.slice A n c, .bool false])) (w.drewN q)) := Lib.hid ⟨_, by rw [hc'], by unfold rem; rw [if_neg hc]; exact H.out, ⟨rfl, rfl, rfl, Nat.le_refl _, fun _ _ _ => rfl⟩, .inl rfl⟩
    rw [hc']
    clear hc hc' HS H hn
    generalize List.countP (fun y => decide (y < x)) l = k at *
    go_wp2_with fail
    go_ret2
    exact HF.out
end Go.Proofs.Ytclbpohhmaojcaa.GrW
