/-
  The walks of Reach's closures.
-/
import Derived.Test.YtclbpohhmaojcaaGraphReachPl
namespace Go.Proofs.Ytclbpohhmaojcaa.GrW
set_option linter.unusedVariables false
open Go Go.RowKit Go.Proofs Go.Proofs.Ytclbpohhmaojcaa Go.Proofs.Ytclbpohhmaojcaa.Wd
open Go.Proofs.Ytclbpohhmaojcaa.Gr (E Path Inside is Closed Mono Dfs un Scan)

def bl (l : List Bool) : List Value := l.map (.bool ·)
theorem bl_at {l : List Bool} {i : Nat} (h : i < l.length) : (bl l).toArray[i]? = some (.bool (is l i)) := by
  simp [bl, is, List.getD, h]
def fromV (bg bv bm bf : Nat) : Value := .func (.func 36) #[] #[.pointer (some ⟨bv, 0, none⟩), .pointer (some ⟨bm, 0, none⟩), .pointer (some ⟨bg, 0, none⟩), .pointer (some ⟨bf, 0, none⟩)]
def eachV (bm bf : Nat) : Value := .func (.func 38) #[] #[.pointer (some ⟨bm, 0, none⟩), .pointer (some ⟨bf, 0, none⟩)]
/-- Between two vertices: the boxes as they were laid, what is met in its row. -/
structure RS (w0 W : World) (n g bg bv bm bf rm : Nat) (v : Int) (met : List Bool) : Prop where
  low : Below w0.heap.size w0 W
  hv : Blk W bv 3 #[.int .i64 v]
  hm : Blk W bm 68 #[.slice (some ⟨rm, 0, none⟩) n n]
  hg : Blk W bg 23 #[.pointer (some ⟨g, 0, none⟩)]
  hf : Blk W bf 67 #[fromV bg bv bm bf]
  hr : Blk W rm 4 (bl met).toArray
  len : met.length = n
  far : w0.heap.size ≤ rm
theorem RS.drewN {w0 W : World} {n g bg bv bm bf rm : Nat} {v : Int} {met : List Bool} (h : RS w0 W n g bg bv bm bf rm v met) (k : Nat) : RS w0 (W.drewN k) n g bg bv bm bf rm v met :=
  ⟨bdrewN h.low k, h.hv, h.hm, h.hg, h.hf, h.hr, h.len, h.far⟩
theorem RS.drew {w0 W : World} {n g bg bv bm bf rm : Nat} {v : Int} {met : List Bool} (h : RS w0 W n g bg bv bm bf rm v met) : RS w0 W.drew n g bg bv bm bf rm v met :=
  ⟨h.low.drew, h.hv, h.hm, h.hg, h.hf, h.hr, h.len, h.far⟩
theorem bl_set (l : List Bool) (i : Nat) : (bl l).toArray.setIfInBounds i (.bool true) = (bl (l.set i true)).toArray := by
  apply Array.ext'
  simp [bl, List.map_set]
theorem RS.set_ {w0 W : World} {n g bg bv bm bf rm : Nat} {v : Int} {met : List Bool} (h : RS w0 W n g bg bv bm bf rm v met) (x : Nat) : RS w0 (W.setCell ⟨rm, x, none⟩ (.bool true)) n g bg bv bm bf rm v (met.set x true) where
  low := h.low.setCell h.far _
  hv := h.hv.farN (h.hv.ne_ h.hr (by decide)) _
  hm := h.hm.farN (h.hm.ne_ h.hr (by decide)) _
  hg := h.hg.farN (h.hg.ne_ h.hr (by decide)) _
  hf := h.hf.farN (h.hf.ne_ h.hr (by decide)) _
  hr := by rw [← bl_set]; exact h.hr.set_ x _
  len := by rw [List.length_set]; exact h.len
  far := h.far
def fromArgs (bg bv bm bf : Nat) (x : Nat) : Array Value := #[.int .i64 x, .pointer (some ⟨bv, 0, none⟩), .pointer (some ⟨bm, 0, none⟩), .pointer (some ⟨bg, 0, none⟩), .pointer (some ⟨bf, 0, none⟩)]
def FromOut (w0 : World) (n g bg bv bm bf rm : Nat) (v : Nat) (L : List (List Int)) (met : List Bool) (x : Nat) (e : Ending) (w' : World) : Prop :=
  ∃ b met', e = .returned (.bool b) ∧ RS w0 w' n g bg bv bm bf rm v met' ∧ Dfs L v met met' x b
/-- What the search does at vertices when at most k are not met. -/
def Goes (w0 : World) (n g bg bv bm bf rm : Nat) (v : Nat) (L : List (List Int)) (k : Nat) : Prop :=
  ∀ (met : List Bool) (W : World) (x : Nat), RS w0 W n g bg bv bm bf rm v met → x < n → is met x = false → un met ≤ k →
    Calls Try.prog 36 (fromArgs bg bv bm bf x) W (FromOut w0 n g bg bv bm bf rm v L met x)
def EachOut (w0 : World) (n g bg bv bm bf rm : Nat) (v : Nat) (L : List (List Int)) (met : List Bool) (x : Nat) (e : Ending) (w' : World) : Prop :=
  ∃ b met', e = .returned (.bool b) ∧ RS w0 w' n g bg bv bm bf rm v met' ∧ ((b = false ∧ met' = met ∧ is met x = true) ∨ Dfs L v met met' x b)
theorem each_any (w0 : World) (n g bg bv bm bf rm : Nat) (v : Nat) (L : List (List Int)) (k : Nat) (hn : n ≤ 30000) (hG : Goes w0 n g bg bv bm bf rm v L k) (met : List Bool) (W : World) (x : Nat)
    (hS : RS w0 W n g bg bv bm bf rm v met) (hx : x < n) (hu : un met ≤ k) :
    Calls Try.prog 38 #[.int .i64 x, .pointer (some ⟨bm, 0, none⟩), .pointer (some ⟨bf, 0, none⟩)] W (EachOut w0 n g bg bv bm bf rm v L met x) := by
  have c1 := hS.hm.at_ 0 rfl
  have c2 := hS.hf.at_ 0 rfl
  have c3 : W.cell? ⟨rm, x, none⟩ = some (.bool (is met x)) := hS.hr.at_ x (bl_at (by rw [hS.len]; exact hx))
  have HS := Lib.hid hS
  have i1 : (0 : Int) ≤ (x : Int) := by omega
  have i2 : (x : Int) < (n : Int) := by omega
  by_cases hm : is met x = true
  · rw [hm] at c3
    have HF : Hid (EachOut w0 n g bg bv bm bf rm v L met x (.returned (.bool false)) W) := Lib.hid ⟨_, _, rfl, hS, .inl ⟨rfl, rfl, hm⟩⟩
    clear hS hG hm hu
    unfold fromV at c2
    go_enter Try.func38, Try.ntmps38
    go_wp2_with fail
    go_ret
    exact HF.out
  · have hm' : is met x = false := by simpa using hm
    rw [hm'] at c3
    have HG := Lib.hid (hG met W x hS hx hm' hu)
    unfold fromArgs at HG
    clear hS hG hm hu hm'
    unfold fromV at c2
    go_enter Try.func38, Try.ntmps38
    go_wp2_with fail
    refine Calls.mono HG.out ?_
    rintro e w' ⟨b, met', rfl, q1, q2⟩
    have HF : Hid (EachOut w0 n g bg bv bm bf rm v L met x (.returned (.bool b)) w') := Lib.hid ⟨_, _, rfl, q1, .inr q2⟩
    clear HG q1 q2 c1 c2 c3 HS
    go_wp2_with fail
    go_ret
    exact HF.out
theorem IRow.at_ {w : World} {base n c : Nat} {A : Option Addr} {l : List Int} (h : IRow w base (.slice A n c) l) {i : Nat} (hi : i < l.length) : ∃ b off, A = some ⟨b, off, none⟩ ∧ b < w.heap.size ∧ w.cell? ⟨b, off + i, none⟩ = some (.int .i64 l[i]) := by
  rcases h with ⟨hv, rfl⟩ | ⟨g, off, cap, cur, hv, hg, hb, hn, hm, hc, ht⟩
  · simp at hi
  · cases hv
    refine ⟨g, off, rfl, hb.lt, ?_⟩
    rw [getD_at hb ht i hi]
    simp [List.getD, hi]
/-- What a search among the ends of x's edges answers: where, or a number below 0. -/
def IdxOut (w0 : World) (n g bg bv bm bf rm : Nat) (v : Nat) (L : List (List Int)) (met : List Bool) (x : Nat) (e : Ending) (w' : World) : Prop :=
  ∃ (z : Int) (met' : List Bool), e = .returned (.int .i64 z) ∧ RS w0 w' n g bg bv bm bf rm v met' ∧ Dfs L v met met' x (decide (0 ≤ z))
theorem index_any (w0 : World) (base n g bg bv bm bf rm : Nat) (v : Nat) (L : List (List Int)) (hin : Inside n L) (k : Nat) (hn : n ≤ 30000) (hG : Goes w0 n g bg bv bm bf rm v L k) (met : List Bool) (x : Nat) (hx : x < n) (hlen : met.length = n) (hne : x ≠ v)
    (hu : un (met.set x true) ≤ k) (A : Option Addr) (m c : Nat) (hm : m = (L.getD (2 * x) []).length) (hml : m ≤ 1000000) (hrow : IRow w0 base (.slice A m c) (L.getD (2 * x) [])) (W : World) (hS : RS w0 W n g bg bv bm bf rm v (met.set x true)) :
    Calls Try.prog 47 #[.slice A m c, eachV bm bf] W (IdxOut w0 n g bg bv bm bf rm v L met x) := by
  have HN := Lib.hid hm
  have HLEN := Lib.hid (show x < met.length by omega)
  have HROW := Lib.hid hrow
  have HIN := Lib.hid (fun (y : Int) => hin.at_ (2 * x) (x := y))
  have HNE := Lib.hid hne
  have HW := Lib.hid hS
  have HU := Lib.hid hu
  clear hm hlen hrow hin hne hS hu
  unfold eachV
  go_enter Try.func47, Try.ntmps47
  go_wp2_with fail
  go_loopw [8] (fun i wr => ∃ (j : Nat) (met' : List Bool), j ≤ m ∧ i = .int .i64 j ∧ Hid (RS w0 wr n g bg bv bm bf rm v met' ∧ Scan L v (met.set x true) met' (L.getD (2 * x) []) j)) (fun i _ => m - (intOf i).toNat)
  case atStart => exact ⟨0, _, Nat.zero_le _, rfl, Lib.hid ⟨HW.out, Scan.zero _ _ _ _⟩⟩
  case round =>
    obtain ⟨j, met', hj, rfl, HT⟩ := hrel
    by_cases hlt : j < m
    · have hjl : j < (L.getD (2 * x) []).length := by have := HN.out; omega
      obtain ⟨b, off, rfl, hb, hc0⟩ := HROW.out.at_ hjl
      have hc := (HT.out.1.low.cell (p := ⟨b, off + j, none⟩) hb).trans hc0
      obtain ⟨hz1, hz2⟩ := HIN.out _ (List.getElem_mem hjl)
      obtain ⟨z, hz⟩ : ∃ z : Nat, (L.getD (2 * x) [])[j] = (z : Int) := ⟨_, (Int.toNat_of_nonneg hz1).symm⟩
      have HZ := Lib.hid hz
      have HJL := Lib.hid hjl
      have hzn : z < n := by rw [hz] at hz2; omega
      rw [hz] at hc
      have HE := Lib.hid (each_any w0 n g bg bv bm bf rm v L k hn hG met' wr z HT.out.1 hzn (Nat.le_trans (Gr.un_mono HT.out.2.1) HU.out))
      have i1 : (0 : Int) ≤ (j : Int) := by omega
      have i2 : (j : Int) < (m : Int) := by omega
      clear hc0 hz1 hz2 hz hG hzn hb
      go_wp2_with fail
      refine Calls.mono HE.out ?_
      rintro e w' ⟨b2, met2, rfl, q1, q2⟩
      clear HE
      cases b2
      · have HT2 : Hid (RS w0 w' n g bg bv bm bf rm v met2 ∧ Scan L v (met.set x true) met2 (L.getD (2 * x) []) (j + 1)) := Lib.hid ⟨q1, by
          rcases q2 with ⟨-, rfl, q⟩ | q
          · exact HT.out.2.met HJL.out HZ.out q
          · exact HT.out.2.next HJL.out HZ.out q⟩
        clear q1 q2 HT hc
        go_wp2_with fail
        go_round
        case rel => exact ⟨j + 1, _, by omega, by go_num, HT2⟩
        case measure => simp [intOf]; omega
      · have HF : Hid (IdxOut w0 n g bg bv bm bf rm v L met x (.returned (.int .i64 j)) w') := Lib.hid ⟨_, _, rfl, q1, by
          rw [decide_eq_true (by omega)]
          rcases q2 with ⟨h, -⟩ | q
          · simp at h
          · exact HT.out.2.hit HLEN.out HJL.out HZ.out q⟩
        clear q1 q2 HT hc
        go_wp2_with fail
        go_ret
        exact HF.out
    · have HF : Hid (IdxOut w0 n g bg bv bm bf rm v L met x (.returned (.int .i64 (-1))) wr) := Lib.hid (by
        have e : j = (L.getD (2 * x) []).length := by have := HN.out; omega
        have h := HT.out.2
        rw [e] at h
        exact ⟨_, _, rfl, HT.out.1, Scan.done HLEN.out HNE.out h⟩)
      clear hG HT
      go_wp2_with fail
      go_ret
      exact HF.out
theorem contains_any (w0 : World) (base n g bg bv bm bf rm : Nat) (v : Nat) (L : List (List Int)) (hin : Inside n L) (k : Nat) (hn : n ≤ 30000) (hG : Goes w0 n g bg bv bm bf rm v L k) (met : List Bool) (x : Nat) (hx : x < n) (hlen : met.length = n) (hne : x ≠ v)
    (hu : un (met.set x true) ≤ k) (A : Option Addr) (m c : Nat) (hm : m = (L.getD (2 * x) []).length) (hml : m ≤ 1000000) (hrow : IRow w0 base (.slice A m c) (L.getD (2 * x) [])) (W : World) (hS : RS w0 W n g bg bv bm bf rm v (met.set x true)) :
    Calls Try.prog 37 #[.slice A m c, eachV bm bf] W (FromOut w0 n g bg bv bm bf rm v L met x) := by
  have HI := Lib.hid (index_any w0 base n g bg bv bm bf rm v L hin k hn hG met x hx hlen hne hu A m c hm hml hrow W hS)
  clear hm hlen hrow hin hne hS hu hG
  unfold eachV at HI ⊢
  go_enter Try.func37, Try.ntmps37
  go_wp2_with fail
  refine Calls.mono HI.out ?_
  rintro e w' ⟨z, met', rfl, q1, q2⟩
  have HF : Hid (FromOut w0 n g bg bv bm bf rm v L met x (.returned (.bool (decide (0 ≤ z)))) w') := Lib.hid ⟨_, _, rfl, q1, q2⟩
  clear HI q1 q2
  go_wp2_with fail
  go_ret
  exact HF.out
end Go.Proofs.Ytclbpohhmaojcaa.GrW
