/-
  The document's order: New, Place.
-/
import Derived.Test.YtelplccbcbegkaaOrderRun
import Derived.Test.YtelplccbcbegkaaOrdG3
namespace Go.Proofs.Ytelplccbcbegkaa.OrW
set_option linter.unusedVariables false
open Go Go.RowKit Go.Proofs Go.Proofs.Ytelplccbcbegkaa Go.Proofs.Ytelplccbcbegkaa.Wd Go.Proofs.Ytelplccbcbegkaa.GrW Go.Proofs.Ytelplccbcbegkaa.Ord
open Go.Proofs.Ytelplccbcbegkaa.Gr (OK putL outs intos Path edgesTo ev)

/-- The document's order as a value. -/
def ov (n : Nat) (A : Option Addr) (q c : Nat) (Am : Option Addr) (k cm : Nat) : Value := .agg #[.int .i64 (n : Int), .slice A q c, .slice Am k cm]
/-- Where a number is in a row, or -1. -/
def idx (l : List Int) (v : Int) : Int := if v ∈ l then ((l.idxOf v : Nat) : Int) else -1
theorem idx_hit {l : List Int} {v : Int} {i : Nat} (hi : i < l.length) (h : l[i] = v) (hb : ∀ t (ht : t < i), l[t]'(by omega) ≠ v) : idx l v = (i : Int) := by
  have hm : v ∈ l := by rw [← h]; exact List.getElem_mem hi
  unfold idx
  rw [if_pos hm]
  have h1 : l.idxOf v < l.length := List.idxOf_lt_length_of_mem hm
  have h2 : l[l.idxOf v] = v := List.getElem_idxOf h1
  have h3 : l.idxOf v = i := by
    apply Nat.le_antisymm
    · refine Nat.le_of_not_lt fun hlt => ?_
      have := List.not_of_lt_findIdx (p := (· == v)) (xs := l) (i := i) hlt
      simp [h] at this
    · refine Nat.le_of_not_lt fun hlt => hb _ hlt h2
  rw [h3]
theorem idx_miss {l : List Int} {v : Int} (hb : ∀ t (ht : t < l.length), l[t] ≠ v) : idx l v = -1 := by
  unfold idx
  rw [if_neg]
  intro hm
  obtain ⟨t, ht, e⟩ := List.getElem_of_mem hm
  exact hb t ht e
set_option maxRecDepth 100000 in
theorem placeR_any (w : World) (n : Nat) (A : Option Addr) (q c : Nat) (Am : Option Addr) (k cm : Nat) (l : List Int) (hk : k = l.length) (hk2 : k ≤ 30000) (hI : Nums w w.heap.size Am l) (v : Int) :
    Calls Try.prog 48 #[ov n A q c Am k cm, .int .i64 v] w fun e w' => e = .returned (.int .i64 (idx l v)) ∧ Below w.heap.size w w' := by
  have hB := (Below.refl w.heap.size w).alloc (Nat.le_refl _) (.cells #[.int .i64 (n : Int), .slice A q c, .slice Am k cm] 55)
  have q0 := Blk.new_ w 55 #[.int .i64 (n : Int), .slice A q c, .slice Am k cm] rfl
  have c2 := q0.at_ 2 rfl
  have HB := Lib.hid hB
  have HK := Lib.hid hk
  have HI := Lib.hid hI
  unfold ov
  clear hB q0 hk hI
  go_enter Try.func48, Try.ntmps48
  go_wp2_with fail
  go_loop [5] (fun ix => ∃ i : Nat, i ≤ k ∧ ix = .int .i64 i ∧ Hid (∀ t (ht : t < i) (h2 : t < l.length), l[t] ≠ v)) (fun ix => k - (intOf ix).toNat)
  case atStart => exact ⟨0, Nat.zero_le _, rfl, Lib.hid (fun t ht => by omega)⟩
  case round =>
    obtain ⟨i, hi, rfl, HT⟩ := hrel
    by_cases hlt : i < k
    · have hil : i < l.length := by have := HK.out; omega
      obtain ⟨b, off, rfl, hb, hc⟩ := HI.out.at_ (j := i) hil
      have hc2 := (HB.out.cell (p := ⟨b, off + i, none⟩) hb).trans hc
      have i1 : (0 : Int) ≤ (i : Int) := by omega
      have i2 : (i : Int) < (k : Int) := by omega
      have HLT := Lib.hid hlt
      by_cases he : l[i] = v
      · have HF : Hid (idx l v = (i : Int)) := Lib.hid (idx_hit hil he (fun t ht => HT.out t ht (by omega)))
        have hbe : ((l[i] : Int) == v) = true := by rw [beq_iff_eq]; exact he
        generalize l[i] = x at *
        clear hc hb he HT
        go_wp2_with fail
        go_ret
        exact ⟨by rw [HF.out]; rfl, HB.out⟩
      · have HN : Hid (∀ t (ht : t < i + 1) (h2 : t < l.length), l[t] ≠ v) := Lib.hid (fun t ht h2 => by
          by_cases e : t = i
          · subst e; exact he
          · exact HT.out t (by omega) h2)
        have hbe : ((l[i] : Int) == v) = false := by rw [beq_eq_false_iff_ne]; exact he
        generalize l[i] = x at *
        clear hc hb he HT
        go_wp2_with fail
        go_round
        case rel => exact ⟨i + 1, by have := HLT.out; omega, by go_num, HN⟩
        case measure => simp [intOf]; have := HLT.out; omega
    · have i2 : ¬ (i : Int) < (k : Int) := by omega
      have HF : Hid (idx l v = -1) := Lib.hid (idx_miss (fun t ht => HT.out t (by have := HK.out; omega) ht))
      clear HT
      go_wp2_with fail
      go_ret
      exact ⟨by rw [HF.out]; rfl, HB.out⟩
end Go.Proofs.Ytelplccbcbegkaa.OrW
