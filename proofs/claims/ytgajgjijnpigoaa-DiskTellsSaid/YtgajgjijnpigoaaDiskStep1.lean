/-
  The walk of a step: an operation, with both disks.
-/
import Derived.Test.YtgajgjijnpigoaaDiskStep0
namespace Go.Proofs.Ytgajgjijnpigoaa.Dr
set_option linter.unusedVariables false
open Go Go.RowKit Go.Proofs Go.Proofs.Ytgajgjijnpigoaa Go.Proofs.Ytgajgjijnpigoaa.Wd
open Go.Proofs.Ytgajgjijnpigoaa.Dk (DS upd upd_eq upd_ne Ok newD At Fresh own_empty appD syD trD wrD shD fuseD crashD)
theorem u8_succ (x : UInt8) : IntKind.u8.wrap ((x.toNat : Int) + 1) = ((x + 1).toNat : Nat) := by
  have hx := x.toNat_lt
  have e : (x + 1).toNat = (x.toNat + 1) % 256 := by rw [UInt8.toNat_add]; rfl
  rw [e]
  by_cases h : x.toNat + 1 < 256
  · rw [Nat.mod_eq_of_lt h]; exact IntWalk.u8_in _ (by omega)
  · rw [show x.toNat = 255 by omega]; rfl
theorem mod8 (a : Nat) (ha : a < 256) : ∃ i : Nat, (a : Int).tmod 8 = (i : Int) ∧ IntKind.u8.wrap (i : Int) = (i : Int) ∧ i < 8 := by
  have hlt := Nat.mod_lt a (show 0 < 8 by omega)
  exact ⟨a % 8, by rw [Int.tmod_eq_emod_of_nonneg (Int.natCast_nonneg _)]; rfl, IntWalk.u8_in _ (by omega), hlt⟩
theorem wp_put_row {P : Program} {o : Oper} {a : Act} {w : World} {K : Act → World → Prop} {Q : Exit → Act → World → Prop} (ty : TypeId) (x v : Operand) (ho : o.op = .store ty x v)
    (g : Nat) (hx : a.eval x = .pointer (some ⟨g, 0, none⟩)) (t : TypeId) (old cs : Array Value) (hv : a.eval v = .agg cs) (hg : Blk w g t old)
    (hi : (P.info? ty).map (·.size) = some cs.size) (hs : old.size = cs.size) (h1 : ∀ u ∈ cs.toList, u.oneCell' = true) (h : K (a.put o.dst undef) (w.setRow g cs)) : o.wp P a w K Q := by
  unfold Oper.wp execOp
  have hrun := run_storeVar_row (P := P) w g t ty old cs hg hi hs (by rw [Array.all_eq_true']; exact fun u hu => h1 u (by simpa using hu))
  simp only [ho, hx, hv, Instr.storeAt, Instr.sureAddr, Sem.run_bind, Sem.run_pure, Result.andThen_ok, hrun]
  exact h
theorem run_cells_row {P : Program} {w : World} {g : Nat} {t : TypeId} {old cs : Array Value} (hg : Blk w g t old) (hs : old.size = cs.size) (h1 : ∀ u ∈ cs.toList, u.oneCell' = true) : (storeCells ⟨g, 0, none⟩ cs.toList).run P w = .ok () (w.setRow g cs) := by
  have := run_storeCells_from (P := P) g t cs.toList 0 old w hg (by simp; omega) (fun v hv => h1 v hv)
  simpa [hs] using this
/-- An operation's bytes: at most forty. -/
theorem bytes_any {x : Nat} {seg n : Int} {A : Option Addr} {m c : Nat} {l : List UInt8} {keep : Nat → Int} (hm : m = l.length) (hmc : m ≤ c) (hcm : c ≤ maxLen) {w : World} {B : Nat} (hB : B ≤ w.heap.size) (hI : Bytes w B A l) :
    Calls Try.prog 42 #[.agg #[.int .u8 (x : Int), .int .i64 seg, .int .i64 n, .slice A m c, .int .i64 (keep 0), .int .i64 (keep 1), .int .i64 (keep 2), .int .i64 (keep 3)]] w (Fresh w (l.take 40)) := by
  have HI := Lib.hid hI
  unfold maxLen at hcm
  obtain ⟨i0, hi0, hz0, hz1, hz2⟩ := info_parts infoU8
  have hB1 : Below w.heap.size w ((w.alloc (.cells #[.int .u8 (x : Int), .int .i64 seg, .int .i64 n, .slice A m c, .int .i64 (keep 0), .int .i64 (keep 1), .int .i64 (keep 2), .int .i64 (keep 3)] 56)).alloc (.cells #[] 5)) := ((Below.refl _ w).alloc (Nat.le_refl _) _).alloc (by simp) _
  have HE := Lib.hid (Blk.own (Blk.new_ (w.alloc (.cells #[.int .u8 (x : Int), .int .i64 seg, .int .i64 n, .slice A m c, .int .i64 (keep 0), .int .i64 (keep 1), .int .i64 (keep 2), .int .i64 (keep 3)] 56)) 5 #[] (n := w.heap.size + 1) (by simp)) (Nat.le_succ w.heap.size) 0 (Nat.le_refl _) (by simp [maxLen]))
  by_cases h0 : m = 0
  · subst h0
    have hl : l = [] := List.eq_nil_of_length_eq_zero hm.symm
    subst hl
    have u2 : (0 : Int) ≤ (c : Int) := by omega
    have HBB := Lib.hid hB1
    clear hI HI hm hB1
    cases A
    all_goals
      go_enter Try.func42, Try.ntmps42
      go_wp2_with fail
      go_ret
      exact ⟨_, rfl, HE.out, HBB.out⟩
  obtain ⟨ad, rfl⟩ : ∃ ad, A = some ad := by
    rcases l with _ | ⟨y, r⟩
    · exact absurd hm h0
    · obtain ⟨b, off, h, _⟩ := hI.at_ (j := 0) (by simp)
      exact ⟨_, h⟩
  have v1 : (0 : Int) < (m : Int) := by omega
  have v2 : ¬ (m : Int) = 0 := by omega
  by_cases h : 40 < m
  · have HL : Hid (40 = (bs (l.take 40)).length) := Lib.hid (by rw [bs_length, List.length_take]; omega)
    have u1 : (40 : Int) < (m : Int) := by omega
    have u2 : (40 : Int) ≤ (c : Int) := by omega
    clear hI hm
    go_enter Try.func42, Try.ntmps42
    go_wp2_with (at_builtin; refine wpList_append_row _ rfl (.tmp 3) (.tmp 10) _ rfl w.heap.size 5 i0 _ 1 Try.underlying29 hi0 hz0 hz1 hz2 rfl _ 0 [] rfl HE.out B (some ad) 40 c (bs (l.take 40)) rfl HL.out (by exact Bytes.head (Row.below HI.out (hB1.mono hB)) 40) (bs_one _) (by unfold maxLen; omega) (by omega) (by simp; omega) ?_)
    intro v1 w1 hown hgrow _ _
    have hB2 : Below w.heap.size w w1 := hB1.grown hgrow (by simp; omega) (by simp [Value.ownBlock])
    have HO : Hid (w1.ownsRow w.heap.size 5 1 v1 (l.take 40).length (bs (l.take 40))) := Lib.hid (by have := HL.out; rw [bs_length] at this; rw [← this]; exact (by simpa using hown))
    clear hown hgrow
    go_wp2
    go_ret
    exact ⟨_, rfl, HO.out, hB2⟩
  · have HL : Hid (m = (bs (l.take 40)).length) := Lib.hid (by rw [bs_length, List.length_take]; omega)
    have u1 : ¬ (40 : Int) < (m : Int) := by omega
    have u2 : (m : Int) ≤ (c : Int) := by omega
    clear hI hm
    go_enter Try.func42, Try.ntmps42
    go_wp2_with (at_builtin; refine wpList_append_row _ rfl (.tmp 3) (.tmp 10) _ rfl w.heap.size 5 i0 _ 1 Try.underlying29 hi0 hz0 hz1 hz2 rfl _ 0 [] rfl HE.out B (some ad) m c (bs (l.take 40)) rfl HL.out (by exact Bytes.head (Row.below HI.out (hB1.mono hB)) 40) (bs_one _) (by unfold maxLen; omega) (by omega) (by simp; omega) ?_)
    intro v1 w1 hown hgrow _ _
    have hB2 : Below w.heap.size w w1 := hB1.grown hgrow (by simp; omega) (by simp [Value.ownBlock])
    have HO : Hid (w1.ownsRow w.heap.size 5 1 v1 (l.take 40).length (bs (l.take 40))) := Lib.hid (by have := HL.out; rw [bs_length] at this; rw [← this]; exact (by simpa using hown))
    clear hown hgrow
    go_wp2
    go_ret
    exact ⟨_, rfl, HO.out, hB2⟩
end Go.Proofs.Ytgajgjijnpigoaa.Dr
