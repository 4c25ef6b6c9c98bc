/-
  The walks of the document's own New, Is, Grow, Has.
-/
import Derived.Test.YtclbpohhmaojcaaGraphGrow
import Derived.Test.YtclbpohhmaojcaaGraphUnd
namespace Go.Proofs.Ytclbpohhmaojcaa.GrW
set_option linter.unusedVariables false
open Go Go.RowKit Go.Proofs Go.Proofs.Ytclbpohhmaojcaa Go.Proofs.Ytclbpohhmaojcaa.Wd

/-- Two results, the first of them a row that lies in memory. -/
theorem results_cell_row2 {P : Program} {fn : Func} {p t : Tmp} {ty : TypeId} (h : fn.results = #[.cell p ty, .tmp t]) (tmps : Array Value) (w : World) (g : Nat) (te : TypeId) (cs : Array Value) (fr : Nat × Nat) (d : TypeDesc)
    (hp : tmps.getD p undef = .pointer (some ⟨g, 0, none⟩)) (hg : w.heap[g]? = some (.cells cs te fr))
    (hu : P.underlying ty = some d) (hd : (match d with | .struct _ | .array _ _ => true | _ => false) = true) (hi : (P.info? ty).map (·.size) = some cs.size) :
    (results fn tmps).run P w = .ok (.tuple #[.agg cs, tmps.getD t undef]) w := by
  have hp' : tmps[p]?.getD undef = .pointer (some ⟨g, 0, none⟩) := by simpa using hp
  simp [results, h, hp', asAddr, run_loadVar_row w g te ty cs fr d hg hu hd hi]
/-- The document's graph: its number, its edges. -/
def rv (n : Nat) (A : Option Addr) (q c : Nat) : Value := .agg #[.int .i64 (n : Int), .slice A q c]
theorem refnew_any (w : World) (n : Int) : Calls Try.prog 25 #[.int .i64 n] w fun e w' => e = .returned (if 0 ≤ n ∧ n ≤ 10000 then .tuple #[rv n.toNat none 0 0, .int .i64 0] else .tuple #[rv 0 none 0 0, .int .i64 2]) ∧ Below w.heap.size w w' := by
  have hB := (Below.refl w.heap.size w).alloc (Nat.le_refl _) (.cells #[.int .i64 0, .slice none 0 0] 52)
  have q0 := Blk.new_ w 52 #[.int .i64 0, .slice none 0 0] rfl
  by_cases h0 : 0 ≤ n
  · by_cases h1 : n ≤ 10000
    · obtain ⟨k, rfl⟩ : ∃ k : Nat, n = k := ⟨n.toNat, by omega⟩
      have HR := Lib.hid (show (if 0 ≤ (k : Int) ∧ (k : Int) ≤ 10000 then Value.tuple #[rv (k : Int).toNat none 0 0, .int .i64 0] else .tuple #[rv 0 none 0 0, .int .i64 2]) = .tuple #[.agg #[.int .i64 (k : Int), .slice none 0 0], .int .i64 0] by rw [if_pos ⟨h0, h1⟩]; rfl)
      have u0 : ¬ (k : Int) < 0 := by omega
      have u1 : ¬ (10000 : Int) < (k : Int) := by omega
      clear h0 h1
      go_enter Try.func25, Try.ntmps25
      go_wp2_with fail
      refine bodyPost_ret (results_cell_row2 rfl _ _ w.heap.size 52 #[.int .i64 (k : Int), .slice none 0 0] (0, 0) _ rfl (Blk.new_ w _ _ rfl).out Try.underlying52 rfl (by kernel_rfl)) rfl ?_
      exact ⟨rfl, (Below.refl _ w).alloc (Nat.le_refl _) _⟩
    · have HR := Lib.hid (show (if 0 ≤ n ∧ n ≤ 10000 then Value.tuple #[rv n.toNat none 0 0, .int .i64 0] else .tuple #[rv 0 none 0 0, .int .i64 2]) = .tuple #[.agg #[.int .i64 0, .slice none 0 0], .int .i64 2] by rw [if_neg (fun h => h1 h.2)]; rfl)
      have u0 : ¬ n < 0 := by omega
      have u1 : (10000 : Int) < n := by omega
      clear h0 h1
      go_enter Try.func25, Try.ntmps25
      go_wp2_with fail
      refine bodyPost_ret (results_cell_row2 rfl _ _ w.heap.size 52 #[.int .i64 0, .slice none 0 0] (0, 0) _ rfl (Blk.new_ w _ _ rfl).out Try.underlying52 rfl (by kernel_rfl)) rfl ?_
      exact ⟨rfl, (Below.refl _ w).alloc (Nat.le_refl _) _⟩
  · have HR := Lib.hid (show (if 0 ≤ n ∧ n ≤ 10000 then Value.tuple #[rv n.toNat none 0 0, .int .i64 0] else .tuple #[rv 0 none 0 0, .int .i64 2]) = .tuple #[.agg #[.int .i64 0, .slice none 0 0], .int .i64 2] by rw [if_neg (fun h => h0 h.1)]; rfl)
    have u0 : n < 0 := by omega
    clear h0
    go_enter Try.func25, Try.ntmps25
    go_wp2_with fail
    refine bodyPost_ret (results_cell_row2 rfl _ _ w.heap.size 52 #[.int .i64 0, .slice none 0 0] (0, 0) _ rfl (Blk.new_ w _ _ rfl).out Try.underlying52 rfl (by kernel_rfl)) rfl ?_
    exact ⟨rfl, (Below.refl _ w).alloc (Nat.le_refl _) _⟩
theorem refis_any (w : World) (n : Nat) (A : Option Addr) (q c : Nat) (v : Int) : Calls Try.prog 45 #[rv n A q c, .int .i64 v] w fun e w' => e = .returned (.bool (isV n v)) ∧ Below w.heap.size w w' := by
  have hB := (Below.refl w.heap.size w).alloc (Nat.le_refl _) (.cells #[.int .i64 (n : Int), .slice A q c] 52)
  have c0 := (Blk.new_ w 52 #[.int .i64 (n : Int), .slice A q c] rfl).at_ 0 rfl
  unfold rv
  by_cases h0 : 0 ≤ v
  · have HF : Hid (decide (v < (n : Int)) = isV n v) := Lib.hid (by unfold isV; simp [h0])
    go_enter Try.func45, Try.ntmps45
    go_wp2_with fail
    go_ret
    exact ⟨by rw [← HF.out]; rfl, hB⟩
  · have HF : Hid (isV n v = false) := Lib.hid (by unfold isV; simp [h0])
    go_enter Try.func45, Try.ntmps45
    go_wp2_with fail
    go_ret
    exact ⟨by rw [HF.out]; rfl, hB⟩
theorem refgrow_any (w : World) (n : Nat) (hn : n ≤ 10000) (A : Option Addr) (q c : Nat) (k : Int) : Calls Try.prog 29 #[rv n A q c, .int .i64 k] w fun e w' => e = .returned (if canGrow n k = true then .tuple #[rv (n + k.toNat) A q c, .int .i64 0] else .tuple #[rv n A q c, .int .i64 2]) ∧ Below w.heap.size w w' := by
  have b1 := Blk.new_ w 52 #[.int .i64 (n : Int), .slice A q c] rfl
  have c0 := b1.at_ 0 rfl
  have c1 := b1.at_ 1 rfl
  unfold rv
  by_cases hk : canGrow n k = true
  · have hk2 : 0 ≤ k ∧ (n : Int) + k ≤ 10000 := by unfold canGrow at hk; simpa using hk
    obtain ⟨m, rfl⟩ : ∃ m : Nat, k = m := ⟨k.toNat, by omega⟩
    rw [if_pos hk, Int.toNat_natCast]
    have u0 : ¬ (m : Int) < 0 := by omega
    have u1 : ¬ (10000 : Int) < (m : Int) := by omega
    have u2 : ¬ (10000 : Int) < (n : Int) + (m : Int) := by omega
    clear hk hk2
    go_enter Try.func29, Try.ntmps29
    go_wp2_with fail
    refine bodyPost_ret (results_cell_row2 rfl _ _ (w.heap.size + 1) 52 #[.int .i64 ((n : Int) + (m : Int)), .slice A q c] (0, 0) _ rfl (Blk.new_ (w.alloc (.cells #[.int .i64 ((n : Int) + (m : Int)), .slice A q c] 52)) _ _ (by simp)).out Try.underlying52 rfl (by kernel_rfl)) rfl ?_
    exact ⟨rfl, ((Below.refl _ w).alloc (Nat.le_refl _) _).alloc (by simp) _⟩
  · rw [if_neg hk]
    have hk2 : k < 0 ∨ 10000 - (n : Int) < k := by
      unfold canGrow at hk
      simp only [Bool.and_eq_true, decide_eq_true_eq] at hk
      omega
    clear hk
    by_cases u0 : k < 0
    · clear hk2
      go_enter Try.func29, Try.ntmps29
      go_wp2_with fail
      refine bodyPost_ret (results_cell_row2 rfl _ _ (w.heap.size + 1) 52 #[.int .i64 (n : Int), .slice A q c] (0, 0) _ rfl (Blk.new_ (w.alloc (.cells #[.int .i64 (n : Int), .slice A q c] 52)) _ _ (by simp)).out Try.underlying52 rfl (by kernel_rfl)) rfl ?_
      exact ⟨rfl, ((Below.refl _ w).alloc (Nat.le_refl _) _).alloc (by simp) _⟩
    · by_cases u1 : (10000 : Int) < k
      · clear hk2
        go_enter Try.func29, Try.ntmps29
        go_wp2_with fail
        refine bodyPost_ret (results_cell_row2 rfl _ _ (w.heap.size + 1) 52 #[.int .i64 (n : Int), .slice A q c] (0, 0) _ rfl (Blk.new_ (w.alloc (.cells #[.int .i64 (n : Int), .slice A q c] 52)) _ _ (by simp)).out Try.underlying52 rfl (by kernel_rfl)) rfl ?_
        exact ⟨rfl, ((Below.refl _ w).alloc (Nat.le_refl _) _).alloc (by simp) _⟩
      · have u2 : (10000 : Int) < (n : Int) + k := by omega
        have u3 : k ≤ 10000 := by omega
        have u4 : 0 ≤ k := by omega
        clear hk2
        go_enter Try.func29, Try.ntmps29
        go_wp2_with fail
        refine bodyPost_ret (results_cell_row2 rfl _ _ (w.heap.size + 1) 52 #[.int .i64 (n : Int), .slice A q c] (0, 0) _ rfl (Blk.new_ (w.alloc (.cells #[.int .i64 (n : Int), .slice A q c] 52)) _ _ (by simp)).out Try.underlying52 rfl (by kernel_rfl)) rfl ?_
        exact ⟨rfl, ((Below.refl _ w).alloc (Nat.le_refl _) _).alloc (by simp) _⟩
theorem any_snoc {E : List (Int × Int)} {j : Nat} (h : j < E.length) (x : Int × Int) : x ∈ E.take (j + 1) ↔ x ∈ E.take j ∨ x = E[j] := by
  rw [List.take_succ_eq_append_getElem h, List.mem_append, List.mem_singleton]
set_option maxRecDepth 100000 in
theorem refhas_any (w : World) (n : Nat) (A : Option Addr) (q c : Nat) (E : List (Int × Int)) (hq : q = E.length) (hqc : q ≤ c) (hcm : c ≤ maxLen) (hE : EdgesAt w w.heap.size A E) (u v : Int) : Calls Try.prog 30 #[rv n A q c, .int .i64 u, .int .i64 v] w fun e w' => e = .returned (.bool (decide ((u, v) ∈ E))) ∧ Below w.heap.size w w' := by
  have hB := (Below.refl w.heap.size w).alloc (Nat.le_refl _) (.cells #[.int .i64 (n : Int), .slice A q c] 52)
  have c0 := (Blk.new_ w 52 #[.int .i64 (n : Int), .slice A q c] rfl).at_ 1 rfl
  have HE := Lib.hid (hE.below hB)
  have HQ := Lib.hid hq
  have HB := Lib.hid hB
  unfold maxLen at hcm
  unfold rv
  clear hE hq hB
  go_enter Try.func30, Try.ntmps30
  go_wp2_with fail
  go_loop [7] (fun i => ∃ j : Nat, j ≤ q ∧ i = .int .i64 j ∧ Hid ((u, v) ∉ E.take j)) (fun i => q - (intOf i).toNat)
  case atStart => exact ⟨0, Nat.zero_le _, rfl, Lib.hid (by simp)⟩
  case round =>
    obtain ⟨j, hj, rfl, HS⟩ := hrel
    by_cases hlt : j < q
    · have hjl : j < E.length := by have := HQ.out; omega
      obtain ⟨b, off, rfl, hb, p1, p2⟩ := HE.out j hjl
      have HX := Lib.hid (any_snoc hjl (u, v))
      have HM := Lib.hid (List.getElem_mem hjl)
      generalize E[j] = x at *
      obtain ⟨xf, xt⟩ := x
      have i1 : (0 : Int) ≤ (j : Int) := by omega
      have i2 : (j : Int) < (q : Int) := by omega
      clear hjl hb
      by_cases e1 : xf = u
      · subst e1
        by_cases e2 : xt = v
        · subst e2
          have HF : Hid (decide ((xf, xt) ∈ E) = true) := Lib.hid (decide_eq_true HM.out)
          clear HX HM HS
          go_wp2_with fail
          go_ret
          exact ⟨by rw [HF.out]; rfl, HB.out⟩
        · have f2 : (xt == v) = false := by simpa using e2
          have HN : Hid ((xf, v) ∉ E.take (j + 1)) := Lib.hid (fun h => (HX.out.1 h).elim HS.out (fun e => e2 (by simpa using (congrArg Prod.snd e).symm)))
          clear HX HM HS e2
          go_wp2_with fail
          go_round
          case rel => exact ⟨j + 1, by omega, by go_num, HN⟩
          case measure => simp [intOf]; omega
      · have f1 : (xf == u) = false := by simpa using e1
        have HN : Hid ((u, v) ∉ E.take (j + 1)) := Lib.hid (fun h => (HX.out.1 h).elim HS.out (fun e => e1 (by simpa using (congrArg Prod.fst e).symm)))
        clear HX HM HS e1
        go_wp2_with fail
        go_round
        case rel => exact ⟨j + 1, by omega, by go_num, HN⟩
        case measure => simp [intOf]; omega
    · have HF : Hid (decide ((u, v) ∈ E) = false) := Lib.hid (decide_eq_false (by
        have h := HS.out
        rw [List.take_of_length_le (by have := HQ.out; omega)] at h
        exact h))
      clear HS
      go_wp2_with fail
      go_ret
      exact ⟨by rw [HF.out]; rfl, HB.out⟩
end Go.Proofs.Ytclbpohhmaojcaa.GrW
