/-
  Words and walks, one behind the other: GraphRef1, GraphRef2, GraphRef3, GraphRef4, GraphRef5, GraphTellsPl.
-/
import Derived.Test.YtelplccbcbegkaaOrdG2
namespace Go.Proofs.Ytelplccbcbegkaa.GrW
set_option linter.unusedVariables false
open Go Go.RowKit Go.Proofs Go.Proofs.Ytelplccbcbegkaa Go.Proofs.Ytelplccbcbegkaa.Wd

/-- Two results, the first of them a row that lies in memory. -/
theorem results_cell_row2 {P : Program} {fn : Func} {p t : Tmp} {ty : TypeId} (h : fn.results = #[.cell p ty, .tmp t]) (tmps : Array Value) (w : World) (g : Nat) (te : TypeId) (cs : Array Value) (fr : Nat × Nat) (d : TypeDesc)
    (hp : tmps.getD p undef = .pointer (some ⟨g, 0, none⟩)) (hg : w.heap[g]? = some (.cells cs te fr))
    (hu : P.underlying ty = some d) (hd : (match d with | .struct _ | .array _ _ => true | _ => false) = true) (hi : (P.info? ty).map (·.size) = some cs.size) :
    (results fn tmps).run P w = .ok (.tuple #[.agg cs, tmps.getD t undef]) w := by
  have hp' : tmps[p]?.getD undef = .pointer (some ⟨g, 0, none⟩) := by simpa using hp
  simp [results, h, hp', asAddr, run_loadVar_row w g te ty cs fr d hg hu hd hi]
/-- The document's graph: its number, its edges. -/
def rv (n : Nat) (A : Option Addr) (q c : Nat) : Value := .agg #[.int .i64 (n : Int), .slice A q c]
theorem refnew_any (w : World) (n : Int) : Calls Try.prog 43 #[.int .i64 n] w fun e w' => e = .returned (if 0 ≤ n ∧ n ≤ 10000 then .tuple #[rv n.toNat none 0 0, .int .i64 0] else .tuple #[rv 0 none 0 0, .int .i64 2]) ∧ Below w.heap.size w w' := by
  have hB := (Below.refl w.heap.size w).alloc (Nat.le_refl _) (.cells #[.int .i64 0, .slice none 0 0] 53)
  have q0 := Blk.new_ w 53 #[.int .i64 0, .slice none 0 0] rfl
  by_cases h0 : 0 ≤ n
  · by_cases h1 : n ≤ 10000
    · obtain ⟨k, rfl⟩ : ∃ k : Nat, n = k := ⟨n.toNat, by omega⟩
      have HR := Lib.hid (show (if 0 ≤ (k : Int) ∧ (k : Int) ≤ 10000 then Value.tuple #[rv (k : Int).toNat none 0 0, .int .i64 0] else .tuple #[rv 0 none 0 0, .int .i64 2]) = .tuple #[.agg #[.int .i64 (k : Int), .slice none 0 0], .int .i64 0] by rw [if_pos ⟨h0, h1⟩]; rfl)
      have u0 : ¬ (k : Int) < 0 := by omega
      have u1 : ¬ (10000 : Int) < (k : Int) := by omega
      clear h0 h1
      go_enter Try.func43, Try.ntmps43
      go_wp2_with fail
      refine bodyPost_ret (results_cell_row2 rfl _ _ w.heap.size 53 #[.int .i64 (k : Int), .slice none 0 0] (0, 0) _ rfl (Blk.new_ w _ _ rfl).out Try.underlying53 rfl (by kernel_rfl)) rfl ?_
      exact ⟨rfl, (Below.refl _ w).alloc (Nat.le_refl _) _⟩
    · have HR := Lib.hid (show (if 0 ≤ n ∧ n ≤ 10000 then Value.tuple #[rv n.toNat none 0 0, .int .i64 0] else .tuple #[rv 0 none 0 0, .int .i64 2]) = .tuple #[.agg #[.int .i64 0, .slice none 0 0], .int .i64 2] by rw [if_neg (fun h => h1 h.2)]; rfl)
      have u0 : ¬ n < 0 := by omega
      have u1 : (10000 : Int) < n := by omega
      clear h0 h1
      go_enter Try.func43, Try.ntmps43
      go_wp2_with fail
      refine bodyPost_ret (results_cell_row2 rfl _ _ w.heap.size 53 #[.int .i64 0, .slice none 0 0] (0, 0) _ rfl (Blk.new_ w _ _ rfl).out Try.underlying53 rfl (by kernel_rfl)) rfl ?_
      exact ⟨rfl, (Below.refl _ w).alloc (Nat.le_refl _) _⟩
  · have HR := Lib.hid (show (if 0 ≤ n ∧ n ≤ 10000 then Value.tuple #[rv n.toNat none 0 0, .int .i64 0] else .tuple #[rv 0 none 0 0, .int .i64 2]) = .tuple #[.agg #[.int .i64 0, .slice none 0 0], .int .i64 2] by rw [if_neg (fun h => h0 h.1)]; rfl)
    have u0 : n < 0 := by omega
    clear h0
    go_enter Try.func43, Try.ntmps43
    go_wp2_with fail
    refine bodyPost_ret (results_cell_row2 rfl _ _ w.heap.size 53 #[.int .i64 0, .slice none 0 0] (0, 0) _ rfl (Blk.new_ w _ _ rfl).out Try.underlying53 rfl (by kernel_rfl)) rfl ?_
    exact ⟨rfl, (Below.refl _ w).alloc (Nat.le_refl _) _⟩
theorem refis_any (w : World) (n : Nat) (A : Option Addr) (q c : Nat) (v : Int) : Calls Try.prog 61 #[rv n A q c, .int .i64 v] w fun e w' => e = .returned (.bool (isV n v)) ∧ Below w.heap.size w w' := by
  have hB := (Below.refl w.heap.size w).alloc (Nat.le_refl _) (.cells #[.int .i64 (n : Int), .slice A q c] 53)
  have c0 := (Blk.new_ w 53 #[.int .i64 (n : Int), .slice A q c] rfl).at_ 0 rfl
  unfold rv
  by_cases h0 : 0 ≤ v
  · have HF : Hid (decide (v < (n : Int)) = isV n v) := Lib.hid (by unfold isV; simp [h0])
    go_enter Try.func61, Try.ntmps61
    go_wp2_with fail
    go_ret
    exact ⟨by rw [← HF.out]; rfl, hB⟩
  · have HF : Hid (isV n v = false) := Lib.hid (by unfold isV; simp [h0])
    go_enter Try.func61, Try.ntmps61
    go_wp2_with fail
    go_ret
    exact ⟨by rw [HF.out]; rfl, hB⟩
theorem refgrow_any (w : World) (n : Nat) (hn : n ≤ 10000) (A : Option Addr) (q c : Nat) (k : Int) : Calls Try.prog 60 #[rv n A q c, .int .i64 k] w fun e w' => e = .returned (if canGrow n k = true then .tuple #[rv (n + k.toNat) A q c, .int .i64 0] else .tuple #[rv n A q c, .int .i64 2]) ∧ Below w.heap.size w w' := by
  have b1 := Blk.new_ w 53 #[.int .i64 (n : Int), .slice A q c] rfl
  have c0 := b1.at_ 0 rfl
  have c1 := b1.at_ 1 rfl
  unfold rv
  by_cases hk : canGrow n k = true
  · have hk2 : 0 ≤ k ∧ (n : Int) + k ≤ 10000 := by unfold canGrow at hk; simpa using hk
    obtain ⟨m, rfl⟩ : ∃ m : Nat, k = m := ⟨k.toNat, by omega⟩
    rw [if_pos hk, Int.toNat_natCast]
    have u0 : ¬ (m : Int) < 0 := by omega
    have u1 : ¬ (10000 : Int) < (m : Int) := by omega
    have u2 : ¬ (10000 : Int) < (n : Int) + (m : Int) := by omega
    clear hk hk2
    go_enter Try.func60, Try.ntmps60
    go_wp2_with fail
    refine bodyPost_ret (results_cell_row2 rfl _ _ (w.heap.size + 1) 53 #[.int .i64 ((n : Int) + (m : Int)), .slice A q c] (0, 0) _ rfl (Blk.new_ (w.alloc (.cells #[.int .i64 ((n : Int) + (m : Int)), .slice A q c] 53)) _ _ (by simp)).out Try.underlying53 rfl (by kernel_rfl)) rfl ?_
    exact ⟨rfl, ((Below.refl _ w).alloc (Nat.le_refl _) _).alloc (by simp) _⟩
  · rw [if_neg hk]
    have hk2 : k < 0 ∨ 10000 - (n : Int) < k := by
      unfold canGrow at hk
      simp only [Bool.and_eq_true, decide_eq_true_eq] at hk
      omega
    clear hk
    by_cases u0 : k < 0
    · clear hk2
      go_enter Try.func60, Try.ntmps60
      go_wp2_with fail
      refine bodyPost_ret (results_cell_row2 rfl _ _ (w.heap.size + 1) 53 #[.int .i64 (n : Int), .slice A q c] (0, 0) _ rfl (Blk.new_ (w.alloc (.cells #[.int .i64 (n : Int), .slice A q c] 53)) _ _ (by simp)).out Try.underlying53 rfl (by kernel_rfl)) rfl ?_
      exact ⟨rfl, ((Below.refl _ w).alloc (Nat.le_refl _) _).alloc (by simp) _⟩
    · by_cases u1 : (10000 : Int) < k
      · clear hk2
        go_enter Try.func60, Try.ntmps60
        go_wp2_with fail
        refine bodyPost_ret (results_cell_row2 rfl _ _ (w.heap.size + 1) 53 #[.int .i64 (n : Int), .slice A q c] (0, 0) _ rfl (Blk.new_ (w.alloc (.cells #[.int .i64 (n : Int), .slice A q c] 53)) _ _ (by simp)).out Try.underlying53 rfl (by kernel_rfl)) rfl ?_
        exact ⟨rfl, ((Below.refl _ w).alloc (Nat.le_refl _) _).alloc (by simp) _⟩
      · have u2 : (10000 : Int) < (n : Int) + k := by omega
        have u3 : k ≤ 10000 := by omega
        have u4 : 0 ≤ k := by omega
        clear hk2
        go_enter Try.func60, Try.ntmps60
        go_wp2_with fail
        refine bodyPost_ret (results_cell_row2 rfl _ _ (w.heap.size + 1) 53 #[.int .i64 (n : Int), .slice A q c] (0, 0) _ rfl (Blk.new_ (w.alloc (.cells #[.int .i64 (n : Int), .slice A q c] 53)) _ _ (by simp)).out Try.underlying53 rfl (by kernel_rfl)) rfl ?_
        exact ⟨rfl, ((Below.refl _ w).alloc (Nat.le_refl _) _).alloc (by simp) _⟩
theorem any_snoc {E : List (Int × Int)} {j : Nat} (h : j < E.length) (x : Int × Int) : x ∈ E.take (j + 1) ↔ x ∈ E.take j ∨ x = E[j] := by
  rw [List.take_succ_eq_append_getElem h, List.mem_append, List.mem_singleton]
set_option maxRecDepth 100000 in
theorem refhas_any (w : World) (n : Nat) (A : Option Addr) (q c : Nat) (E : List (Int × Int)) (hq : q = E.length) (hqc : q ≤ c) (hcm : c ≤ maxLen) (hE : EdgesAt w w.heap.size A E) (u v : Int) : Calls Try.prog 45 #[rv n A q c, .int .i64 u, .int .i64 v] w fun e w' => e = .returned (.bool (decide ((u, v) ∈ E))) ∧ Below w.heap.size w w' := by
  have hB := (Below.refl w.heap.size w).alloc (Nat.le_refl _) (.cells #[.int .i64 (n : Int), .slice A q c] 53)
  have c0 := (Blk.new_ w 53 #[.int .i64 (n : Int), .slice A q c] rfl).at_ 1 rfl
  have HE := Lib.hid (hE.below hB)
  have HQ := Lib.hid hq
  have HB := Lib.hid hB
  unfold maxLen at hcm
  unfold rv
  clear hE hq hB
  go_enter Try.func45, Try.ntmps45
  go_wp2_with fail
  go_loop [7] (fun i => ∃ j : Nat, j ≤ q ∧ i = .int .i64 j ∧ Hid ((u, v) ∉ E.take j)) (fun i => q - (intOf i).toNat)
  case atStart => exact ⟨0, Nat.zero_le _, rfl, Lib.hid (by simp)⟩
  case round =>
    obtain ⟨j, hj, rfl, HS⟩ := hrel
    by_cases hlt : j < q
    · have hjl : j < E.length := by have := HQ.out; omega
      obtain ⟨b, off, rfl, hb, p1, p2⟩ := HE.out j hjl
      have HX := Lib.hid (any_snoc hjl (u, v))
      have HM := Lib.hid (List.getElem_mem hjl)
      generalize E[j] = x at *
      obtain ⟨xf, xt⟩ := x
      have i1 : (0 : Int) ≤ (j : Int) := by omega
      have i2 : (j : Int) < (q : Int) := by omega
      clear hjl hb
      by_cases e1 : xf = u
      · subst e1
        by_cases e2 : xt = v
        · subst e2
          have HF : Hid (decide ((xf, xt) ∈ E) = true) := Lib.hid (decide_eq_true HM.out)
          clear HX HM HS
          go_wp2_with fail
          go_ret
          exact ⟨by rw [HF.out]; rfl, HB.out⟩
        · have f2 : (xt == v) = false := by simpa using e2
          have HN : Hid ((xf, v) ∉ E.take (j + 1)) := Lib.hid (fun h => (HX.out.1 h).elim HS.out (fun e => e2 (by simpa using (congrArg Prod.snd e).symm)))
          clear HX HM HS e2
          go_wp2_with fail
          go_round
          case rel => exact ⟨j + 1, by omega, by go_num, HN⟩
          case measure => simp [intOf]; omega
      · have f1 : (xf == u) = false := by simpa using e1
        have HN : Hid ((u, v) ∉ E.take (j + 1)) := Lib.hid (fun h => (HX.out.1 h).elim HS.out (fun e => e1 (by simpa using (congrArg Prod.fst e).symm)))
        clear HX HM HS e1
        go_wp2_with fail
        go_round
        case rel => exact ⟨j + 1, by omega, by go_num, HN⟩
        case measure => simp [intOf]; omega
    · have HF : Hid (decide ((u, v) ∈ E) = false) := Lib.hid (decide_eq_false (by
        have h := HS.out
        rw [List.take_of_length_le (by have := HQ.out; omega)] at h
        exact h))
      clear HS
      go_wp2_with fail
      go_ret
      exact ⟨by rw [HF.out]; rfl, HB.out⟩
end Go.Proofs.Ytelplccbcbegkaa.GrW

namespace Go.Proofs.Ytelplccbcbegkaa.Gr
/-- An edge behind another one, by From, then by To. -/
def gtE (y x : Int × Int) : Bool := decide (x.1 < y.1) || (y.1 == x.1 && decide (x.2 < y.2))
/-- An edge more, where it stands. -/
def insR (x : Int × Int) : List (Int × Int) → List (Int × Int)
  | [] => [x]
  | y :: t => if gtE y x then x :: y :: t else y :: insR x t
/-- What is put so far. -/
def InsAt (x : Int × Int) (E : List (Int × Int)) (j : Nat) (done : Bool) (l : List (Int × Int)) : Prop := insR x E = l ++ (if done then E.drop j else insR x (E.drop j))
theorem InsAt.zero (x : Int × Int) (E : List (Int × Int)) : InsAt x E 0 false [] := by unfold InsAt; simp
theorem InsAt.was {x : Int × Int} {E l : List (Int × Int)} {j : Nat} (h : InsAt x E j true l) (hj : j < E.length) : InsAt x E (j + 1) true (l ++ [E[j]]) := by
  unfold InsAt at *
  rw [h]
  simp only [if_true]
  rw [List.drop_eq_getElem_cons hj]; simp
theorem InsAt.on {x : Int × Int} {E l : List (Int × Int)} {j : Nat} (h : InsAt x E j false l) (hj : j < E.length) (hg : gtE E[j] x = false) : InsAt x E (j + 1) false (l ++ [E[j]]) := by
  unfold InsAt at *
  rw [h]
  simp only [Bool.false_eq_true, if_false]
  rw [List.drop_eq_getElem_cons hj, insR, hg]; simp
theorem InsAt.now {x : Int × Int} {E l : List (Int × Int)} {j : Nat} (h : InsAt x E j false l) (hj : j < E.length) (hg : gtE E[j] x = true) : InsAt x E (j + 1) true (l ++ [x] ++ [E[j]]) := by
  unfold InsAt at *
  rw [h]
  simp only [Bool.false_eq_true, if_false, if_true]
  rw [List.drop_eq_getElem_cons hj, insR, hg]; simp
theorem InsAt.done_ {x : Int × Int} {E l : List (Int × Int)} (h : InsAt x E E.length true l) : l = insR x E := by
  unfold InsAt at h; rw [h]; simp
theorem InsAt.last {x : Int × Int} {E l : List (Int × Int)} (h : InsAt x E E.length false l) : l ++ [x] = insR x E := by
  unfold InsAt at h; rw [h]; simp [insR]
theorem insR_length (x : Int × Int) (E : List (Int × Int)) : (insR x E).length = E.length + 1 := by
  induction E with
  | nil => rfl
  | cons y t ih => unfold insR; split <;> simp [ih]
end Go.Proofs.Ytelplccbcbegkaa.Gr
namespace Go.Proofs.Ytelplccbcbegkaa.GrW
set_option linter.unusedVariables false
open Go Go.RowKit Go.Proofs Go.Proofs.Ytelplccbcbegkaa Go.Proofs.Ytelplccbcbegkaa.Wd
open Go.Proofs.Ytelplccbcbegkaa.Gr (ev gtE insR InsAt)

/-- One edge more at the end of an own row. -/
theorem wpList_edge {W : World} {ops : Array Oper} {rest : List Oper} {o : Oper} {a : Act} {Q : Exit → Act → World → Prop} (hgd : o.guard = none) (s x : Operand) (ho : o.op = .call { callee := .builtin .append, args := #[s, x], argTypes := #[22, 22] })
    (base : Nat) (ov : Value) (m : Nat) (E : List (Int × Int)) (hs : a.eval s = ov) (hown : W.ownsRow base 34 2 ov m (ev E)) (b : Nat) (y : Int × Int) (hx : a.eval x = .slice (some ⟨b, 0, none⟩) 1 1) (hb : Blk W b 34 #[.int .i64 y.1, .int .i64 y.2]) (hl : m ≤ 1000000000) (hbase : base ≤ W.heap.size)
    (h : ∀ g cap w', w'.ownsRow base 34 2 (.slice (some ⟨g, 0, none⟩) (m + 1) cap) (m + 1) (ev (E ++ [y])) → W.grownBy w' ov.ownBlock → wpList Try.prog ops Q rest (a.put o.dst (.slice (some ⟨g, 0, none⟩) (m + 1) cap)) w') : wpList Try.prog ops Q (o :: rest) a W := by
  obtain ⟨i0, hi0, hz0, hz1, hz2⟩ := info_parts infoEdge
  refine wpList_append_lies W hgd s x 22 ho base 34 i0 _ 2 16 Try.underlying22 hi0 hz0 hz1 hz2 rfl (by omega) ov m (ev E) hs hown ⟨b, 0, none⟩ 1 1 [.int .i64 y.1, .int .i64 y.2] hx rfl (World.news_of_block hb.out) (by intro u hu; simp at hu; rcases hu with rfl | rfl <;> rfl) (by omega) (by unfold maxLen; omega) (by omega) hbase W.heap.size rfl fun g cap w' h1 h2 _ _ => h g cap w' (by rw [Gr.ev_append]; exact h1) h2
def RefPutOut (w : World) (n : Nat) (A : Option Addr) (q c : Nat) (E : List (Int × Int)) (u v : Int) (e : Ending) (w' : World) : Prop :=
  Below w.heap.size w w' ∧ if canPut n u v = false then e = .returned (.tuple #[rv n A q c, .bool false, .int .i64 2]) else if (u, v) ∈ E then e = .returned (.tuple #[rv n A q c, .bool false, .int .i64 0]) else ∃ A' c', e = .returned (.tuple #[rv n A' (q + 1) c', .bool true, .int .i64 0]) ∧ w'.ownsRow w.heap.size 34 2 (.slice A' (q + 1) c') (q + 1) (ev (insR (u, v) E))
/-- The boxes of Put: the graph that came in, the one that is answered. -/
structure PB (w wr : World) (n : Nat) (A : Option Addr) (q c : Nat) : Prop where
  low : Below w.heap.size w wr
  b0 : Blk wr w.heap.size 53 #[.int .i64 (n : Int), .slice A q c]
  b1 : Blk wr (w.heap.size + 1) 53 #[.int .i64 0, .slice none 0 0]
theorem PB.below {w wr w' : World} {n : Nat} {A : Option Addr} {q c : Nat} (h : PB w wr n A q c) (hb : Below wr.heap.size wr w') : PB w w' n A q c := ⟨h.low.trans (hb.mono h.low.size), h.b0.below hb h.b0.lt, h.b1.below hb h.b1.lt⟩
theorem PB.grown {w wr w' : World} {n : Nat} {A : Option Addr} {q c : Nat} {r : Option Nat} (h : PB w wr n A q c) (hg : wr.grownBy w' r) (hr : ∀ b, r = some b → w.heap.size + 2 ≤ b) : PB w w' n A q c :=
  ⟨h.low.grown hg h.low.size (fun b e => by have := hr b e; omega), h.b0.grown hg (fun e => by have := hr _ e.symm; omega), h.b1.grown hg (fun e => by have := hr _ e.symm; omega)⟩
theorem PB.fin {w wr : World} {n : Nat} {A : Option Addr} {q c : Nat} (h : PB w wr n A q c) (x y : Value) : Blk ((wr.setCell ⟨w.heap.size + 1, 0, none⟩ x).setCell ⟨w.heap.size + 1, 1, none⟩ y) (w.heap.size + 1) 53 #[x, y] ∧ Below w.heap.size w ((wr.setCell ⟨w.heap.size + 1, 0, none⟩ x).setCell ⟨w.heap.size + 1, 1, none⟩ y) :=
  ⟨(h.b1.set_ 0 x).set_ 1 y, (h.low.setCell (p := ⟨w.heap.size + 1, 0, none⟩) (Nat.le_succ _) x).setCell (p := ⟨w.heap.size + 1, 1, none⟩) (Nat.le_succ _) y⟩
theorem PB.store {w wr : World} {n : Nat} {A : Option Addr} {q c : Nat} (h : PB w wr n A q c) (V : Value) : Blk (wr.setCell ⟨w.heap.size, 1, none⟩ V) w.heap.size 53 #[.int .i64 (n : Int), V] ∧ Blk (wr.setCell ⟨w.heap.size, 1, none⟩ V) (w.heap.size + 1) 53 #[.int .i64 0, .slice none 0 0] ∧ Below w.heap.size w (wr.setCell ⟨w.heap.size, 1, none⟩ V) :=
  ⟨h.b0.set_ 1 V, h.b1.farN (by omega) V, h.low.setCell (p := ⟨w.heap.size, 1, none⟩) (Nat.le_refl _) V⟩
/-- What is answered: the result's cells behind all. -/
theorem PB.ends {w wr : World} {n : Nat} {A : Option Addr} {q c : Nat} (h : PB w wr n A q c) {V : Value} {m : Nat} {xs : List Value} (ho : wr.ownsRow (w.heap.size + 2) 34 2 V m xs) :
    Blk (((wr.setCell ⟨w.heap.size, 1, none⟩ V).setCell ⟨w.heap.size + 1, 0, none⟩ (.int .i64 (n : Int))).setCell ⟨w.heap.size + 1, 1, none⟩ V) (w.heap.size + 1) 53 #[.int .i64 (n : Int), V] ∧ Below w.heap.size w (((wr.setCell ⟨w.heap.size, 1, none⟩ V).setCell ⟨w.heap.size + 1, 0, none⟩ (.int .i64 (n : Int))).setCell ⟨w.heap.size + 1, 1, none⟩ V) ∧ (((wr.setCell ⟨w.heap.size, 1, none⟩ V).setCell ⟨w.heap.size + 1, 0, none⟩ (.int .i64 (n : Int))).setCell ⟨w.heap.size + 1, 1, none⟩ V).ownsRow w.heap.size 34 2 V m xs := by
  obtain ⟨h1, h2, h3⟩ := h.store V
  have far : ∀ p : Addr, p.block < w.heap.size + 2 → V.ownBlock ≠ some p.block := fun p hp e => by have := (own_row ho e).1; omega
  exact ⟨(h2.set_ 0 _).set_ 1 _, (h3.setCell (p := ⟨w.heap.size + 1, 0, none⟩) (Nat.le_succ _) _).setCell (p := ⟨w.heap.size + 1, 1, none⟩) (Nat.le_succ _) _, own_base (own_far (own_far (own_far ho (far ⟨w.heap.size, 1, none⟩ (by show w.heap.size < _; omega)) _) (far ⟨w.heap.size + 1, 0, none⟩ (by show w.heap.size + 1 < _; omega)) _) (far ⟨w.heap.size + 1, 1, none⟩ (by show w.heap.size + 1 < _; omega)) _) (by omega)⟩
set_option maxRecDepth 100000 in
set_option maxHeartbeats 8000000 in
theorem refput_any (w : World) (n : Nat) (A : Option Addr) (q c : Nat) (E : List (Int × Int)) (hq : q = E.length) (hqc : q ≤ c) (hcm : c ≤ maxLen) (hbig : q ≤ 1000000) (hE : EdgesAt w w.heap.size A E) (u v : Int) : Calls Try.prog 64 #[rv n A q c, .int .i64 u, .int .i64 v] w (RefPutOut w n A q c E u v) := by
  have hP : PB w ((w.alloc (.cells #[.int .i64 (n : Int), .slice A q c] 53)).alloc (.cells #[.int .i64 0, .slice none 0 0] 53)) n A q c := ⟨((Below.refl _ w).alloc (Nat.le_refl _) _).alloc (by simp) _, (Blk.new_ w _ _ rfl).alloc _, Blk.new_ _ _ _ (by simp)⟩
  have HP := Lib.hid hP
  have c0 := hP.b0.at_ 0 rfl
  have c1 := hP.b0.at_ 1 rfl
  have HE := Lib.hid hE
  have HQ := Lib.hid hq
  have HCM := Lib.hid hcm
  clear hP hE hq hcm
  unfold rv
  by_cases hu : isV n u = true
  · have HU := Lib.hid hu
    by_cases hv : isV n v = true
    · have HV := Lib.hid hv
      by_cases huv : u = v
      · have HF : Hid (canPut n u v = false) := Lib.hid (by unfold canPut; simp [huv])
        subst huv
        clear hu hv
        go_enter Try.func64, Try.ntmps64
        go_wp2_with fail
        refine Calls.mono (refis_any _ n A q c u) ?_
        rintro e w1 ⟨rfl, B1⟩
        rw [HU.out]
        have HP1 := Lib.hid (HP.out.below B1)
        clear HP B1 c0 c1
        have c0' := HP1.out.b0.at_ 0 rfl
        have c1' := HP1.out.b0.at_ 1 rfl
        have d0' := HP1.out.b1.at_ 0 rfl
        have d1' := HP1.out.b1.at_ 1 rfl
        have z0 := HP1.out.b1.frozen 0
        have z1 := HP1.out.b1.frozen 1
        go_wp2_with fail
        refine Calls.mono (refis_any _ n A q c u) ?_
        rintro e w2 ⟨rfl, B2⟩
        rw [HV.out]
        have HP2 := Lib.hid (HP1.out.below B2)
        clear HP1 B2 c0' c1' d0' d1' z0 z1
        have c0' := HP2.out.b0.at_ 0 rfl
        have c1' := HP2.out.b0.at_ 1 rfl
        have d0' := HP2.out.b1.at_ 0 rfl
        have d1' := HP2.out.b1.at_ 1 rfl
        have z0 := HP2.out.b1.frozen 0
        have z1 := HP2.out.b1.frozen 1
        go_wp2_with fail
        refine bodyPost_ret (results_cell_row3 rfl _ _ (w.heap.size + 1) 53 #[.int .i64 (n : Int), .slice A q c] (0, 0) _ rfl (HP2.out.fin _ _).1.out Try.underlying53 rfl (by kernel_rfl)) rfl ?_
        exact ⟨(HP2.out.fin _ _).2, by rw [if_pos HF.out]; rfl⟩
      · have HF : Hid (¬ canPut n u v = false) := Lib.hid (by unfold canPut; simp [hu, hv, huv])
        have huv' : (u == v) = false := by simpa using huv
        clear hu hv
        by_cases hh : (u, v) ∈ E
        · have HH := Lib.hid hh
          have HD := Lib.hid (decide_eq_true hh)
          clear hh
          go_enter Try.func64, Try.ntmps64
          go_wp2_with fail
          refine Calls.mono (refis_any _ n A q c u) ?_
          rintro e w1 ⟨rfl, B1⟩
          rw [HU.out]
          have HP1 := Lib.hid (HP.out.below B1)
          clear HP B1 c0 c1
          have c0' := HP1.out.b0.at_ 0 rfl
          have c1' := HP1.out.b0.at_ 1 rfl
          have d0' := HP1.out.b1.at_ 0 rfl
          have d1' := HP1.out.b1.at_ 1 rfl
          have z0 := HP1.out.b1.frozen 0
          have z1 := HP1.out.b1.frozen 1
          go_wp2_with fail
          refine Calls.mono (refis_any _ n A q c v) ?_
          rintro e w2 ⟨rfl, B2⟩
          rw [HV.out]
          have HP2 := Lib.hid (HP1.out.below B2)
          clear HP1 B2 c0' c1' d0' d1' z0 z1
          have c0' := HP2.out.b0.at_ 0 rfl
          have c1' := HP2.out.b0.at_ 1 rfl
          have d0' := HP2.out.b1.at_ 0 rfl
          have d1' := HP2.out.b1.at_ 1 rfl
          have z0 := HP2.out.b1.frozen 0
          have z1 := HP2.out.b1.frozen 1
          go_wp2_with fail
          refine Calls.mono (refhas_any w2 n A q c E HQ.out hqc HCM.out (fun j hj => by obtain ⟨b, off, e1, e2, e3, e4⟩ := (HE.out.below HP2.out.low) j hj; exact ⟨b, off, e1, Nat.lt_of_lt_of_le e2 HP2.out.low.size, e3, e4⟩) u v) ?_
          rintro e w3 ⟨rfl, B3⟩
          rw [HD.out]
          have HP3 := Lib.hid (HP2.out.below B3)
          clear HP2 B3 c0' c1' d0' d1' z0 z1
          have c0' := HP3.out.b0.at_ 0 rfl
          have c1' := HP3.out.b0.at_ 1 rfl
          have d0' := HP3.out.b1.at_ 0 rfl
          have d1' := HP3.out.b1.at_ 1 rfl
          have z0 := HP3.out.b1.frozen 0
          have z1 := HP3.out.b1.frozen 1
          go_wp2_with fail
          refine bodyPost_ret (results_cell_row3 rfl _ _ (w.heap.size + 1) 53 #[.int .i64 (n : Int), .slice A q c] (0, 0) _ rfl (HP3.out.fin _ _).1.out Try.underlying53 rfl (by kernel_rfl)) rfl ?_
          exact ⟨(HP3.out.fin _ _).2, by rw [if_neg HF.out, if_pos HH.out]; rfl⟩
        · have HH := Lib.hid hh
          have HD := Lib.hid (decide_eq_false hh)
          clear hh
          go_enter Try.func64, Try.ntmps64
          go_wp2_with fail
          refine Calls.mono (refis_any _ n A q c u) ?_
          rintro e w1 ⟨rfl, B1⟩
          rw [HU.out]
          have HP1 := Lib.hid (HP.out.below B1)
          clear HP B1 c0 c1
          have c0' := HP1.out.b0.at_ 0 rfl
          have c1' := HP1.out.b0.at_ 1 rfl
          have d0' := HP1.out.b1.at_ 0 rfl
          have d1' := HP1.out.b1.at_ 1 rfl
          have z0 := HP1.out.b1.frozen 0
          have z1 := HP1.out.b1.frozen 1
          go_wp2_with fail
          refine Calls.mono (refis_any _ n A q c v) ?_
          rintro e w2 ⟨rfl, B2⟩
          rw [HV.out]
          have HP2 := Lib.hid (HP1.out.below B2)
          clear HP1 B2 c0' c1' d0' d1' z0 z1
          have c0' := HP2.out.b0.at_ 0 rfl
          have c1' := HP2.out.b0.at_ 1 rfl
          have d0' := HP2.out.b1.at_ 0 rfl
          have d1' := HP2.out.b1.at_ 1 rfl
          have z0 := HP2.out.b1.frozen 0
          have z1 := HP2.out.b1.frozen 1
          go_wp2_with fail
          refine Calls.mono (refhas_any w2 n A q c E HQ.out hqc HCM.out (fun j hj => by obtain ⟨b, off, e1, e2, e3, e4⟩ := (HE.out.below HP2.out.low) j hj; exact ⟨b, off, e1, Nat.lt_of_lt_of_le e2 HP2.out.low.size, e3, e4⟩) u v) ?_
          rintro e w3 ⟨rfl, B3⟩
          rw [HD.out]
          have HP3 := Lib.hid (HP2.out.below B3)
          have HZ3 := Lib.hid (show w.heap.size + 2 ≤ w3.heap.size from HP3.out.b1.lt)
          clear HP2 B3 c0' c1' d0' d1' z0 z1
          go_wp2_with fail
          go_loopw [9, 10, 11] (fun l d i wr => ∃ (j m : Nat) (done : Bool) (El : List (Int × Int)), j ≤ q ∧ i = .int .i64 j ∧ d = .bool done ∧ (m ≤ j + 1 ∧ (done = false → m ≤ j)) ∧ Hid (m = El.length ∧ InsAt (u, v) E j done El ∧ PB w wr n A q c ∧ wr.ownsRow (w.heap.size + 2) 34 2 l m (ev El))) (fun _ _ i _ => q - (intOf i).toNat)
          case atStart => exact ⟨0, 0, false, [], Nat.zero_le _, rfl, rfl, ⟨by omega, fun _ => Nat.le_refl _⟩, Lib.hid ⟨rfl, InsAt.zero _ _, HP3.out, World.ownsRow_nil _ _ _ _⟩⟩
          case round =>
            obtain ⟨j, m, done, El, hj, rfl, rfl, hmj, HS⟩ := hrel
            clear HP3
            have HP4 := Lib.hid HS.out.2.2.1
            obtain ⟨hm1, hm2⟩ := hmj
            have hsz : w.heap.size + 2 ≤ wr.heap.size := HP4.out.b1.lt
            have HM := Lib.hid HS.out.1
            have HI := Lib.hid HS.out.2.1
            have HOW := Lib.hid HS.out.2.2.2
            have c1' : wr.cell? ⟨w.heap.size, 1, none⟩ = some (.slice A q c) := HP4.out.b0.at_ 1 rfl
            clear HS
            by_cases hlt : j < q
            · have hjl : j < E.length := by have := HQ.out; omega
              obtain ⟨b, off, rfl, hb, p1, p2⟩ := HE.out j hjl
              have q1 := (HP4.out.low.cell (p := ⟨b, _, none⟩) hb).trans p1
              have q2 := (HP4.out.low.cell (p := ⟨b, _, none⟩) hb).trans p2
              have hw1 : done = true → InsAt (u, v) E (j + 1) true (El ++ [E[j]]) := fun e => by subst e; exact HI.out.was hjl
              have hw2 : done = false → gtE E[j] (u, v) = false → InsAt (u, v) E (j + 1) false (El ++ [E[j]]) := fun e hg => by subst e; exact HI.out.on hjl hg
              have hw3 : done = false → gtE E[j] (u, v) = true → InsAt (u, v) E (j + 1) true (El ++ [(u, v)] ++ [E[j]]) := fun e hg => by subst e; exact HI.out.now hjl hg
              have HW1 := Lib.hid hw1
              have HW2 := Lib.hid hw2
              have HW3 := Lib.hid hw3
              clear hw1 hw2 hw3 HI p1 p2 hb
              generalize E[j] = x at *
              obtain ⟨xf, xt⟩ := x
              have i1 : (0 : Int) ≤ (j : Int) := by omega
              have i2 : (j : Int) < (q : Int) := by omega
              have HBX := Lib.hid (Blk.new_ wr 34 #[.int .i64 xf, .int .i64 xt] rfl)
              have a3 := HBX.out.at_ 0 rfl
              have a4 := HBX.out.at_ 1 rfl
              have HPa := Lib.hid (HP4.out.below ((Below.refl _ wr).alloc (Nat.le_refl _) (.cells #[.int .i64 xf, .int .i64 xt] 34)))
              have HOa := Lib.hid (HOW.out.alloc (.cells #[.int .i64 xf, .int .i64 xt] 34))
              have HU9 : Hid (∀ b0, u9.ownBlock = some b0 → w.heap.size + 2 ≤ b0 ∧ b0 < wr.heap.size) := Lib.hid (fun b0 hb0 => ⟨(own_row HOW.out hb0).1, by obtain ⟨_, cs, hb⟩ := own_row HOW.out hb0; exact hb.lt⟩)
              clear HOW HP4 hjl
              cases done
              · by_cases hgt : gtE (xf, xt) (u, v) = true
                · have HIN := Lib.hid (HW3.out rfl hgt)
                  clear HW1 HW2 HW3
                  have hgc : u < xf ∨ (xf = u ∧ v < xt) := by
                    unfold gtE at hgt
                    simp only [Bool.or_eq_true, Bool.and_eq_true, decide_eq_true_eq, beq_iff_eq] at hgt
                    exact hgt
                  clear hgt
                  have hm3 := hm2 rfl
                  have main : ∀ (W5 : World) (g5 cap5 : Nat), W5.ownsRow (w.heap.size + 2) 34 2 (.slice (some ⟨g5, 0, none⟩) (m + 1) cap5) (m + 1) (ev (El ++ [(u, v)])) → ((wr.alloc (.cells #[.int .i64 xf, .int .i64 xt] 34)).alloc (.cells #[.int .i64 u, .int .i64 v] 34)).grownBy W5 u9.ownBlock → PB w W5 n (some ⟨b, off, none⟩) q c ∧ Blk W5 wr.heap.size 34 #[.int .i64 xf, .int .i64 xt] ∧ wr.heap.size + 2 ≤ W5.heap.size := fun W5 g5 cap5 ho hg => by
                    refine ⟨(HPa.out.below ((Below.refl _ _).alloc (Nat.le_refl _) _)).grown hg (fun b0 hb0 => (HU9.out b0 hb0).1), (HBX.out.alloc _).grown hg (fun e => by have := (HU9.out _ e.symm).2; omega), ?_⟩
                    have := hg.size
                    simpa using this
                  have HMAIN := Lib.hid main
                  clear main
                  by_cases hg1 : u < xf
                  · clear hgc
                    go_wp2_with (at_builtin; refine wpList_edge rfl (.tmp 66) (.tmp 70) rfl (w.heap.size + 2) _ m El rfl (HOa.out.alloc _) (wr.heap.size + 1) (u, v) rfl (Blk.new_ _ _ _ (by simp)) (by omega) (by simp; omega) ?_)
                    intro g5 cap5 w5 ho5 hg5
                    obtain ⟨hP5, hB5, hs5⟩ := HMAIN.out w5 g5 cap5 ho5 hg5
                    have HP5 := Lib.hid hP5
                    have HO5 := Lib.hid ho5
                    have b3 := hB5.at_ 0 rfl
                    have b4 := hB5.at_ 1 rfl
                    clear hP5 ho5 hg5 hB5 HMAIN HOa HPa HU9 HBX a3 a4 q1 q2 c1'
                    go_wp2_with (at_builtin; refine wpList_edge rfl (.tmp 72) (.tmp 74) rfl (w.heap.size + 2) _ (m + 1) (El ++ [(u, v)]) rfl (HO5.out.alloc _) w5.heap.size (xf, xt) rfl (Blk.new_ _ _ _ (by simp)) (by omega) (by simp; omega) ?_)
                    intro g2 cap w7 ho7 hg7
                    have HN : Hid ((m + 1) + 1 = ((El ++ [(u, v)]) ++ [(xf, xt)]).length ∧ InsAt (u, v) E (j + 1) true ((El ++ [(u, v)]) ++ [(xf, xt)]) ∧ PB w w7 n (some ⟨b, off, none⟩) q c ∧ w7.ownsRow (w.heap.size + 2) 34 2 (.slice (some ⟨g2, 0, none⟩) ((m + 1) + 1) cap) ((m + 1) + 1) (ev ((El ++ [(u, v)]) ++ [(xf, xt)]))) := Lib.hid ⟨by rw [List.length_append]; have := HM.out; simp; omega, HIN.out, (HP5.out.below ((Below.refl _ _).alloc (Nat.le_refl _) _)).grown hg7 (fun b0 hb0 => (own_row HO5.out hb0).1), by first | exact ho7 | (rw [List.append_assoc]; exact ho7)⟩
                    clear ho7 hg7 HO5
                    go_wp2_with fail
                    go_roundw
                    case rel => exact ⟨j + 1, (m + 1) + 1, true, _, by omega, by go_num, rfl, ⟨by omega, fun h => by cases h⟩, HN⟩
                    case measure => simp [intOf]; omega
                  · have hg4 := hgc.resolve_left hg1
                    obtain ⟨he, hg3⟩ := hg4
                    have he2 : (xf == u) = true := by simpa using he
                    clear hgc he
                    go_wp2_with (at_builtin; refine wpList_edge rfl (.tmp 66) (.tmp 70) rfl (w.heap.size + 2) _ m El rfl (HOa.out.alloc _) (wr.heap.size + 1) (u, v) rfl (Blk.new_ _ _ _ (by simp)) (by omega) (by simp; omega) ?_)
                    intro g5 cap5 w5 ho5 hg5
                    obtain ⟨hP5, hB5, hs5⟩ := HMAIN.out w5 g5 cap5 ho5 hg5
                    have HP5 := Lib.hid hP5
                    have HO5 := Lib.hid ho5
                    have b3 := hB5.at_ 0 rfl
                    have b4 := hB5.at_ 1 rfl
                    clear hP5 ho5 hg5 hB5 HMAIN HOa HPa HU9 HBX a3 a4 q1 q2 c1'
                    go_wp2_with (at_builtin; refine wpList_edge rfl (.tmp 72) (.tmp 74) rfl (w.heap.size + 2) _ (m + 1) (El ++ [(u, v)]) rfl (HO5.out.alloc _) w5.heap.size (xf, xt) rfl (Blk.new_ _ _ _ (by simp)) (by omega) (by simp; omega) ?_)
                    intro g2 cap w7 ho7 hg7
                    have HN : Hid ((m + 1) + 1 = ((El ++ [(u, v)]) ++ [(xf, xt)]).length ∧ InsAt (u, v) E (j + 1) true ((El ++ [(u, v)]) ++ [(xf, xt)]) ∧ PB w w7 n (some ⟨b, off, none⟩) q c ∧ w7.ownsRow (w.heap.size + 2) 34 2 (.slice (some ⟨g2, 0, none⟩) ((m + 1) + 1) cap) ((m + 1) + 1) (ev ((El ++ [(u, v)]) ++ [(xf, xt)]))) := Lib.hid ⟨by rw [List.length_append]; have := HM.out; simp; omega, HIN.out, (HP5.out.below ((Below.refl _ _).alloc (Nat.le_refl _) _)).grown hg7 (fun b0 hb0 => (own_row HO5.out hb0).1), by first | exact ho7 | (rw [List.append_assoc]; exact ho7)⟩
                    clear ho7 hg7 HO5
                    go_wp2_with fail
                    go_roundw
                    case rel => exact ⟨j + 1, (m + 1) + 1, true, _, by omega, by go_num, rfl, ⟨by omega, fun h => by cases h⟩, HN⟩
                    case measure => simp [intOf]; omega
                · have hgf : gtE (xf, xt) (u, v) = false := by simpa using hgt
                  have HIN := Lib.hid (HW2.out rfl hgf)
                  have hgc : ¬ (u < xf) ∧ ¬ (xf = u ∧ v < xt) := by
                    unfold gtE at hgt
                    simp only [Bool.or_eq_true, Bool.and_eq_true, decide_eq_true_eq, beq_iff_eq] at hgt
                    exact ⟨fun h => hgt (.inl h), fun h => hgt (.inr h)⟩
                  obtain ⟨hg1, hg2⟩ := hgc
                  have hm3 := hm2 rfl
                  clear HW1 HW2 HW3 hgt hgf
                  by_cases he : xf = u
                  · have hg3 : ¬ v < xt := fun h => hg2 ⟨he, h⟩
                    have he2 : (xf == u) = true := by simpa using he
                    clear hg2 he
                    go_wp2_with (at_builtin; refine wpList_edge rfl (.tmp 72) (.tmp 74) rfl (w.heap.size + 2) _ m El rfl (HOa.out.alloc _) (wr.heap.size + 1) (xf, xt) rfl (Blk.new_ _ _ _ (by simp)) (by omega) (by simp; omega) ?_)
                    intro g2 cap w7 ho7 hg7
                    have HN : Hid (m + 1 = (El ++ [(xf, xt)]).length ∧ InsAt (u, v) E (j + 1) false (El ++ [(xf, xt)]) ∧ PB w w7 n (some ⟨b, off, none⟩) q c ∧ w7.ownsRow (w.heap.size + 2) 34 2 (.slice (some ⟨g2, 0, none⟩) (m + 1) cap) (m + 1) (ev (El ++ [(xf, xt)]))) := Lib.hid ⟨by rw [List.length_append]; have := HM.out; simp; omega, HIN.out, (HPa.out.below ((Below.refl _ _).alloc (Nat.le_refl _) _)).grown hg7 (fun b0 hb0 => (own_row HOa.out hb0).1), by first | exact ho7 | (rw [List.append_assoc]; exact ho7)⟩
                    clear ho7 hg7 HOa
                    go_wp2_with fail
                    go_roundw
                    case rel => exact ⟨j + 1, m + 1, false, _, by omega, by go_num, rfl, ⟨by omega, fun _ => by omega⟩, HN⟩
                    case measure => simp [intOf]; omega
                  · have he2 : (xf == u) = false := by simpa using he
                    clear hg2 he
                    go_wp2_with (at_builtin; refine wpList_edge rfl (.tmp 72) (.tmp 74) rfl (w.heap.size + 2) _ m El rfl (HOa.out.alloc _) (wr.heap.size + 1) (xf, xt) rfl (Blk.new_ _ _ _ (by simp)) (by omega) (by simp; omega) ?_)
                    intro g2 cap w7 ho7 hg7
                    have HN : Hid (m + 1 = (El ++ [(xf, xt)]).length ∧ InsAt (u, v) E (j + 1) false (El ++ [(xf, xt)]) ∧ PB w w7 n (some ⟨b, off, none⟩) q c ∧ w7.ownsRow (w.heap.size + 2) 34 2 (.slice (some ⟨g2, 0, none⟩) (m + 1) cap) (m + 1) (ev (El ++ [(xf, xt)]))) := Lib.hid ⟨by rw [List.length_append]; have := HM.out; simp; omega, HIN.out, (HPa.out.below ((Below.refl _ _).alloc (Nat.le_refl _) _)).grown hg7 (fun b0 hb0 => (own_row HOa.out hb0).1), by first | exact ho7 | (rw [List.append_assoc]; exact ho7)⟩
                    clear ho7 hg7 HOa
                    go_wp2_with fail
                    go_roundw
                    case rel => exact ⟨j + 1, m + 1, false, _, by omega, by go_num, rfl, ⟨by omega, fun _ => by omega⟩, HN⟩
                    case measure => simp [intOf]; omega
              · have HIN := Lib.hid (HW1.out rfl)
                clear HW1 HW2 HW3
                go_wp2_with (at_builtin; refine wpList_edge rfl (.tmp 72) (.tmp 74) rfl (w.heap.size + 2) _ m El rfl (HOa.out.alloc _) (wr.heap.size + 1) (xf, xt) rfl (Blk.new_ _ _ _ (by simp)) (by omega) (by simp; omega) ?_)
                intro g2 cap w7 ho7 hg7
                have HN : Hid (m + 1 = (El ++ [(xf, xt)]).length ∧ InsAt (u, v) E (j + 1) true (El ++ [(xf, xt)]) ∧ PB w w7 n (some ⟨b, off, none⟩) q c ∧ w7.ownsRow (w.heap.size + 2) 34 2 (.slice (some ⟨g2, 0, none⟩) (m + 1) cap) (m + 1) (ev (El ++ [(xf, xt)]))) := Lib.hid ⟨by rw [List.length_append]; have := HM.out; simp; omega, HIN.out, (HPa.out.below ((Below.refl _ _).alloc (Nat.le_refl _) _)).grown hg7 (fun b0 hb0 => (own_row HOa.out hb0).1), by first | exact ho7 | (rw [List.append_assoc]; exact ho7)⟩
                clear ho7 hg7 HOa
                go_wp2_with fail
                go_roundw
                case rel => exact ⟨j + 1, m + 1, true, _, by omega, by go_num, rfl, ⟨by omega, fun h => by cases h⟩, HN⟩
                case measure => simp [intOf]; omega
            · have hjq : j = q := by omega
              subst hjq
              cases done
              · have HI2 : Hid (El ++ [(u, v)] = insR (u, v) E) := Lib.hid (by
                  have h := HI.out
                  rw [HQ.out] at h
                  exact h.last)
                have HM2 : Hid (m = j) := Lib.hid (by
                  have h := congrArg List.length HI2.out
                  rw [Gr.insR_length, List.length_append] at h
                  have := HQ.out; have := HM.out
                  simp at h; omega)
                clear HI
                obtain rfl := HM2.out
                clear HM2
                go_wp2_with (at_builtin; refine wpList_edge rfl (.tmp 78) (.tmp 82) rfl (w.heap.size + 2) _ m El rfl (HOW.out.alloc _) wr.heap.size (u, v) rfl (Blk.new_ _ _ _ (by simp)) (by omega) (by simp; omega) ?_)
                intro g5 cap5 w5 ho5 hg5
                have HPF := Lib.hid ((HP4.out.below ((Below.refl _ wr).alloc (Nat.le_refl _) (.cells #[.int .i64 u, .int .i64 v] 34))).grown hg5 (fun b0 hb0 => (own_row HOW.out hb0).1))
                have HOF : Hid (w5.ownsRow (w.heap.size + 2) 34 2 (.slice (some ⟨g5, 0, none⟩) (m + 1) cap5) (m + 1) (ev (insR (u, v) E))) := Lib.hid (by rw [← HI2.out]; exact ho5)
                clear HI2 ho5 hg5 HOW HP4 c1'
                obtain ⟨s0, s1, s2⟩ := HPF.out.store (.slice (some ⟨g5, 0, none⟩) (m + 1) cap5)
                have x0 := HPF.out.b0.at_ 0 rfl
                have x1 := HPF.out.b0.at_ 1 rfl
                have x2 := HPF.out.b0.frozen 1
                have y0 := s0.at_ 0 rfl
                have y1 := s0.at_ 1 rfl
                have y2 := s1.at_ 0 rfl
                have y3 := s1.at_ 1 rfl
                have y4 := s1.frozen 0
                have y5 := s1.frozen 1
                clear s0 s1 s2
                go_wp2_with fail
                refine bodyPost_ret (results_cell_row3 rfl _ _ (w.heap.size + 1) 53 #[.int .i64 (n : Int), .slice (some ⟨g5, 0, none⟩) (m + 1) cap5] (0, 0) _ rfl (HPF.out.ends HOF.out).1.out Try.underlying53 rfl (by kernel_rfl)) rfl ?_
                exact ⟨(HPF.out.ends HOF.out).2.1, by rw [if_neg HF.out, if_neg HH.out]; exact ⟨(some ⟨g5, 0, none⟩), cap5, rfl, (HPF.out.ends HOF.out).2.2⟩⟩
              · have HI2 : Hid (El = insR (u, v) E) := Lib.hid (by
                  have h := HI.out
                  rw [HQ.out] at h
                  exact h.done_)
                have HM2 : Hid (m = j + 1) := Lib.hid (by
                  have h := congrArg List.length HI2.out
                  rw [Gr.insR_length] at h
                  have := HQ.out; have := HM.out
                  omega)
                clear HI
                obtain rfl := HM2.out
                clear HM2
                obtain ⟨A9, c9, h9⟩ := own_form HOW.out
                subst h9
                have HPF := HP4
                have HOF : Hid (wr.ownsRow (w.heap.size + 2) 34 2 (.slice A9 (j + 1) c9) (j + 1) (ev (insR (u, v) E))) := Lib.hid (by rw [← HI2.out]; exact HOW.out)
                clear HI2 HOW HP4 c1'
                obtain ⟨s0, s1, s2⟩ := HPF.out.store (.slice A9 (j + 1) c9)
                have x0 := HPF.out.b0.at_ 0 rfl
                have x1 := HPF.out.b0.at_ 1 rfl
                have x2 := HPF.out.b0.frozen 1
                have y0 := s0.at_ 0 rfl
                have y1 := s0.at_ 1 rfl
                have y2 := s1.at_ 0 rfl
                have y3 := s1.at_ 1 rfl
                have y4 := s1.frozen 0
                have y5 := s1.frozen 1
                clear s0 s1 s2
                go_wp2_with fail
                refine bodyPost_ret (results_cell_row3 rfl _ _ (w.heap.size + 1) 53 #[.int .i64 (n : Int), .slice A9 (j + 1) c9] (0, 0) _ rfl (HPF.out.ends HOF.out).1.out Try.underlying53 rfl (by kernel_rfl)) rfl ?_
                exact ⟨(HPF.out.ends HOF.out).2.1, by rw [if_neg HF.out, if_neg HH.out]; exact ⟨A9, c9, rfl, (HPF.out.ends HOF.out).2.2⟩⟩
    · have HF : Hid (canPut n u v = false) := Lib.hid (by unfold canPut; simp [Bool.eq_false_iff.2 hv])
      have HV := Lib.hid (Bool.eq_false_iff.2 hv)
      clear hu hv
      go_enter Try.func64, Try.ntmps64
      go_wp2_with fail
      refine Calls.mono (refis_any _ n A q c u) ?_
      rintro e w1 ⟨rfl, B1⟩
      rw [HU.out]
      have HP1 := Lib.hid (HP.out.below B1)
      clear HP B1 c0 c1
      have c0' := HP1.out.b0.at_ 0 rfl
      have c1' := HP1.out.b0.at_ 1 rfl
      have d0' := HP1.out.b1.at_ 0 rfl
      have d1' := HP1.out.b1.at_ 1 rfl
      have z0 := HP1.out.b1.frozen 0
      have z1 := HP1.out.b1.frozen 1
      go_wp2_with fail
      refine Calls.mono (refis_any _ n A q c v) ?_
      rintro e w2 ⟨rfl, B2⟩
      rw [HV.out]
      have HP2 := Lib.hid (HP1.out.below B2)
      clear HP1 B2 c0' c1' d0' d1' z0 z1
      have c0' := HP2.out.b0.at_ 0 rfl
      have c1' := HP2.out.b0.at_ 1 rfl
      have d0' := HP2.out.b1.at_ 0 rfl
      have d1' := HP2.out.b1.at_ 1 rfl
      have z0 := HP2.out.b1.frozen 0
      have z1 := HP2.out.b1.frozen 1
      go_wp2_with fail
      refine bodyPost_ret (results_cell_row3 rfl _ _ (w.heap.size + 1) 53 #[.int .i64 (n : Int), .slice A q c] (0, 0) _ rfl (HP2.out.fin _ _).1.out Try.underlying53 rfl (by kernel_rfl)) rfl ?_
      exact ⟨(HP2.out.fin _ _).2, by rw [if_pos HF.out]; rfl⟩
  · have HF : Hid (canPut n u v = false) := Lib.hid (by unfold canPut; simp [Bool.eq_false_iff.2 hu])
    have HU := Lib.hid (Bool.eq_false_iff.2 hu)
    clear hu
    go_enter Try.func64, Try.ntmps64
    go_wp2_with fail
    refine Calls.mono (refis_any _ n A q c u) ?_
    rintro e w1 ⟨rfl, B1⟩
    rw [HU.out]
    have HP1 := Lib.hid (HP.out.below B1)
    clear HP B1 c0 c1
    have c0' := HP1.out.b0.at_ 0 rfl
    have c1' := HP1.out.b0.at_ 1 rfl
    have d0' := HP1.out.b1.at_ 0 rfl
    have d1' := HP1.out.b1.at_ 1 rfl
    have z0 := HP1.out.b1.frozen 0
    have z1 := HP1.out.b1.frozen 1
    go_wp2_with fail
    refine bodyPost_ret (results_cell_row3 rfl _ _ (w.heap.size + 1) 53 #[.int .i64 (n : Int), .slice A q c] (0, 0) _ rfl (HP1.out.fin _ _).1.out Try.underlying53 rfl (by kernel_rfl)) rfl ?_
    exact ⟨(HP1.out.fin _ _).2, by rw [if_pos HF.out]; rfl⟩
end Go.Proofs.Ytelplccbcbegkaa.GrW

namespace Go.Proofs.Ytelplccbcbegkaa.Gr
/-- All edges but one. -/
def flt (u v : Int) (E : List (Int × Int)) : List (Int × Int) := E.filter fun x => !(x.1 == u && x.2 == v)
theorem flt_take {u v : Int} {E : List (Int × Int)} {j : Nat} (h : j < E.length) : flt u v (E.take (j + 1)) = flt u v (E.take j) ++ (if (E[j].1 == u && E[j].2 == v) = true then [] else [E[j]]) := by
  unfold flt
  rw [List.take_succ_eq_append_getElem h, List.filter_append]
  by_cases e : (E[j].1 == u && E[j].2 == v) = true
  · rw [if_pos e]; simp only [List.filter_cons, e]; simp
  · rw [if_neg e]
    have e' : (E[j].1 == u && E[j].2 == v) = false := by simpa using e
    simp only [List.filter_cons, e']; simp
end Go.Proofs.Ytelplccbcbegkaa.Gr
namespace Go.Proofs.Ytelplccbcbegkaa.GrW
set_option linter.unusedVariables false
open Go Go.RowKit Go.Proofs Go.Proofs.Ytelplccbcbegkaa Go.Proofs.Ytelplccbcbegkaa.Wd
open Go.Proofs.Ytelplccbcbegkaa.Gr (ev flt)
def RefCutOut (w : World) (n q : Nat) (E : List (Int × Int)) (u v : Int) (e : Ending) (w' : World) : Prop :=
  Below w.heap.size w w' ∧ ∃ A' m c', m = (flt u v E).length ∧ e = .returned (.tuple #[rv n A' m c', .bool (decide (m < q))]) ∧ w'.ownsRow w.heap.size 34 2 (.slice A' m c') m (ev (flt u v E))
end Go.Proofs.Ytelplccbcbegkaa.GrW

namespace Go.Proofs.Ytelplccbcbegkaa.Gr
/-- Where edges go to, and come from. -/
def rOut (v : Int) (E : List (Int × Int)) : List Int := (E.filter fun x => x.1 == v).map (·.2)
def rIn (v : Int) (E : List (Int × Int)) : List Int := (E.filter fun x => x.2 == v).map (·.1)
theorem rOut_take {v : Int} {E : List (Int × Int)} {j : Nat} (h : j < E.length) : rOut v (E.take (j + 1)) = rOut v (E.take j) ++ (if E[j].1 == v then [E[j].2] else []) := by
  unfold rOut
  rw [List.take_succ_eq_append_getElem h, List.filter_append, List.map_append]
  by_cases e : (E[j].1 == v) = true
  · simp only [List.filter_cons, e]; simp
  · have e' : (E[j].1 == v) = false := by simpa using e
    simp only [List.filter_cons, e']; simp
theorem rIn_take {v : Int} {E : List (Int × Int)} {j : Nat} (h : j < E.length) : rIn v (E.take (j + 1)) = rIn v (E.take j) ++ (if E[j].2 == v then [E[j].1] else []) := by
  unfold rIn
  rw [List.take_succ_eq_append_getElem h, List.filter_append, List.map_append]
  by_cases e : (E[j].2 == v) = true
  · simp only [List.filter_cons, e]; simp
  · have e' : (E[j].2 == v) = false := by simpa using e
    simp only [List.filter_cons, e']; simp
theorem rOut_le (v : Int) (E : List (Int × Int)) : (rOut v E).length ≤ E.length := by unfold rOut; rw [List.length_map]; exact List.length_filter_le _ _
theorem rIn_le (v : Int) (E : List (Int × Int)) : (rIn v E).length ≤ E.length := by unfold rIn; rw [List.length_map]; exact List.length_filter_le _ _
end Go.Proofs.Ytelplccbcbegkaa.Gr
namespace Go.Proofs.Ytelplccbcbegkaa.GrW
set_option linter.unusedVariables false
open Go Go.RowKit Go.Proofs Go.Proofs.Ytelplccbcbegkaa Go.Proofs.Ytelplccbcbegkaa.Wd
open Go.Proofs.Ytelplccbcbegkaa.Gr (ev rOut rIn)
/-- One box: the graph that came in. -/
structure PA (w wr : World) (n : Nat) (A : Option Addr) (q c : Nat) : Prop where
  low : Below w.heap.size w wr
  b0 : Blk wr w.heap.size 53 #[.int .i64 (n : Int), .slice A q c]
theorem PA.start (w : World) (n : Nat) (A : Option Addr) (q c : Nat) : PA w (w.alloc (.cells #[.int .i64 (n : Int), .slice A q c] 53)) n A q c := ⟨(Below.refl _ w).alloc (Nat.le_refl _) _, Blk.new_ w _ _ rfl⟩
theorem PA.below {w wr w' : World} {n : Nat} {A : Option Addr} {q c : Nat} (h : PA w wr n A q c) (hb : Below wr.heap.size wr w') : PA w w' n A q c := ⟨h.low.trans (hb.mono h.low.size), h.b0.below hb h.b0.lt⟩
theorem PA.grown {w wr w' : World} {n : Nat} {A : Option Addr} {q c : Nat} {r : Option Nat} (h : PA w wr n A q c) (hg : wr.grownBy w' r) (hr : ∀ b, r = some b → w.heap.size + 1 ≤ b) : PA w w' n A q c :=
  ⟨h.low.grown hg h.low.size (fun b e => by have := hr b e; omega), h.b0.grown hg (fun e => by have := hr _ e.symm; omega)⟩
end Go.Proofs.Ytelplccbcbegkaa.GrW

namespace Go.Proofs.Ytelplccbcbegkaa.Gr
set_option linter.unusedVariables false
/-- What is met from a vertex, so far. -/
structure RMet (n : Nat) (L : List (List Int)) (u : Nat) (met : List Bool) : Prop where
  len : met.length = n
  has : is met u = true
  sound : ∀ v, is met v = true → Path L u v
theorem RMet.step {n : Nat} {L : List (List Int)} {u : Nat} {met : List Bool} (h : RMet n L u met) {x y : Nat} (hx : is met x = true) (he : E L x y) (hy : y < n) : RMet n L u (met.set y true) := by
  have hlen := h.len
  refine ⟨by rw [List.length_set]; exact hlen, (mono_set (by omega)).2 u h.has, fun v hv => ?_⟩
  rw [is_set (by omega)] at hv
  by_cases e : v = y
  · subst e
    exact (h.sound x hx).trans (.step he (.refl _))
  · exact h.sound v (by simpa [e] using hv)
theorem RMet.closed {n : Nat} {L : List (List Int)} {u : Nat} {met : List Bool} (h : RMet n L u met) (hc : ∀ x y, E L x y → is met x = true → is met y = true) (v : Nat) : is met v = true ↔ Path L u v := by
  refine ⟨h.sound v, fun hp => ?_⟩
  have all : ∀ {a c : Nat}, Path L a c → is met a = true → is met c = true := by
    intro a c hp
    induction hp with
    | refl a => exact id
    | step he _ ih => exact fun ha => ih (hc _ _ he ha)
  exact all hp h.has
theorem RMet.start {n : Nat} {L : List (List Int)} {u : Nat} (hu : u < n) : RMet n L u ((List.replicate n false).set u true) := by
  refine ⟨by simp, by rw [is_set (by simpa using hu)]; simp, fun v hv => ?_⟩
  rw [is_set (by simpa using hu), is_none] at hv
  have : v = u := by simpa using hv
  subst this
  exact .refl _
theorem edge_of {n : Nat} {L : List (List Int)} (ok : OK n L) {i : Nat} (h : i < (edgesTo L n).length) : ∃ x y : Nat, (edgesTo L n)[i] = ((x : Int), (y : Int)) ∧ x < n ∧ y < n ∧ E L x y := by
  obtain ⟨u, hu, e1, h2⟩ := mem_edgesTo.1 (List.getElem_mem h)
  obtain ⟨h3, h4⟩ := ok.ins _ _ h2
  obtain ⟨v, hv⟩ : ∃ v : Nat, ((edgesTo L n)[i]).2 = v := ⟨((edgesTo L n)[i]).2.toNat, by omega⟩
  rw [hv] at h2 h4
  exact ⟨u, v, Prod.ext e1 hv, hu, by omega, h2⟩
end Go.Proofs.Ytelplccbcbegkaa.Gr
namespace Go.Proofs.Ytelplccbcbegkaa.GrW
set_option linter.unusedVariables false
open Go Go.RowKit Go.Proofs Go.Proofs.Ytelplccbcbegkaa Go.Proofs.Ytelplccbcbegkaa.Wd
open Go.Proofs.Ytelplccbcbegkaa.Gr (ev edgesTo OK RMet is un Path)
def notB : Value → Bool
  | .bool false => true
  | _ => false
def oneB : Value → Nat
  | .bool true => 1
  | _ => 0
/-- How many truth values of a block are false. -/
def unW (w : World) (g : Nat) : Nat := match w.heap[g]? with
  | some (.cells cs _ _) => cs.toList.countP notB
  | _ => 0
theorem unW_of {w : World} {g : Nat} {met : List Bool} (h : Blk w g 4 (bl met).toArray) : unW w g = un met := by
  unfold unW
  rw [h.out]
  show List.countP notB (bl met) = un met
  unfold un bl
  rw [List.countP_map]
  apply List.countP_congr
  intro b _
  cases b <;> simp [notB]
/-- While the document's search goes on. -/
structure FS (w wr : World) (n : Nat) (A : Option Addr) (q c : Nat) (L : List (List Int)) (u : Nat) (met : List Bool) : Prop where
  pa : PA w wr n A q c
  row : Blk wr (w.heap.size + 1) 4 (bl met).toArray
  met : RMet n L u met
theorem FS.store {w wr : World} {n : Nat} {A : Option Addr} {q c : Nat} {L : List (List Int)} {u : Nat} {met : List Bool} (h : FS w wr n A q c L u met) {x y : Nat} (hx : is met x = true) (he : Gr.E L x y) (hy : y < n) : FS w (wr.setCell ⟨w.heap.size + 1, y, none⟩ (.bool true)) n A q c L u (met.set y true) :=
  ⟨⟨h.pa.low.setCell (p := ⟨w.heap.size + 1, y, none⟩) (Nat.le_succ _) _, h.pa.b0.farN (by omega) _⟩, by rw [← bl_set]; exact h.row.set_ y _, h.met.step hx he hy⟩
def RefFromOut (w : World) (n : Nat) (L : List (List Int)) (u : Nat) (e : Ending) (w' : World) : Prop :=
  ∃ g met, e = .returned (.slice (some ⟨g, 0, none⟩) n n) ∧ Below w.heap.size w w' ∧ Blk w' g 4 (bl met).toArray ∧ met.length = n ∧ ∀ v, is met v = true ↔ Path L u v
set_option maxRecDepth 100000 in
set_option maxHeartbeats 4000000 in
theorem reffrom_any (w : World) (n : Nat) (hn : n ≤ 30000) (L : List (List Int)) (ok : OK n L) (A : Option Addr) (q c : Nat) (hq : q = (edgesTo L n).length) (hqc : q ≤ c) (hcm : c ≤ maxLen) (hbig : q ≤ 1000000) (hE : EdgesAt w w.heap.size A (edgesTo L n)) (u : Nat) (hu : u < n) : Calls Try.prog 75 #[rv n A q c, .int .i64 u] w (RefFromOut w n L u) := by
  have HP := Lib.hid (PA.start w n A q c)
  have HE := Lib.hid hE
  have HQ := Lib.hid hq
  have HOK := Lib.hid ok
  have HU := Lib.hid (Gr.isV_of hu)
  have hmk := make_bools n hn
  have c0 := (PA.start w n A q c).b0.at_ 0 rfl
  have c0' := ((PA.start w n A q c).b0.alloc (.cells (bl (List.replicate n false)).toArray 4)).at_ 0 rfl
  have c1' := ((PA.start w n A q c).b0.alloc (.cells (bl (List.replicate n false)).toArray 4)).at_ 1 rfl
  have i1 : (0 : Int) ≤ (u : Int) := by omega
  have i2 : (u : Int) < (n : Int) := by omega
  clear hE hq hcm ok
  unfold rv
  go_enter Try.func75, Try.ntmps75
  go_wp2_with fail
  refine Calls.mono (refis_any _ n A q c u) ?_
  rintro e w1 ⟨rfl, B1⟩
  rw [HU.out]
  have hb1 : Blk w1 (w.heap.size + 1) 4 (bl (List.replicate n false)).toArray := Blk.below (Blk.new_ (w.alloc (.cells #[.int .i64 (n : Int), .slice A q c] 53)) 4 (bl (List.replicate n false)).toArray (n := w.heap.size + 1) (by simp)) B1 (by simp)
  have hp1 := (HP.out.below ((Below.refl _ _).alloc (Nat.le_refl _) (.cells (bl (List.replicate n false)).toArray 4))).below B1
  have HF0 : Hid (FS w (w1.setCell ⟨w.heap.size + 1, u, none⟩ (.bool true)) n A q c L u ((List.replicate n false).set u true)) := Lib.hid ⟨⟨hp1.low.setCell (p := ⟨w.heap.size + 1, u, none⟩) (Nat.le_succ _) _, hp1.b0.farN (by omega) _⟩, by rw [← bl_set]; exact hb1.set_ u _, RMet.start hu⟩
  have a1 : w1.cell? ⟨w.heap.size + 1, u, none⟩ = some (.bool (is (List.replicate n false) u)) := hb1.at_ u (bl_at (by simpa using hu))
  have a2 : w1.frozen? ⟨w.heap.size + 1, u, none⟩ = false := hb1.frozen u
  clear HP B1 hb1 hp1 c0 c0' c1' hmk
  go_wp2_with fail
  clear a1 a2
  go_loopw [6] (fun v6 wr => ∃ (more : Bool) (met : List Bool), v6 = .bool more ∧ Hid (FS w wr n A q c L u met ∧ (more = false → ∀ x y, Gr.E L x y → is met x = true → is met y = true))) (fun v6 wr => 2 * unW wr (w.heap.size + 1) + oneB v6)
  case atStart => exact ⟨true, _, rfl, Lib.hid ⟨HF0.out, fun e => by cases e⟩⟩
  case round =>
    obtain ⟨more, met, rfl, HS⟩ := hrel
    clear HF0
    have HM0 := Lib.hid (unW_of HS.out.1.row)
    cases more
    · have HF : Hid (RefFromOut w n L u (.returned (.slice (some ⟨w.heap.size + 1, 0, none⟩) n n)) wr) := Lib.hid ⟨_, met, rfl, HS.out.1.pa.low, HS.out.1.row, HS.out.1.met.len, HS.out.1.met.closed (HS.out.2 rfl)⟩
      clear HS HM0
      go_wp2_with fail
      go_ret
      exact HF.out
    · generalize hW0 : wr = w0 at *
      clear hW0
      go_wp2_with fail
      go_loopw [6, 7] (fun v6 v7 wr => ∃ (j : Nat) (more : Bool) (met1 : List Bool), j ≤ q ∧ v7 = .int .i64 j ∧ v6 = .bool more ∧ Hid (FS w wr n A q c L u met1 ∧ (more = true → un met1 < un met) ∧ (more = false → un met1 ≤ un met ∧ ∀ (i : Nat) (x y : Nat) (h : i < (edgesTo L n).length), i < j → (edgesTo L n)[i] = ((x : Int), (y : Int)) → is met1 x = true → is met1 y = true))) (fun _ v7 _ => q - (intOf v7).toNat)
      case atStart => exact ⟨0, false, met, Nat.zero_le _, rfl, rfl, Lib.hid ⟨HS.out.1, fun e => (by cases e), fun _ => ⟨Nat.le_refl _, fun i x y h hi => (by omega)⟩⟩⟩
      case round =>
        obtain ⟨j, more, met1, hj, rfl, rfl, HT⟩ := hrel
        clear HS
        have d1 : wr.cell? ⟨w.heap.size, 1, none⟩ = some (.slice A q c) := HT.out.1.pa.b0.at_ 1 rfl
        by_cases hlt : j < q
        · have hjl : j < (edgesTo L n).length := by have := HQ.out; omega
          obtain ⟨b, off, rfl, hb, p1, p2⟩ := HE.out j hjl
          obtain ⟨x, y, hxy, hx, hy, hed⟩ := Gr.edge_of HOK.out hjl
          rw [hxy] at p1 p2
          have q1 := (HT.out.1.pa.low.cell (p := ⟨b, _, none⟩) hb).trans p1
          have q2 := (HT.out.1.pa.low.cell (p := ⟨b, _, none⟩) hb).trans p2
          have hlen := HT.out.1.met.len
          have m1 : wr.cell? ⟨w.heap.size + 1, x, none⟩ = some (.bool (is met1 x)) := HT.out.1.row.at_ x (bl_at (by omega))
          have m2 : wr.cell? ⟨w.heap.size + 1, y, none⟩ = some (.bool (is met1 y)) := HT.out.1.row.at_ y (bl_at (by omega))
          have j1 : (0 : Int) ≤ (j : Int) := by omega
          have j2 : (j : Int) < (q : Int) := by omega
          have j3 : (0 : Int) ≤ (x : Int) := by omega
          have j4 : (x : Int) < (n : Int) := by omega
          have j5 : (0 : Int) ≤ (y : Int) := by omega
          have j6 : (y : Int) < (n : Int) := by omega
          have HXY := Lib.hid hxy
          have hold : ∀ mx : Bool, (is met1 x = true → is met1 y = true) → Hid (FS w wr n (some ⟨b, off, none⟩) q c L u met1 ∧ (more = true → un met1 < un met) ∧ (more = false → un met1 ≤ un met ∧ ∀ (i : Nat) (x y : Nat) (h : i < (edgesTo L n).length), i < j + 1 → (edgesTo L n)[i] = ((x : Int), (y : Int)) → is met1 x = true → is met1 y = true)) := fun _ hk => Lib.hid ⟨HT.out.1, HT.out.2.1, fun e => ⟨(HT.out.2.2 e).1, fun i x' y' h hi he hm => by
            by_cases hij : i = j
            · subst hij
              rw [HXY.out] at he
              simp only [Prod.mk.injEq] at he
              have e1 : x = x' := by omega
              have e2 : y = y' := by omega
              subst e1; subst e2
              exact hk hm
            · exact (HT.out.2.2 e).2 i x' y' h (by omega) he hm⟩⟩
          have HOLD := Lib.hid hold
          clear p1 p2 hb hxy hold
          cases hmx : is met1 x
          · have HN := HOLD.out true (fun h => by rw [hmx] at h; cases h)
            rw [hmx] at m1
            clear HT HOLD hmx hed hlen
            go_wp2_with fail
            go_roundw
            case rel => exact ⟨j + 1, more, met1, by omega, by go_num, rfl, HN⟩
            case measure => simp [intOf]; omega
          · cases hmy : is met1 y
            · have hs := HT.out.1.store hmx hed hy
              have hun : un (met1.set y true) < un met1 := Gr.un_set (by omega) hmy
              have HN : Hid (FS w (wr.setCell ⟨w.heap.size + 1, y, none⟩ (.bool true)) n (some ⟨b, off, none⟩) q c L u (met1.set y true) ∧ (true = true → un (met1.set y true) < un met) ∧ (true = false → un (met1.set y true) ≤ un met ∧ ∀ (i : Nat) (x y_1 : Nat) (h : i < (edgesTo L n).length), i < j + 1 → (edgesTo L n)[i] = ((x : Int), (y_1 : Int)) → is (met1.set y true) x = true → is (met1.set y true) y_1 = true)) := Lib.hid ⟨hs, fun _ => (by
                cases more
                · have := (HT.out.2.2 rfl).1; omega
                · have := HT.out.2.1 rfl; omega), fun e => (by cases e)⟩
              have hz : wr.frozen? ⟨w.heap.size + 1, y, none⟩ = false := HT.out.1.row.frozen y
              rw [hmx] at m1
              rw [hmy] at m2
              clear HT HOLD hmx hmy hed hlen hs hun
              go_wp2_with fail
              go_roundw
              case rel => exact ⟨j + 1, true, _, by omega, by go_num, rfl, HN⟩
              case measure => simp [intOf]; omega
            · have HN := HOLD.out true (fun _ => hmy)
              rw [hmx] at m1
              rw [hmy] at m2
              clear HT HOLD hmx hmy hed hlen
              go_wp2_with fail
              go_roundw
              case rel => exact ⟨j + 1, more, met1, by omega, by go_num, rfl, HN⟩
              case measure => simp [intOf]; omega
        · have HN : Hid (FS w wr n A q c L u met1 ∧ (more = false → ∀ x y, Gr.E L x y → is met1 x = true → is met1 y = true)) := Lib.hid ⟨HT.out.1, fun e x y he hm => by
            obtain ⟨hx, hy⟩ := HOK.out.edge_lt he
            have hmem : ((x : Int), (y : Int)) ∈ edgesTo L n := Gr.mem_edgesTo.2 ⟨x, hx, rfl, he⟩
            obtain ⟨i, hi, hi2⟩ := List.getElem_of_mem hmem
            exact (HT.out.2.2 e).2 i x y hi (by have := HQ.out; omega) hi2 hm⟩
          have HMS : Hid (2 * unW wr (w.heap.size + 1) + oneB (.bool more) < 2 * unW w0 (w.heap.size + 1) + 1) := Lib.hid (by
            rw [HM0.out, unW_of HT.out.1.row]
            cases more
            · have := (HT.out.2.2 rfl).1; simp [oneB]; omega
            · have := HT.out.2.1 rfl; simp [oneB]; omega)
          clear HT HM0
          go_wp2_with fail
          go_roundw
          case rel => exact ⟨more, met1, rfl, HN⟩
          case measure =>
            have := HMS.out
            simpa [oneB] using this
theorem edges_more {w w' : World} {A : Option Addr} {E : List (Int × Int)} (h : EdgesAt w w.heap.size A E) (hb : Below w.heap.size w w') : EdgesAt w' w'.heap.size A E := fun j hj => by
  obtain ⟨b, off, e1, e2, e3, e4⟩ := (h.below hb) j hj
  exact ⟨b, off, e1, Nat.lt_of_lt_of_le e2 hb.size, e3, e4⟩
set_option maxRecDepth 100000 in
theorem refreach_any (w : World) (n : Nat) (hn : n ≤ 30000) (L : List (List Int)) (ok : OK n L) (A : Option Addr) (q c : Nat) (hq : q = (edgesTo L n).length) (hqc : q ≤ c) (hcm : c ≤ maxLen) (hbig : q ≤ 1000000) (hE : EdgesAt w w.heap.size A (edgesTo L n)) (x y : Int) : Calls Try.prog 63 #[rv n A q c, .int .i64 x, .int .i64 y] w (ReachOut w n L x y) := by
  have HP := Lib.hid (PA.start w n A q c)
  have HE := Lib.hid hE
  have HQ := Lib.hid hq
  have HOK := Lib.hid ok
  have HCM := Lib.hid hcm
  have c0 := (PA.start w n A q c).b0.at_ 0 rfl
  have c1 := (PA.start w n A q c).b0.at_ 1 rfl
  clear hE hq hcm ok
  unfold rv
  by_cases hx : isV n x = true
  · by_cases hy : isV n y = true
    · obtain ⟨u, rfl, hu⟩ := isV_nat hx
      obtain ⟨v, rfl, hv⟩ := isV_nat hy
      have HX := Lib.hid hx
      have HY := Lib.hid hy
      clear hx hy
      go_enter Try.func63, Try.ntmps63
      go_wp2_with fail
      refine Calls.mono (refis_any _ n A q c (u : Int)) ?_
      rintro e w1 ⟨rfl, B1⟩
      rw [HX.out]
      have HP1 := Lib.hid (HP.out.below B1)
      have d0 := HP1.out.b0.at_ 0 rfl
      have d1 := HP1.out.b0.at_ 1 rfl
      clear HP B1 c0 c1
      go_wp2_with fail
      refine Calls.mono (refis_any _ n A q c (v : Int)) ?_
      rintro e w2 ⟨rfl, B2⟩
      rw [HY.out]
      have HP2 := Lib.hid (HP1.out.below B2)
      have d2 := HP2.out.b0.at_ 0 rfl
      have d3 := HP2.out.b0.at_ 1 rfl
      clear HP1 B2 d0 d1
      go_wp2_with fail
      refine Calls.mono (reffrom_any w2 n hn L HOK.out A q c HQ.out hqc HCM.out hbig (edges_more HE.out HP2.out.low) u hu) ?_
      rintro e w3 ⟨g, met, rfl, B3, hb3, hl3, hm3⟩
      have c3 : w3.cell? ⟨g, v, none⟩ = some (.bool (Gr.is met v)) := hb3.at_ v (bl_at (by omega))
      have HF : Hid (ReachOut w n L u v (.returned (.bool (Gr.is met v))) w3) := Lib.hid ⟨_, rfl, (by
        rw [hm3]
        unfold reached
        rw [HX.out, HY.out]
        simp), HP2.out.low.trans (B3.mono HP2.out.low.size)⟩
      generalize Gr.is met v = b at *
      have i1 : (0 : Int) ≤ (v : Int) := by omega
      have i2 : (v : Int) < (n : Int) := by omega
      clear HP2 B3 hb3 hl3 hm3 d2 d3
      go_wp2_with fail
      go_ret
      exact HF.out
    · have HY := Lib.hid (Bool.eq_false_iff.2 hy)
      have HX := Lib.hid hx
      clear hx hy
      go_enter Try.func63, Try.ntmps63
      go_wp2_with fail
      refine Calls.mono (refis_any _ n A q c x) ?_
      rintro e w1 ⟨rfl, B1⟩
      rw [HX.out]
      have HP1 := Lib.hid (HP.out.below B1)
      have d0 := HP1.out.b0.at_ 0 rfl
      have d1 := HP1.out.b0.at_ 1 rfl
      clear HP B1 c0 c1
      go_wp2_with fail
      refine Calls.mono (refis_any _ n A q c y) ?_
      rintro e w2 ⟨rfl, B2⟩
      rw [HY.out]
      have HF : Hid (ReachOut w n L x y (.returned (.bool false)) w2) := Lib.hid ⟨_, rfl, (by
        unfold reached
        rw [HY.out]
        simp), (HP1.out.below B2).low⟩
      clear HP1 B2 d0 d1
      go_wp2_with fail
      go_ret
      exact HF.out
  · have HX := Lib.hid (Bool.eq_false_iff.2 hx)
    clear hx
    go_enter Try.func63, Try.ntmps63
    go_wp2_with fail
    refine Calls.mono (refis_any _ n A q c x) ?_
    rintro e w1 ⟨rfl, B1⟩
    rw [HX.out]
    have HF : Hid (ReachOut w n L x y (.returned (.bool false)) w1) := Lib.hid ⟨_, rfl, (by
      unfold reached
      rw [HX.out]
      simp), (HP.out.below B1).low⟩
    clear HP B1 c0 c1
    go_wp2_with fail
    go_ret
    exact HF.out
end Go.Proofs.Ytelplccbcbegkaa.GrW

namespace Go.Proofs.Ytelplccbcbegkaa.Gr
set_option linter.unusedVariables false
open Go.Proofs.Ytelplccbcbegkaa.GrW (isV hasE outE intoE canPut growL canGrow)

theorem gtE_iff {y x : Int × Int} : gtE y x = true ↔ x.1 < y.1 ∨ (y.1 = x.1 ∧ x.2 < y.2) := by
  unfold gtE
  simp only [Bool.or_eq_true, Bool.and_eq_true, decide_eq_true_eq, beq_iff_eq]
theorem gtE_trans {a b c : Int × Int} (h : gtE b a = true) (k : gtE c b = true) : gtE c a = true := by
  rw [gtE_iff] at *
  rcases h with h | h <;> rcases k with k | k
  · exact .inl (by omega)
  · exact .inl (by omega)
  · exact .inl (by omega)
  · exact .inr ⟨by omega, by omega⟩
theorem gtE_self (x : Int × Int) : gtE x x = false := by
  rw [← Bool.not_eq_true, gtE_iff]; omega
theorem gtE_asymm {a b : Int × Int} (h : gtE b a = true) : gtE a b = false := by
  rw [← Bool.not_eq_true]
  intro k
  have := gtE_trans h k
  rw [gtE_self] at this; cases this
theorem gtE_total {a b : Int × Int} (h1 : a ≠ b) (h2 : gtE b a = false) : gtE a b = true := by
  rw [← Bool.not_eq_true, gtE_iff] at h2
  rw [gtE_iff]
  by_cases e : a.1 = b.1
  · have : a.2 ≠ b.2 := fun e2 => h1 (Prod.ext e e2)
    exact .inr ⟨e, by omega⟩
  · exact .inl (by omega)
/-- Edges in their order. -/
def Up (E : List (Int × Int)) : Prop := E.Pairwise fun a b => gtE b a = true
theorem Up.ext : ∀ {a b : List (Int × Int)}, Up a → Up b → (∀ x, x ∈ a ↔ x ∈ b) → a = b
  | [], [], _, _, _ => rfl
  | [], y :: b, _, _, h => by have := (h y).2 (List.mem_cons_self ..); simp at this
  | x :: a, [], _, _, h => by have := (h x).1 (List.mem_cons_self ..); simp at this
  | x :: a, y :: b, ha, hb, h => by
    have pa := List.pairwise_cons.1 ha
    have pb := List.pairwise_cons.1 hb
    have e : x = y := by
      have h1 := (h x).1 (List.mem_cons_self ..)
      have h2 := (h y).2 (List.mem_cons_self ..)
      rw [List.mem_cons] at h1 h2
      rcases h1 with h1 | h1
      · exact h1
      · rcases h2 with h2 | h2
        · exact h2.symm
        · have e1 := pb.1 x h1
          have e2 := gtE_asymm (pa.1 y h2)
          rw [e1] at e2; cases e2
    subst e
    rw [Up.ext pa.2 pb.2 (fun z => by
      have := h z
      rw [List.mem_cons, List.mem_cons] at this
      constructor
      · intro hz
        exact (this.1 (.inr hz)).resolve_left (fun e => by have := pa.1 z hz; rw [e, gtE_self] at this; cases this)
      · intro hz
        exact (this.2 (.inr hz)).resolve_left (fun e => by have := pb.1 z hz; rw [e, gtE_self] at this; cases this))]
theorem edgesTo_up {n : Nat} {L : List (List Int)} (ok : OK n L) (k : Nat) : Up (edgesTo L k) := by
  induction k with
  | zero => exact List.Pairwise.nil
  | succ k ih =>
    rw [edgesTo_succ]
    refine List.pairwise_append.2 ⟨ih, ?_, fun a ha b hb => ?_⟩
    · rw [List.pairwise_map]
      exact (ok.rise (2 * k)).imp fun h => by rw [gtE_iff]; exact .inr ⟨rfl, h⟩
    · obtain ⟨u, hu, e1, -⟩ := mem_edgesTo.1 ha
      rw [List.mem_map] at hb
      obtain ⟨y, -, rfl⟩ := hb
      rw [gtE_iff]
      exact .inl (by show a.1 < (k : Int); omega)
theorem mem_insR {x y : Int × Int} {E : List (Int × Int)} : y ∈ insR x E ↔ y = x ∨ y ∈ E := by
  induction E with
  | nil => simp [insR]
  | cons z t ih =>
    unfold insR
    split
    · simp
    · rw [List.mem_cons, ih, List.mem_cons]
      constructor
      · rintro (h | h | h)
        · exact .inr (.inl h)
        · exact .inl h
        · exact .inr (.inr h)
      · rintro (h | h | h)
        · exact .inr (.inl h)
        · exact .inl h
        · exact .inr (.inr h)
theorem insR_up {x : Int × Int} {E : List (Int × Int)} (h : Up E) (hx : x ∉ E) : Up (insR x E) := by
  induction E with
  | nil => exact List.pairwise_singleton _ _
  | cons z t ih =>
    have hp := List.pairwise_cons.1 h
    unfold insR
    split
    · rename_i hg
      exact List.pairwise_cons.2 ⟨fun y hy => by
        rw [List.mem_cons] at hy
        rcases hy with rfl | hy
        · exact hg
        · exact gtE_trans hg (hp.1 y hy), h⟩
    · rename_i hg
      have hg : gtE z x = false := by simpa using hg
      refine List.pairwise_cons.2 ⟨fun y hy => ?_, ih hp.2 (fun e => hx (List.mem_cons_of_mem _ e))⟩
      rw [mem_insR] at hy
      rcases hy with rfl | hy
      · exact gtE_total (fun e => hx (by rw [← e]; exact List.mem_cons_self ..)) hg
      · exact hp.1 y hy
theorem mem_flt {u v : Int} {E : List (Int × Int)} {x : Int × Int} : x ∈ flt u v E ↔ x ∈ E ∧ x ≠ (u, v) := by
  unfold flt
  rw [List.mem_filter]
  refine and_congr_right fun _ => ?_
  rw [Bool.not_eq_true', ← Bool.not_eq_true, Bool.and_eq_true, beq_iff_eq, beq_iff_eq]
  exact not_congr ⟨fun h => Prod.ext h.1 h.2, fun h => by rw [h]; exact ⟨rfl, rfl⟩⟩
theorem mem_has {n : Nat} {L : List (List Int)} (ok : OK n L) {u v : Int} : (u, v) ∈ edgesTo L n ↔ hasE n L u v = true := by
  rw [mem_edgesTo]
  unfold hasE
  rw [Bool.and_eq_true, List.contains_iff_mem]
  constructor
  · rintro ⟨k, hk, e1, h2⟩
    have e1 : u = (k : Int) := e1
    subst e1
    exact ⟨isV_of hk, by rw [Int.toNat_natCast]; exact h2⟩
  · rintro ⟨h1, h2⟩
    obtain ⟨k, rfl, hk⟩ := GrW.isV_nat h1
    exact ⟨k, hk, rfl, by rw [Int.toNat_natCast] at h2; exact h2⟩
section
variable {n : Nat} {L : List (List Int)}
theorem tells_put (ok : OK n L) {a b : Nat} (ha : a < n) (hb : b < n) (hne : a ≠ b) (hh : hasE n L a b = false) : insR ((a : Int), (b : Int)) (edgesTo L n) = edgesTo (putL L a b) n := by
  have hno : ((a : Int), (b : Int)) ∉ edgesTo L n := fun e => by rw [mem_has ok, hh] at e; cases e
  refine (insR_up (edgesTo_up ok n) hno).ext (edgesTo_up (ok.put ha hb hne) n) fun x => ?_
  rw [mem_insR, mem_edgesTo, mem_edgesTo]
  constructor
  · rintro (rfl | ⟨u, hu, e1, h2⟩)
    · exact ⟨a, ha, rfl, (put_out ok ha hb a _).2 (.inr ⟨rfl, rfl⟩)⟩
    · exact ⟨u, hu, e1, (put_out ok ha hb u _).2 (.inl h2)⟩
  · rintro ⟨u, hu, e1, h2⟩
    rcases (put_out ok ha hb u _).1 h2 with h | ⟨rfl, h⟩
    · exact .inr ⟨u, hu, e1, h⟩
    · exact .inl (Prod.ext e1 h)
theorem tells_cut (ok : OK n L) {a b : Nat} (ha : a < n) (hb : b < n) : flt a b (edgesTo L n) = edgesTo (cutL L a b) n := by
  refine Up.ext (List.Pairwise.filter _ (edgesTo_up ok n)) (edgesTo_up (ok.cut ha hb) n) fun x => ?_
  rw [mem_flt, mem_edgesTo, mem_edgesTo]
  constructor
  · rintro ⟨⟨u, hu, e1, h2⟩, hne⟩
    exact ⟨u, hu, e1, (cut_out ok ha hb u _).2 ⟨h2, fun e => hne (Prod.ext (by rw [e1, e.1]) e.2)⟩⟩
  · rintro ⟨u, hu, e1, h2⟩
    obtain ⟨h3, h4⟩ := (cut_out ok ha hb u _).1 h2
    exact ⟨⟨u, hu, e1, h3⟩, fun e => h4 ⟨by have := congrArg Prod.fst e; rw [e1] at this; have : (u : Int) = (a : Int) := this; omega, congrArg Prod.snd e⟩⟩
/-- Cut at numbers that are no vertices leaves all. -/
theorem tells_uncut (ok : OK n L) {u v : Int} (h : (isV n u && isV n v) = false) : flt u v (edgesTo L n) = edgesTo L n := by
  unfold flt
  rw [List.filter_eq_self]
  intro x hx
  rw [Bool.not_eq_true', ← Bool.not_eq_true, Bool.and_eq_true, beq_iff_eq, beq_iff_eq]
  rintro ⟨e1, e2⟩
  obtain ⟨k, hk, e3, h4⟩ := mem_edgesTo.1 hx
  obtain ⟨h5, h6⟩ := ok.ins _ _ h4
  have : (isV n u && isV n v) = true := by
    unfold isV
    simp only [Bool.and_eq_true, decide_eq_true_eq]
    omega
  rw [h] at this; cases this
theorem flt_less {u v : Int} {E : List (Int × Int)} : decide ((flt u v E).length < E.length) = decide ((u, v) ∈ E) := by
  rw [Bool.eq_iff_iff, decide_eq_true_eq, decide_eq_true_eq]
  unfold flt
  constructor
  · intro h
    apply Classical.byContradiction
    intro hn
    have : E.filter (fun x => !(x.1 == u && x.2 == v)) = E := by
      rw [List.filter_eq_self]
      intro x hx
      rw [Bool.not_eq_true', ← Bool.not_eq_true, Bool.and_eq_true, beq_iff_eq, beq_iff_eq]
      rintro ⟨e1, e2⟩
      exact hn (by rw [← e1, ← e2]; exact hx)
    rw [this] at h
    omega
  · intro h
    exact List.length_filter_lt_length_iff_exists.2 ⟨(u, v), h, by simp⟩
theorem growL_getD (ok : OK n L) (m i : Nat) : (growL L m).getD i [] = L.getD i [] := by
  unfold growL
  simp only [List.getD]
  by_cases h : i < L.length
  · rw [List.getElem?_append_left h]
  · rw [List.getElem?_append_right (by omega), List.getElem?_eq_none (Nat.le_of_not_lt h)]
    by_cases h2 : i - L.length < 2 * m
    · simp [h2]
    · rw [List.getElem?_eq_none (by simp; omega)]
theorem OK.grow (ok : OK n L) (m : Nat) : OK (n + m) (growL L m) where
  len := by unfold growL; have := ok.len; simp; omega
  rise := fun i => by rw [growL_getD ok]; exact ok.rise i
  ins := fun i x hx => by rw [growL_getD ok] at hx; have := ok.ins i x hx; omega
  cons := fun u v hu hv => by
    unfold outs intos
    rw [growL_getD ok, growL_getD ok]
    by_cases h1 : u < n
    · by_cases h2 : v < n
      · exact ok.cons u v h1 h2
      · constructor
        · intro h; have := ok.ins _ _ h; omega
        · intro h
          have : L.getD (2 * v + 1) [] = [] := by simp only [List.getD]; rw [List.getElem?_eq_none (by have := ok.len; omega)]; rfl
          rw [this] at h; simp at h
    · constructor
      · intro h
        have : L.getD (2 * u) [] = [] := by simp only [List.getD]; rw [List.getElem?_eq_none (by have := ok.len; omega)]; rfl
        rw [this] at h; simp at h
      · intro h; have := ok.ins _ _ h; omega
  self := fun v hv h => by
    unfold outs at h
    rw [growL_getD ok] at h
    by_cases h1 : v < n
    · exact ok.self v h1 h
    · have := ok.ins _ _ h; omega
theorem tells_grow (ok : OK n L) (m : Nat) : edgesTo (growL L m) (n + m) = edgesTo L n := by
  refine (edgesTo_up (ok.grow m) (n + m)).ext (edgesTo_up ok n) fun x => ?_
  rw [mem_edgesTo, mem_edgesTo]
  unfold outs
  constructor
  · rintro ⟨u, hu, e1, h2⟩
    rw [growL_getD ok] at h2
    exact ⟨u, (ok.edge_lt (u := u) (v := x.2.toNat) (by
      unfold E
      have := ok.ins _ _ h2
      rw [Int.toNat_of_nonneg this.1]; exact h2)).1, e1, h2⟩
  · rintro ⟨u, hu, e1, h2⟩
    exact ⟨u, by omega, e1, by rw [growL_getD ok]; exact h2⟩
theorem tells_out (ok : OK n L) (v : Int) : rOut v (edgesTo L n) = outE n L v := by
  refine rising_ext ?_ ?_ fun x => ?_
  · unfold rOut
    rw [List.pairwise_map, List.pairwise_filter]
    refine (edgesTo_up ok n).imp fun {a b} h ha hb => ?_
    rw [gtE_iff] at h
    have ha : a.1 = v := by simpa using ha
    have hb : b.1 = v := by simpa using hb
    omega
  · unfold outE; split
    · exact ok.rise _
    · exact List.Pairwise.nil
  · unfold rOut
    rw [List.mem_map]
    have e : x ∈ outE n L v ↔ (v, x) ∈ edgesTo L n := by
      rw [mem_has ok]
      unfold outE hasE
      rw [Bool.and_eq_true, List.contains_iff_mem]
      split
      · rename_i h; simp [h]
      · rename_i h; simp [h]
    rw [e]
    constructor
    · rintro ⟨y, hy, rfl⟩
      rw [List.mem_filter] at hy
      have : y.1 = v := by simpa using hy.2
      rw [← this]; exact hy.1
    · intro h
      exact ⟨(v, x), by rw [List.mem_filter]; exact ⟨h, by simp⟩, rfl⟩
theorem tells_in (ok : OK n L) (v : Int) : rIn v (edgesTo L n) = intoE n L v := by
  refine rising_ext ?_ ?_ fun x => ?_
  · unfold rIn
    rw [List.pairwise_map, List.pairwise_filter]
    refine (edgesTo_up ok n).imp fun {a b} h ha hb => ?_
    rw [gtE_iff] at h
    have ha : a.2 = v := by simpa using ha
    have hb : b.2 = v := by simpa using hb
    omega
  · unfold intoE; split
    · exact ok.rise _
    · exact List.Pairwise.nil
  · have e : x ∈ intoE n L v ↔ (x, v) ∈ edgesTo L n := by
      rw [mem_edgesTo]
      unfold intoE
      constructor
      · intro h
        split at h
        · rename_i hv
          obtain ⟨k, rfl, hk⟩ := GrW.isV_nat hv
          rw [Int.toNat_natCast] at h
          obtain ⟨h1, h2⟩ := ok.ins _ _ h
          obtain ⟨y, rfl⟩ : ∃ y : Nat, x = y := ⟨x.toNat, by omega⟩
          exact ⟨y, by omega, rfl, (ok.cons y k (by omega) hk).2 h⟩
        · simp at h
      · rintro ⟨u, hu, e1, h2⟩
        have e1 : x = (u : Int) := e1
        subst e1
        have h2 : v ∈ outs L u := h2
        obtain ⟨h3, h4⟩ := ok.ins _ _ h2
        obtain ⟨k, rfl⟩ : ∃ k : Nat, v = k := ⟨v.toNat, by omega⟩
        rw [if_pos (isV_of (by omega)), Int.toNat_natCast]
        exact (ok.cons u k hu (by omega)).1 h2
    unfold rIn
    rw [List.mem_map, e]
    constructor
    · rintro ⟨y, hy, rfl⟩
      rw [List.mem_filter] at hy
      have : y.2 = v := by simpa using hy.2
      rw [← this]; exact hy.1
    · intro h
      exact ⟨(x, v), by rw [List.mem_filter]; exact ⟨h, by simp⟩, rfl⟩
end
end Go.Proofs.Ytelplccbcbegkaa.Gr
