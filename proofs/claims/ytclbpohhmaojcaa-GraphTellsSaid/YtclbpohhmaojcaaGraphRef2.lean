/-
  The walk of the document's own Put.
-/
import Derived.Test.YtclbpohhmaojcaaGraphRef1
namespace Go.Proofs.Ytclbpohhmaojcaa.Gr
/-- An edge behind another one, by From, then by To. -/
def gtE (y x : Int × Int) : Bool := decide (x.1 < y.1) || (y.1 == x.1 && decide (x.2 < y.2))
/-- An edge more, where it stands. -/
def insR (x : Int × Int) : List (Int × Int) → List (Int × Int)
  | [] => [x]
  | y :: t => if gtE y x then x :: y :: t else y :: insR x t
/-- What is put so far. -/
def InsAt (x : Int × Int) (E : List (Int × Int)) (j : Nat) (done : Bool) (l : List (Int × Int)) : Prop := insR x E = l ++ (if done then E.drop j else insR x (E.drop j))
theorem InsAt.zero (x : Int × Int) (E : List (Int × Int)) : InsAt x E 0 false [] := by unfold InsAt; simp
theorem InsAt.was {x : Int × Int} {E l : List (Int × Int)} {j : Nat} (h : InsAt x E j true l) (hj : j < E.length) : InsAt x E (j + 1) true (l ++ [E[j]]) := by
  unfold InsAt at *
  rw [h]
  simp only [if_true]
  rw [List.drop_eq_getElem_cons hj]; simp
theorem InsAt.on {x : Int × Int} {E l : List (Int × Int)} {j : Nat} (h : InsAt x E j false l) (hj : j < E.length) (hg : gtE E[j] x = false) : InsAt x E (j + 1) false (l ++ [E[j]]) := by
  unfold InsAt at *
  rw [h]
  simp only [Bool.false_eq_true, if_false]
  rw [List.drop_eq_getElem_cons hj, insR, hg]; simp
theorem InsAt.now {x : Int × Int} {E l : List (Int × Int)} {j : Nat} (h : InsAt x E j false l) (hj : j < E.length) (hg : gtE E[j] x = true) : InsAt x E (j + 1) true (l ++ [x] ++ [E[j]]) := by
  unfold InsAt at *
  rw [h]
  simp only [Bool.false_eq_true, if_false, if_true]
  rw [List.drop_eq_getElem_cons hj, insR, hg]; simp
theorem InsAt.done_ {x : Int × Int} {E l : List (Int × Int)} (h : InsAt x E E.length true l) : l = insR x E := by
  unfold InsAt at h; rw [h]; simp
theorem InsAt.last {x : Int × Int} {E l : List (Int × Int)} (h : InsAt x E E.length false l) : l ++ [x] = insR x E := by
  unfold InsAt at h; rw [h]; simp [insR]
theorem insR_length (x : Int × Int) (E : List (Int × Int)) : (insR x E).length = E.length + 1 := by
  induction E with
  | nil => rfl
  | cons y t ih => unfold insR; split <;> simp [ih]
end Go.Proofs.Ytclbpohhmaojcaa.Gr
namespace Go.Proofs.Ytclbpohhmaojcaa.GrW
set_option linter.unusedVariables false
open Go Go.RowKit Go.Proofs Go.Proofs.Ytclbpohhmaojcaa Go.Proofs.Ytclbpohhmaojcaa.Wd
open Go.Proofs.Ytclbpohhmaojcaa.Gr (ev gtE insR InsAt)

/-- One edge more at the end of an own row. -/
theorem wpList_edge {W : World} {ops : Array Oper} {rest : List Oper} {o : Oper} {a : Act} {Q : Exit → Act → World → Prop} (hgd : o.guard = none) (s x : Operand) (ho : o.op = .call { callee := .builtin .append, args := #[s, x], argTypes := #[22, 22] })
    (base : Nat) (ov : Value) (m : Nat) (E : List (Int × Int)) (hs : a.eval s = ov) (hown : W.ownsRow base 32 2 ov m (ev E)) (b : Nat) (y : Int × Int) (hx : a.eval x = .slice (some ⟨b, 0, none⟩) 1 1) (hb : Blk W b 32 #[.int .i64 y.1, .int .i64 y.2]) (hl : m ≤ 1000000000) (hbase : base ≤ W.heap.size)
    (h : ∀ g cap w', w'.ownsRow base 32 2 (.slice (some ⟨g, 0, none⟩) (m + 1) cap) (m + 1) (ev (E ++ [y])) → W.grownBy w' ov.ownBlock → wpList Try.prog ops Q rest (a.put o.dst (.slice (some ⟨g, 0, none⟩) (m + 1) cap)) w') : wpList Try.prog ops Q (o :: rest) a W := by
  obtain ⟨i0, hi0, hz0, hz1, hz2⟩ := info_parts infoEdge
  refine wpList_append_lies W hgd s x 22 ho base 32 i0 _ 2 16 Try.underlying22 hi0 hz0 hz1 hz2 rfl (by omega) ov m (ev E) hs hown ⟨b, 0, none⟩ 1 1 [.int .i64 y.1, .int .i64 y.2] hx rfl (World.news_of_block hb.out) (by intro u hu; simp at hu; rcases hu with rfl | rfl <;> rfl) (by omega) (by unfold maxLen; omega) (by omega) hbase W.heap.size rfl fun g cap w' h1 h2 _ _ => h g cap w' (by rw [Gr.ev_append]; exact h1) h2
def RefPutOut (w : World) (n : Nat) (A : Option Addr) (q c : Nat) (E : List (Int × Int)) (u v : Int) (e : Ending) (w' : World) : Prop :=
  Below w.heap.size w w' ∧ if canPut n u v = false then e = .returned (.tuple #[rv n A q c, .bool false, .int .i64 2]) else if (u, v) ∈ E then e = .returned (.tuple #[rv n A q c, .bool false, .int .i64 0]) else ∃ A' c', e = .returned (.tuple #[rv n A' (q + 1) c', .bool true, .int .i64 0]) ∧ w'.ownsRow w.heap.size 32 2 (.slice A' (q + 1) c') (q + 1) (ev (insR (u, v) E))
/-- The boxes of Put: the graph that came in, the one that is answered. -/
structure PB (w wr : World) (n : Nat) (A : Option Addr) (q c : Nat) : Prop where
  low : Below w.heap.size w wr
  b0 : Blk wr w.heap.size 52 #[.int .i64 (n : Int), .slice A q c]
  b1 : Blk wr (w.heap.size + 1) 52 #[.int .i64 0, .slice none 0 0]
theorem PB.below {w wr w' : World} {n : Nat} {A : Option Addr} {q c : Nat} (h : PB w wr n A q c) (hb : Below wr.heap.size wr w') : PB w w' n A q c := ⟨h.low.trans (hb.mono h.low.size), h.b0.below hb h.b0.lt, h.b1.below hb h.b1.lt⟩
theorem PB.grown {w wr w' : World} {n : Nat} {A : Option Addr} {q c : Nat} {r : Option Nat} (h : PB w wr n A q c) (hg : wr.grownBy w' r) (hr : ∀ b, r = some b → w.heap.size + 2 ≤ b) : PB w w' n A q c :=
  ⟨h.low.grown hg h.low.size (fun b e => by have := hr b e; omega), h.b0.grown hg (fun e => by have := hr _ e.symm; omega), h.b1.grown hg (fun e => by have := hr _ e.symm; omega)⟩
theorem PB.fin {w wr : World} {n : Nat} {A : Option Addr} {q c : Nat} (h : PB w wr n A q c) (x y : Value) : Blk ((wr.setCell ⟨w.heap.size + 1, 0, none⟩ x).setCell ⟨w.heap.size + 1, 1, none⟩ y) (w.heap.size + 1) 52 #[x, y] ∧ Below w.heap.size w ((wr.setCell ⟨w.heap.size + 1, 0, none⟩ x).setCell ⟨w.heap.size + 1, 1, none⟩ y) :=
  ⟨(h.b1.set_ 0 x).set_ 1 y, (h.low.setCell (p := ⟨w.heap.size + 1, 0, none⟩) (Nat.le_succ _) x).setCell (p := ⟨w.heap.size + 1, 1, none⟩) (Nat.le_succ _) y⟩
theorem PB.store {w wr : World} {n : Nat} {A : Option Addr} {q c : Nat} (h : PB w wr n A q c) (V : Value) : Blk (wr.setCell ⟨w.heap.size, 1, none⟩ V) w.heap.size 52 #[.int .i64 (n : Int), V] ∧ Blk (wr.setCell ⟨w.heap.size, 1, none⟩ V) (w.heap.size + 1) 52 #[.int .i64 0, .slice none 0 0] ∧ Below w.heap.size w (wr.setCell ⟨w.heap.size, 1, none⟩ V) :=
  ⟨h.b0.set_ 1 V, h.b1.farN (by omega) V, h.low.setCell (p := ⟨w.heap.size, 1, none⟩) (Nat.le_refl _) V⟩
/-- What is answered: the result's cells behind all. -/
theorem PB.ends {w wr : World} {n : Nat} {A : Option Addr} {q c : Nat} (h : PB w wr n A q c) {V : Value} {m : Nat} {xs : List Value} (ho : wr.ownsRow (w.heap.size + 2) 32 2 V m xs) :
    Blk (((wr.setCell ⟨w.heap.size, 1, none⟩ V).setCell ⟨w.heap.size + 1, 0, none⟩ (.int .i64 (n : Int))).setCell ⟨w.heap.size + 1, 1, none⟩ V) (w.heap.size + 1) 52 #[.int .i64 (n : Int), V] ∧ Below w.heap.size w (((wr.setCell ⟨w.heap.size, 1, none⟩ V).setCell ⟨w.heap.size + 1, 0, none⟩ (.int .i64 (n : Int))).setCell ⟨w.heap.size + 1, 1, none⟩ V) ∧ (((wr.setCell ⟨w.heap.size, 1, none⟩ V).setCell ⟨w.heap.size + 1, 0, none⟩ (.int .i64 (n : Int))).setCell ⟨w.heap.size + 1, 1, none⟩ V).ownsRow w.heap.size 32 2 V m xs := by
  obtain ⟨h1, h2, h3⟩ := h.store V
  have far : ∀ p : Addr, p.block < w.heap.size + 2 → V.ownBlock ≠ some p.block := fun p hp e => by have := (own_row ho e).1; omega
  exact ⟨(h2.set_ 0 _).set_ 1 _, (h3.setCell (p := ⟨w.heap.size + 1, 0, none⟩) (Nat.le_succ _) _).setCell (p := ⟨w.heap.size + 1, 1, none⟩) (Nat.le_succ _) _, own_base (own_far (own_far (own_far ho (far ⟨w.heap.size, 1, none⟩ (by show w.heap.size < _; omega)) _) (far ⟨w.heap.size + 1, 0, none⟩ (by show w.heap.size + 1 < _; omega)) _) (far ⟨w.heap.size + 1, 1, none⟩ (by show w.heap.size + 1 < _; omega)) _) (by omega)⟩
set_option maxRecDepth 100000 in
set_option maxHeartbeats 8000000 in
theorem refput_any (w : World) (n : Nat) (A : Option Addr) (q c : Nat) (E : List (Int × Int)) (hq : q = E.length) (hqc : q ≤ c) (hcm : c ≤ maxLen) (hbig : q ≤ 1000000) (hE : EdgesAt w w.heap.size A E) (u v : Int) : Calls Try.prog 26 #[rv n A q c, .int .i64 u, .int .i64 v] w (RefPutOut w n A q c E u v) := by
  have hP : PB w ((w.alloc (.cells #[.int .i64 (n : Int), .slice A q c] 52)).alloc (.cells #[.int .i64 0, .slice none 0 0] 52)) n A q c := ⟨((Below.refl _ w).alloc (Nat.le_refl _) _).alloc (by simp) _, (Blk.new_ w _ _ rfl).alloc _, Blk.new_ _ _ _ (by simp)⟩
  have HP := Lib.hid hP
  have c0 := hP.b0.at_ 0 rfl
  have c1 := hP.b0.at_ 1 rfl
  have HE := Lib.hid hE
  have HQ := Lib.hid hq
  have HCM := Lib.hid hcm
  clear hP hE hq hcm
  unfold rv
  by_cases hu : isV n u = true
  · have HU := Lib.hid hu
    by_cases hv : isV n v = true
    · have HV := Lib.hid hv
      by_cases huv : u = v
      · have HF : Hid (canPut n u v = false) := Lib.hid (by unfold canPut; simp [huv])
        subst huv
        clear hu hv
        go_enter Try.func26, Try.ntmps26
        go_wp2_with fail
        refine Calls.mono (refis_any _ n A q c u) ?_
        rintro e w1 ⟨rfl, B1⟩
        rw [HU.out]
        have HP1 := Lib.hid (HP.out.below B1)
        clear HP B1 c0 c1
        have c0' := HP1.out.b0.at_ 0 rfl
        have c1' := HP1.out.b0.at_ 1 rfl
        have d0' := HP1.out.b1.at_ 0 rfl
        have d1' := HP1.out.b1.at_ 1 rfl
        have z0 := HP1.out.b1.frozen 0
        have z1 := HP1.out.b1.frozen 1
        go_wp2_with fail
        refine Calls.mono (refis_any _ n A q c u) ?_
        rintro e w2 ⟨rfl, B2⟩
        rw [HV.out]
        have HP2 := Lib.hid (HP1.out.below B2)
        clear HP1 B2 c0' c1' d0' d1' z0 z1
        have c0' := HP2.out.b0.at_ 0 rfl
        have c1' := HP2.out.b0.at_ 1 rfl
        have d0' := HP2.out.b1.at_ 0 rfl
        have d1' := HP2.out.b1.at_ 1 rfl
        have z0 := HP2.out.b1.frozen 0
        have z1 := HP2.out.b1.frozen 1
        go_wp2_with fail
        refine bodyPost_ret (results_cell_row3 rfl _ _ (w.heap.size + 1) 52 #[.int .i64 (n : Int), .slice A q c] (0, 0) _ rfl (HP2.out.fin _ _).1.out Try.underlying52 rfl (by kernel_rfl)) rfl ?_
        exact ⟨(HP2.out.fin _ _).2, by rw [if_pos HF.out]; rfl⟩
      · have HF : Hid (¬ canPut n u v = false) := Lib.hid (by unfold canPut; simp [hu, hv, huv])
        have huv' : (u == v) = false := by simpa using huv
        clear hu hv
        by_cases hh : (u, v) ∈ E
        · have HH := Lib.hid hh
          have HD := Lib.hid (decide_eq_true hh)
          clear hh
          go_enter Try.func26, Try.ntmps26
          go_wp2_with fail
          refine Calls.mono (refis_any _ n A q c u) ?_
          rintro e w1 ⟨rfl, B1⟩
          rw [HU.out]
          have HP1 := Lib.hid (HP.out.below B1)
          clear HP B1 c0 c1
          have c0' := HP1.out.b0.at_ 0 rfl
          have c1' := HP1.out.b0.at_ 1 rfl
          have d0' := HP1.out.b1.at_ 0 rfl
          have d1' := HP1.out.b1.at_ 1 rfl
          have z0 := HP1.out.b1.frozen 0
          have z1 := HP1.out.b1.frozen 1
          go_wp2_with fail
          refine Calls.mono (refis_any _ n A q c v) ?_
          rintro e w2 ⟨rfl, B2⟩
          rw [HV.out]
          have HP2 := Lib.hid (HP1.out.below B2)
          clear HP1 B2 c0' c1' d0' d1' z0 z1
          have c0' := HP2.out.b0.at_ 0 rfl
          have c1' := HP2.out.b0.at_ 1 rfl
          have d0' := HP2.out.b1.at_ 0 rfl
          have d1' := HP2.out.b1.at_ 1 rfl
          have z0 := HP2.out.b1.frozen 0
          have z1 := HP2.out.b1.frozen 1
          go_wp2_with fail
          refine Calls.mono (refhas_any w2 n A q c E HQ.out hqc HCM.out (fun j hj => by obtain ⟨b, off, e1, e2, e3, e4⟩ := (HE.out.below HP2.out.low) j hj; exact ⟨b, off, e1, Nat.lt_of_lt_of_le e2 HP2.out.low.size, e3, e4⟩) u v) ?_
          rintro e w3 ⟨rfl, B3⟩
          rw [HD.out]
          have HP3 := Lib.hid (HP2.out.below B3)
          clear HP2 B3 c0' c1' d0' d1' z0 z1
          have c0' := HP3.out.b0.at_ 0 rfl
          have c1' := HP3.out.b0.at_ 1 rfl
          have d0' := HP3.out.b1.at_ 0 rfl
          have d1' := HP3.out.b1.at_ 1 rfl
          have z0 := HP3.out.b1.frozen 0
          have z1 := HP3.out.b1.frozen 1
          go_wp2_with fail
          refine bodyPost_ret (results_cell_row3 rfl _ _ (w.heap.size + 1) 52 #[.int .i64 (n : Int), .slice A q c] (0, 0) _ rfl (HP3.out.fin _ _).1.out Try.underlying52 rfl (by kernel_rfl)) rfl ?_
          exact ⟨(HP3.out.fin _ _).2, by rw [if_neg HF.out, if_pos HH.out]; rfl⟩
        · have HH := Lib.hid hh
          have HD := Lib.hid (decide_eq_false hh)
          clear hh
          go_enter Try.func26, Try.ntmps26
          go_wp2_with fail
          refine Calls.mono (refis_any _ n A q c u) ?_
          rintro e w1 ⟨rfl, B1⟩
          rw [HU.out]
          have HP1 := Lib.hid (HP.out.below B1)
          clear HP B1 c0 c1
          have c0' := HP1.out.b0.at_ 0 rfl
          have c1' := HP1.out.b0.at_ 1 rfl
          have d0' := HP1.out.b1.at_ 0 rfl
          have d1' := HP1.out.b1.at_ 1 rfl
          have z0 := HP1.out.b1.frozen 0
          have z1 := HP1.out.b1.frozen 1
          go_wp2_with fail
          refine Calls.mono (refis_any _ n A q c v) ?_
          rintro e w2 ⟨rfl, B2⟩
          rw [HV.out]
          have HP2 := Lib.hid (HP1.out.below B2)
          clear HP1 B2 c0' c1' d0' d1' z0 z1
          have c0' := HP2.out.b0.at_ 0 rfl
          have c1' := HP2.out.b0.at_ 1 rfl
          have d0' := HP2.out.b1.at_ 0 rfl
          have d1' := HP2.out.b1.at_ 1 rfl
          have z0 := HP2.out.b1.frozen 0
          have z1 := HP2.out.b1.frozen 1
          go_wp2_with fail
          refine Calls.mono (refhas_any w2 n A q c E HQ.out hqc HCM.out (fun j hj => by obtain ⟨b, off, e1, e2, e3, e4⟩ := (HE.out.below HP2.out.low) j hj; exact ⟨b, off, e1, Nat.lt_of_lt_of_le e2 HP2.out.low.size, e3, e4⟩) u v) ?_
          rintro e w3 ⟨rfl, B3⟩
          rw [HD.out]
          have HP3 := Lib.hid (HP2.out.below B3)
          have HZ3 := Lib.hid (show w.heap.size + 2 ≤ w3.heap.size from HP3.out.b1.lt)
          clear HP2 B3 c0' c1' d0' d1' z0 z1
          go_wp2_with fail
          go_loopw [9, 10, 11] (fun l d i wr => ∃ (j m : Nat) (done : Bool) (El : List (Int × Int)), j ≤ q ∧ i = .int .i64 j ∧ d = .bool done ∧ (m ≤ j + 1 ∧ (done = false → m ≤ j)) ∧ Hid (m = El.length ∧ InsAt (u, v) E j done El ∧ PB w wr n A q c ∧ wr.ownsRow (w.heap.size + 2) 32 2 l m (ev El))) (fun _ _ i _ => q - (intOf i).toNat)
          case atStart => exact ⟨0, 0, false, [], Nat.zero_le _, rfl, rfl, ⟨by omega, fun _ => Nat.le_refl _⟩, Lib.hid ⟨rfl, InsAt.zero _ _, HP3.out, World.ownsRow_nil _ _ _ _⟩⟩
          case round =>
            obtain ⟨j, m, done, El, hj, rfl, rfl, hmj, HS⟩ := hrel
            clear HP3
            have HP4 := Lib.hid HS.out.2.2.1
            obtain ⟨hm1, hm2⟩ := hmj
            have hsz : w.heap.size + 2 ≤ wr.heap.size := HP4.out.b1.lt
            have HM := Lib.hid HS.out.1
            have HI := Lib.hid HS.out.2.1
            have HOW := Lib.hid HS.out.2.2.2
            have c1' : wr.cell? ⟨w.heap.size, 1, none⟩ = some (.slice A q c) := HP4.out.b0.at_ 1 rfl
            clear HS
            by_cases hlt : j < q
            · have hjl : j < E.length := by have := HQ.out; omega
              obtain ⟨b, off, rfl, hb, p1, p2⟩ := HE.out j hjl
              have q1 := (HP4.out.low.cell (p := ⟨b, _, none⟩) hb).trans p1
              have q2 := (HP4.out.low.cell (p := ⟨b, _, none⟩) hb).trans p2
              have hw1 : done = true → InsAt (u, v) E (j + 1) true (El ++ [E[j]]) := fun e => by subst e; exact HI.out.was hjl
              have hw2 : done = false → gtE E[j] (u, v) = false → InsAt (u, v) E (j + 1) false (El ++ [E[j]]) := fun e hg => by subst e; exact HI.out.on hjl hg
              have hw3 : done = false → gtE E[j] (u, v) = true → InsAt (u, v) E (j + 1) true (El ++ [(u, v)] ++ [E[j]]) := fun e hg => by subst e; exact HI.out.now hjl hg
              have HW1 := Lib.hid hw1
              have HW2 := Lib.hid hw2
              have HW3 := Lib.hid hw3
              clear hw1 hw2 hw3 HI p1 p2 hb
              generalize E[j] = x at *
              obtain ⟨xf, xt⟩ := x
              have i1 : (0 : Int) ≤ (j : Int) := by omega
              have i2 : (j : Int) < (q : Int) := by omega
              have HBX := Lib.hid (Blk.new_ wr 32 #[.int .i64 xf, .int .i64 xt] rfl)
              have a3 := HBX.out.at_ 0 rfl
              have a4 := HBX.out.at_ 1 rfl
              have HPa := Lib.hid (HP4.out.below ((Below.refl _ wr).alloc (Nat.le_refl _) (.cells #[.int .i64 xf, .int .i64 xt] 32)))
              have HOa := Lib.hid (HOW.out.alloc (.cells #[.int .i64 xf, .int .i64 xt] 32))
              have HU9 : Hid (∀ b0, u9.ownBlock = some b0 → w.heap.size + 2 ≤ b0 ∧ b0 < wr.heap.size) := Lib.hid (fun b0 hb0 => ⟨(own_row HOW.out hb0).1, by obtain ⟨_, cs, hb⟩ := own_row HOW.out hb0; exact hb.lt⟩)
              clear HOW HP4 hjl
              cases done
              · by_cases hgt : gtE (xf, xt) (u, v) = true
                · have HIN := Lib.hid (HW3.out rfl hgt)
                  clear HW1 HW2 HW3
                  have hgc : u < xf ∨ (xf = u ∧ v < xt) := by
                    unfold gtE at hgt
                    simp only [Bool.or_eq_true, Bool.and_eq_true, decide_eq_true_eq, beq_iff_eq] at hgt
                    exact hgt
                  clear hgt
                  have hm3 := hm2 rfl
                  have main : ∀ (W5 : World) (g5 cap5 : Nat), W5.ownsRow (w.heap.size + 2) 32 2 (.slice (some ⟨g5, 0, none⟩) (m + 1) cap5) (m + 1) (ev (El ++ [(u, v)])) → ((wr.alloc (.cells #[.int .i64 xf, .int .i64 xt] 32)).alloc (.cells #[.int .i64 u, .int .i64 v] 32)).grownBy W5 u9.ownBlock → PB w W5 n (some ⟨b, off, none⟩) q c ∧ Blk W5 wr.heap.size 32 #[.int .i64 xf, .int .i64 xt] ∧ wr.heap.size + 2 ≤ W5.heap.size := fun W5 g5 cap5 ho hg => by
                    refine ⟨(HPa.out.below ((Below.refl _ _).alloc (Nat.le_refl _) _)).grown hg (fun b0 hb0 => (HU9.out b0 hb0).1), (HBX.out.alloc _).grown hg (fun e => by have := (HU9.out _ e.symm).2; omega), ?_⟩
                    have := hg.size
                    simpa using this
                  have HMAIN := Lib.hid main
                  clear main
                  by_cases hg1 : u < xf
                  · clear hgc
                    go_wp2_with (at_builtin; refine wpList_edge rfl (.tmp 66) (.tmp 70) rfl (w.heap.size + 2) _ m El rfl (HOa.out.alloc _) (wr.heap.size + 1) (u, v) rfl (Blk.new_ _ _ _ (by simp)) (by omega) (by simp; omega) ?_)
                    intro g5 cap5 w5 ho5 hg5
                    obtain ⟨hP5, hB5, hs5⟩ := HMAIN.out w5 g5 cap5 ho5 hg5
                    have HP5 := Lib.hid hP5
                    have HO5 := Lib.hid ho5
                    have b3 := hB5.at_ 0 rfl
                    have b4 := hB5.at_ 1 rfl
                    clear hP5 ho5 hg5 hB5 HMAIN HOa HPa HU9 HBX a3 a4 q1 q2 c1'
                    go_wp2_with (at_builtin; refine wpList_edge rfl (.tmp 72) (.tmp 74) rfl (w.heap.size + 2) _ (m + 1) (El ++ [(u, v)]) rfl (HO5.out.alloc _) w5.heap.size (xf, xt) rfl (Blk.new_ _ _ _ (by simp)) (by omega) (by simp; omega) ?_)
                    intro g2 cap w7 ho7 hg7
                    have HN : Hid ((m + 1) + 1 = ((El ++ [(u, v)]) ++ [(xf, xt)]).length ∧ InsAt (u, v) E (j + 1) true ((El ++ [(u, v)]) ++ [(xf, xt)]) ∧ PB w w7 n (some ⟨b, off, none⟩) q c ∧ w7.ownsRow (w.heap.size + 2) 32 2 (.slice (some ⟨g2, 0, none⟩) ((m + 1) + 1) cap) ((m + 1) + 1) (ev ((El ++ [(u, v)]) ++ [(xf, xt)]))) := Lib.hid ⟨by rw [List.length_append]; have := HM.out; simp; omega, HIN.out, (HP5.out.below ((Below.refl _ _).alloc (Nat.le_refl _) _)).grown hg7 (fun b0 hb0 => (own_row HO5.out hb0).1), by first | exact ho7 | (rw [List.append_assoc]; exact ho7)⟩
                    clear ho7 hg7 HO5
                    go_wp2_with fail
                    go_roundw
                    case rel => exact ⟨j + 1, (m + 1) + 1, true, _, by omega, by go_num, rfl, ⟨by omega, fun h => by cases h⟩, HN⟩
                    case measure => simp [intOf]; omega
                  · have hg4 := hgc.resolve_left hg1
                    obtain ⟨he, hg3⟩ := hg4
                    have he2 : (xf == u) = true := by simpa using he
                    clear hgc he
                    go_wp2_with (at_builtin; refine wpList_edge rfl (.tmp 66) (.tmp 70) rfl (w.heap.size + 2) _ m El rfl (HOa.out.alloc _) (wr.heap.size + 1) (u, v) rfl (Blk.new_ _ _ _ (by simp)) (by omega) (by simp; omega) ?_)
                    intro g5 cap5 w5 ho5 hg5
                    obtain ⟨hP5, hB5, hs5⟩ := HMAIN.out w5 g5 cap5 ho5 hg5
                    have HP5 := Lib.hid hP5
                    have HO5 := Lib.hid ho5
                    have b3 := hB5.at_ 0 rfl
                    have b4 := hB5.at_ 1 rfl
                    clear hP5 ho5 hg5 hB5 HMAIN HOa HPa HU9 HBX a3 a4 q1 q2 c1'
                    go_wp2_with (at_builtin; refine wpList_edge rfl (.tmp 72) (.tmp 74) rfl (w.heap.size + 2) _ (m + 1) (El ++ [(u, v)]) rfl (HO5.out.alloc _) w5.heap.size (xf, xt) rfl (Blk.new_ _ _ _ (by simp)) (by omega) (by simp; omega) ?_)
                    intro g2 cap w7 ho7 hg7
                    have HN : Hid ((m + 1) + 1 = ((El ++ [(u, v)]) ++ [(xf, xt)]).length ∧ InsAt (u, v) E (j + 1) true ((El ++ [(u, v)]) ++ [(xf, xt)]) ∧ PB w w7 n (some ⟨b, off, none⟩) q c ∧ w7.ownsRow (w.heap.size + 2) 32 2 (.slice (some ⟨g2, 0, none⟩) ((m + 1) + 1) cap) ((m + 1) + 1) (ev ((El ++ [(u, v)]) ++ [(xf, xt)]))) := Lib.hid ⟨by rw [List.length_append]; have := HM.out; simp; omega, HIN.out, (HP5.out.below ((Below.refl _ _).alloc (Nat.le_refl _) _)).grown hg7 (fun b0 hb0 => (own_row HO5.out hb0).1), by first | exact ho7 | (rw [List.append_assoc]; exact ho7)⟩
                    clear ho7 hg7 HO5
                    go_wp2_with fail
                    go_roundw
                    case rel => exact ⟨j + 1, (m + 1) + 1, true, _, by omega, by go_num, rfl, ⟨by omega, fun h => by cases h⟩, HN⟩
                    case measure => simp [intOf]; omega
                · have hgf : gtE (xf, xt) (u, v) = false := by simpa using hgt
                  have HIN := Lib.hid (HW2.out rfl hgf)
                  have hgc : ¬ (u < xf) ∧ ¬ (xf = u ∧ v < xt) := by
                    unfold gtE at hgt
                    simp only [Bool.or_eq_true, Bool.and_eq_true, decide_eq_true_eq, beq_iff_eq] at hgt
                    exact ⟨fun h => hgt (.inl h), fun h => hgt (.inr h)⟩
                  obtain ⟨hg1, hg2⟩ := hgc
                  have hm3 := hm2 rfl
                  clear HW1 HW2 HW3 hgt hgf
                  by_cases he : xf = u
                  · have hg3 : ¬ v < xt := fun h => hg2 ⟨he, h⟩
                    have he2 : (xf == u) = true := by simpa using he
                    clear hg2 he
                    go_wp2_with (at_builtin; refine wpList_edge rfl (.tmp 72) (.tmp 74) rfl (w.heap.size + 2) _ m El rfl (HOa.out.alloc _) (wr.heap.size + 1) (xf, xt) rfl (Blk.new_ _ _ _ (by simp)) (by omega) (by simp; omega) ?_)
                    intro g2 cap w7 ho7 hg7
                    have HN : Hid (m + 1 = (El ++ [(xf, xt)]).length ∧ InsAt (u, v) E (j + 1) false (El ++ [(xf, xt)]) ∧ PB w w7 n (some ⟨b, off, none⟩) q c ∧ w7.ownsRow (w.heap.size + 2) 32 2 (.slice (some ⟨g2, 0, none⟩) (m + 1) cap) (m + 1) (ev (El ++ [(xf, xt)]))) := Lib.hid ⟨by rw [List.length_append]; have := HM.out; simp; omega, HIN.out, (HPa.out.below ((Below.refl _ _).alloc (Nat.le_refl _) _)).grown hg7 (fun b0 hb0 => (own_row HOa.out hb0).1), by first | exact ho7 | (rw [List.append_assoc]; exact ho7)⟩
                    clear ho7 hg7 HOa
                    go_wp2_with fail
                    go_roundw
                    case rel => exact ⟨j + 1, m + 1, false, _, by omega, by go_num, rfl, ⟨by omega, fun _ => by omega⟩, HN⟩
                    case measure => simp [intOf]; omega
                  · have he2 : (xf == u) = false := by simpa using he
                    clear hg2 he
                    go_wp2_with (at_builtin; refine wpList_edge rfl (.tmp 72) (.tmp 74) rfl (w.heap.size + 2) _ m El rfl (HOa.out.alloc _) (wr.heap.size + 1) (xf, xt) rfl (Blk.new_ _ _ _ (by simp)) (by omega) (by simp; omega) ?_)
                    intro g2 cap w7 ho7 hg7
                    have HN : Hid (m + 1 = (El ++ [(xf, xt)]).length ∧ InsAt (u, v) E (j + 1) false (El ++ [(xf, xt)]) ∧ PB w w7 n (some ⟨b, off, none⟩) q c ∧ w7.ownsRow (w.heap.size + 2) 32 2 (.slice (some ⟨g2, 0, none⟩) (m + 1) cap) (m + 1) (ev (El ++ [(xf, xt)]))) := Lib.hid ⟨by rw [List.length_append]; have := HM.out; simp; omega, HIN.out, (HPa.out.below ((Below.refl _ _).alloc (Nat.le_refl _) _)).grown hg7 (fun b0 hb0 => (own_row HOa.out hb0).1), by first | exact ho7 | (rw [List.append_assoc]; exact ho7)⟩
                    clear ho7 hg7 HOa
                    go_wp2_with fail
                    go_roundw
                    case rel => exact ⟨j + 1, m + 1, false, _, by omega, by go_num, rfl, ⟨by omega, fun _ => by omega⟩, HN⟩
                    case measure => simp [intOf]; omega
              · have HIN := Lib.hid (HW1.out rfl)
                clear HW1 HW2 HW3
                go_wp2_with (at_builtin; refine wpList_edge rfl (.tmp 72) (.tmp 74) rfl (w.heap.size + 2) _ m El rfl (HOa.out.alloc _) (wr.heap.size + 1) (xf, xt) rfl (Blk.new_ _ _ _ (by simp)) (by omega) (by simp; omega) ?_)
                intro g2 cap w7 ho7 hg7
                have HN : Hid (m + 1 = (El ++ [(xf, xt)]).length ∧ InsAt (u, v) E (j + 1) true (El ++ [(xf, xt)]) ∧ PB w w7 n (some ⟨b, off, none⟩) q c ∧ w7.ownsRow (w.heap.size + 2) 32 2 (.slice (some ⟨g2, 0, none⟩) (m + 1) cap) (m + 1) (ev (El ++ [(xf, xt)]))) := Lib.hid ⟨by rw [List.length_append]; have := HM.out; simp; omega, HIN.out, (HPa.out.below ((Below.refl _ _).alloc (Nat.le_refl _) _)).grown hg7 (fun b0 hb0 => (own_row HOa.out hb0).1), by first | exact ho7 | (rw [List.append_assoc]; exact ho7)⟩
                clear ho7 hg7 HOa
                go_wp2_with fail
                go_roundw
                case rel => exact ⟨j + 1, m + 1, true, _, by omega, by go_num, rfl, ⟨by omega, fun h => by cases h⟩, HN⟩
                case measure => simp [intOf]; omega
            · have hjq : j = q := by omega
              subst hjq
              cases done
              · have HI2 : Hid (El ++ [(u, v)] = insR (u, v) E) := Lib.hid (by
                  have h := HI.out
                  rw [HQ.out] at h
                  exact h.last)
                have HM2 : Hid (m = j) := Lib.hid (by
                  have h := congrArg List.length HI2.out
                  rw [Gr.insR_length, List.length_append] at h
                  have := HQ.out; have := HM.out
                  simp at h; omega)
                clear HI
                obtain rfl := HM2.out
                clear HM2
                go_wp2_with (at_builtin; refine wpList_edge rfl (.tmp 78) (.tmp 82) rfl (w.heap.size + 2) _ m El rfl (HOW.out.alloc _) wr.heap.size (u, v) rfl (Blk.new_ _ _ _ (by simp)) (by omega) (by simp; omega) ?_)
                intro g5 cap5 w5 ho5 hg5
                have HPF := Lib.hid ((HP4.out.below ((Below.refl _ wr).alloc (Nat.le_refl _) (.cells #[.int .i64 u, .int .i64 v] 32))).grown hg5 (fun b0 hb0 => (own_row HOW.out hb0).1))
                have HOF : Hid (w5.ownsRow (w.heap.size + 2) 32 2 (.slice (some ⟨g5, 0, none⟩) (m + 1) cap5) (m + 1) (ev (insR (u, v) E))) := Lib.hid (by rw [← HI2.out]; exact ho5)
                clear HI2 ho5 hg5 HOW HP4 c1'
                obtain ⟨s0, s1, s2⟩ := HPF.out.store (.slice (some ⟨g5, 0, none⟩) (m + 1) cap5)
                have x0 := HPF.out.b0.at_ 0 rfl
                have x1 := HPF.out.b0.at_ 1 rfl
                have x2 := HPF.out.b0.frozen 1
                have y0 := s0.at_ 0 rfl
                have y1 := s0.at_ 1 rfl
                have y2 := s1.at_ 0 rfl
                have y3 := s1.at_ 1 rfl
                have y4 := s1.frozen 0
                have y5 := s1.frozen 1
                clear s0 s1 s2
                go_wp2_with fail
                refine bodyPost_ret (results_cell_row3 rfl _ _ (w.heap.size + 1) 52 #[.int .i64 (n : Int), .slice (some ⟨g5, 0, none⟩) (m + 1) cap5] (0, 0) _ rfl (HPF.out.ends HOF.out).1.out Try.underlying52 rfl (by kernel_rfl)) rfl ?_
                exact ⟨(HPF.out.ends HOF.out).2.1, by rw [if_neg HF.out, if_neg HH.out]; exact ⟨(some ⟨g5, 0, none⟩), cap5, rfl, (HPF.out.ends HOF.out).2.2⟩⟩
              · have HI2 : Hid (El = insR (u, v) E) := Lib.hid (by
                  have h := HI.out
                  rw [HQ.out] at h
                  exact h.done_)
                have HM2 : Hid (m = j + 1) := Lib.hid (by
                  have h := congrArg List.length HI2.out
                  rw [Gr.insR_length] at h
                  have := HQ.out; have := HM.out
                  omega)
                clear HI
                obtain rfl := HM2.out
                clear HM2
                obtain ⟨A9, c9, h9⟩ := own_form HOW.out
                subst h9
                have HPF := HP4
                have HOF : Hid (wr.ownsRow (w.heap.size + 2) 32 2 (.slice A9 (j + 1) c9) (j + 1) (ev (insR (u, v) E))) := Lib.hid (by rw [← HI2.out]; exact HOW.out)
                clear HI2 HOW HP4 c1'
                obtain ⟨s0, s1, s2⟩ := HPF.out.store (.slice A9 (j + 1) c9)
                have x0 := HPF.out.b0.at_ 0 rfl
                have x1 := HPF.out.b0.at_ 1 rfl
                have x2 := HPF.out.b0.frozen 1
                have y0 := s0.at_ 0 rfl
                have y1 := s0.at_ 1 rfl
                have y2 := s1.at_ 0 rfl
                have y3 := s1.at_ 1 rfl
                have y4 := s1.frozen 0
                have y5 := s1.frozen 1
                clear s0 s1 s2
                go_wp2_with fail
                refine bodyPost_ret (results_cell_row3 rfl _ _ (w.heap.size + 1) 52 #[.int .i64 (n : Int), .slice A9 (j + 1) c9] (0, 0) _ rfl (HPF.out.ends HOF.out).1.out Try.underlying52 rfl (by kernel_rfl)) rfl ?_
                exact ⟨(HPF.out.ends HOF.out).2.1, by rw [if_neg HF.out, if_neg HH.out]; exact ⟨A9, c9, rfl, (HPF.out.ends HOF.out).2.2⟩⟩
    · have HF : Hid (canPut n u v = false) := Lib.hid (by unfold canPut; simp [Bool.eq_false_iff.2 hv])
      have HV := Lib.hid (Bool.eq_false_iff.2 hv)
      clear hu hv
      go_enter Try.func26, Try.ntmps26
      go_wp2_with fail
      refine Calls.mono (refis_any _ n A q c u) ?_
      rintro e w1 ⟨rfl, B1⟩
      rw [HU.out]
      have HP1 := Lib.hid (HP.out.below B1)
      clear HP B1 c0 c1
      have c0' := HP1.out.b0.at_ 0 rfl
      have c1' := HP1.out.b0.at_ 1 rfl
      have d0' := HP1.out.b1.at_ 0 rfl
      have d1' := HP1.out.b1.at_ 1 rfl
      have z0 := HP1.out.b1.frozen 0
      have z1 := HP1.out.b1.frozen 1
      go_wp2_with fail
      refine Calls.mono (refis_any _ n A q c v) ?_
      rintro e w2 ⟨rfl, B2⟩
      rw [HV.out]
      have HP2 := Lib.hid (HP1.out.below B2)
      clear HP1 B2 c0' c1' d0' d1' z0 z1
      have c0' := HP2.out.b0.at_ 0 rfl
      have c1' := HP2.out.b0.at_ 1 rfl
      have d0' := HP2.out.b1.at_ 0 rfl
      have d1' := HP2.out.b1.at_ 1 rfl
      have z0 := HP2.out.b1.frozen 0
      have z1 := HP2.out.b1.frozen 1
      go_wp2_with fail
      refine bodyPost_ret (results_cell_row3 rfl _ _ (w.heap.size + 1) 52 #[.int .i64 (n : Int), .slice A q c] (0, 0) _ rfl (HP2.out.fin _ _).1.out Try.underlying52 rfl (by kernel_rfl)) rfl ?_
      exact ⟨(HP2.out.fin _ _).2, by rw [if_pos HF.out]; rfl⟩
  · have HF : Hid (canPut n u v = false) := Lib.hid (by unfold canPut; simp [Bool.eq_false_iff.2 hu])
    have HU := Lib.hid (Bool.eq_false_iff.2 hu)
    clear hu
    go_enter Try.func26, Try.ntmps26
    go_wp2_with fail
    refine Calls.mono (refis_any _ n A q c u) ?_
    rintro e w1 ⟨rfl, B1⟩
    rw [HU.out]
    have HP1 := Lib.hid (HP.out.below B1)
    clear HP B1 c0 c1
    have c0' := HP1.out.b0.at_ 0 rfl
    have c1' := HP1.out.b0.at_ 1 rfl
    have d0' := HP1.out.b1.at_ 0 rfl
    have d1' := HP1.out.b1.at_ 1 rfl
    have z0 := HP1.out.b1.frozen 0
    have z1 := HP1.out.b1.frozen 1
    go_wp2_with fail
    refine bodyPost_ret (results_cell_row3 rfl _ _ (w.heap.size + 1) 52 #[.int .i64 (n : Int), .slice A q c] (0, 0) _ rfl (HP1.out.fin _ _).1.out Try.underlying52 rfl (by kernel_rfl)) rfl ?_
    exact ⟨(HP1.out.fin _ _).2, by rw [if_pos HF.out]; rfl⟩
end Go.Proofs.Ytclbpohhmaojcaa.GrW
