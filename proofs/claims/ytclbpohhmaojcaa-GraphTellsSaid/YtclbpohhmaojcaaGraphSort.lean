/-
  The walk of Sort.
-/
import Derived.Test.YtclbpohhmaojcaaGraphReach
import Derived.Test.YtclbpohhmaojcaaGraphSortPl
namespace Go.Proofs.Ytclbpohhmaojcaa.GrW
set_option linter.unusedVariables false
open Go Go.RowKit Go.Proofs Go.Proofs.Ytclbpohhmaojcaa Go.Proofs.Ytclbpohhmaojcaa.Wd
open Go.Proofs.Ytclbpohhmaojcaa.Gr (Inside Cons Free Topo Sorts Less outs intos lef fr0 left0)

theorem infoInt0 : (Try.prog.info? 3).map (fun i => (i.zero, i.size, i.bytes)) = some (some (.int .i64 0), 1, 8) := by kernel_rfl
/-- A number more at the end of an own row. -/
theorem wp_push {W : World} {o : Oper} {a : Act} {K : Act → World → Prop} {Q : Exit → Act → World → Prop} (s x : Operand) (ho : o.op = .call { callee := .builtin .append, args := #[s, x], argTypes := #[27, 27] })
    (base : Nat) (ov : Value) (m : Nat) (out : List Int) (hm : m = out.length) (hs : a.eval s = ov) (hown : W.ownsRow base 3 1 ov m (iv out)) (b : Nat) (z : Int) (hx : a.eval x = .slice (some ⟨b, 0, none⟩) 1 1) (hb : Blk W b 3 #[.int .i64 z]) (hl : m ≤ 30000) (hbase : base ≤ W.heap.size)
    (h : ∀ v' w', w'.ownsRow base 3 1 v' (m + 1) (iv (out ++ [z])) → W.grownBy w' ov.ownBlock → (v'.ownBlock = ov.ownBlock ∨ v'.ownBlock = some W.heap.size) → K (a.put o.dst v') w') : o.wp Try.prog a W K Q := by
  obtain ⟨i0, hi0, hz0, hz1, hz2⟩ := info_parts infoInt0
  refine wp_append_row W s x 27 ho base 3 i0 _ 8 Try.underlying27 hi0 hz0 hz1 hz2 rfl ov m (iv out) hs hown (b + 1) (some ⟨b, 0, none⟩) 1 1 (iv [z]) hx (by rw [iv_length]; rfl) (Row.blk (cs := #[.int .i64 z]) hb (Nat.lt_succ_self b)) (iv_one _) (by unfold maxLen; omega) (by omega) hbase fun v' w' h2 h3 _ h5 => h v' w' (by rw [iv_append]; exact h2) h3 h5
theorem wpList_push {W : World} {ops : Array Oper} {rest : List Oper} {o : Oper} {a : Act} {Q : Exit → Act → World → Prop} (hgd : o.guard = none) (s x : Operand) (ho : o.op = .call { callee := .builtin .append, args := #[s, x], argTypes := #[27, 27] })
    (base : Nat) (ov : Value) (m : Nat) (out : List Int) (hm : m = out.length) (hs : a.eval s = ov) (hown : W.ownsRow base 3 1 ov m (iv out)) (b : Nat) (z : Int) (hx : a.eval x = .slice (some ⟨b, 0, none⟩) 1 1) (hb : Blk W b 3 #[.int .i64 z]) (hl : m ≤ 30000) (hbase : base ≤ W.heap.size)
    (h : ∀ v' w', w'.ownsRow base 3 1 v' (m + 1) (iv (out ++ [z])) → W.grownBy w' ov.ownBlock → (v'.ownBlock = ov.ownBlock ∨ v'.ownBlock = some W.heap.size) → wpList Try.prog ops Q rest (a.put o.dst v') w') : wpList Try.prog ops Q (o :: rest) a W :=
  wpList_plain hgd fun _ hK => wp_push s x ho base ov m out hm hs hown b z hx hb hl hbase fun v' w' h2 h3 h5 => hK _ _ (h v' w' h2 h3 h5)
theorem IRow.tail {w : World} {base b off N c : Nat} {x : Int} {rest : List Int} (hN : N = rest.length + 1) (h : IRow w base (.slice (some ⟨b, off, none⟩) N c) (x :: rest)) :
    IRow w base (.slice (if c = 1 then some ⟨b, off, none⟩ else some ⟨b, off + 1, none⟩) (N - 1) (c - 1)) rest ∧ N ≤ c ∧ (Value.slice (if c = 1 then some ⟨b, off, none⟩ else some ⟨b, off + 1, none⟩) (N - 1) (c - 1)).ownBlock = (Value.slice (some ⟨b, off, none⟩) N c).ownBlock := by
  subst hN
  rcases h with ⟨hv, h⟩ | ⟨g, off', cap, cur, hv, hg, hb, hn, hm, hc, ht⟩
  · simp at h
  · simp only [Value.slice.injEq, Option.some.injEq, Addr.mk.injEq, and_true] at hv
    obtain ⟨⟨rfl, rfl⟩, h1, rfl⟩ := hv
    rw [List.length_cons] at h1 hn ht
    by_cases hc1 : c = 1
    · rw [if_pos hc1]
      have hr : rest = [] := List.eq_nil_of_length_eq_zero (by omega)
      subst hr
      exact ⟨IRow.mk_ (by simp) hg hb (by simp) (by omega) (by omega) (by simp [iv]), by simpa using hn, rfl⟩
    · rw [if_neg hc1]
      refine ⟨IRow.mk_ (by omega) hg hb (by omega) (by omega) (by omega) ?_, by omega, rfl⟩
      rw [← List.drop_drop, Nat.add_sub_cancel]
      generalize cur.toList.drop off = D at ht
      cases D with
      | nil => simp [iv] at ht
      | cons y D =>
        simp only [List.take_succ_cons, iv, List.map_cons, List.cons.injEq] at ht
        exact ht.2
theorem make_ints (n : Nat) (hn : n ≤ 30000) (L : List (List Int)) (W : World) : (Instr.makeSlice 27 (.int .i64 (n : Int)) (.int .i64 (n : Int))).run Try.prog W = .ok (.slice (some ⟨W.heap.size, 0, none⟩) n n) (W.alloc (.cells (iv (left0 n L 0)).toArray 3)) := by
  obtain ⟨j0, hj0, hy0, hy1, hy2⟩ := info_parts infoInt0
  have h := run_make (P := Try.prog) W 27 3 j0 _ Try.underlying27 hj0 hy0 .i64 .i64 (n : Int) (n : Int) (by omega) (Int.le_refl _) (by rw [hy2]; omega) (by omega)
  rw [Int.toNat_natCast, hy1, Nat.mul_one] at h
  rw [h]
  have e : madeCells (Value.int .i64 0).cells n = (iv (left0 n L 0)).toArray := by
    show madeCells #[Value.int .i64 0] n = _
    apply Array.ext
    · simp [madeCells, left0, iv]
    · intro i h1 h2
      simp [madeCells, left0, iv, Nat.mod_one]
  rw [e]
theorem iv_set (l : List Int) (i : Nat) (x : Int) : (iv l).toArray.setIfInBounds i (.int .i64 x) = (iv (l.set i x)).toArray := by
  apply Array.ext'
  simp [iv, List.map_set]
theorem iv_at {l : List Int} {i : Nat} (h : i < l.length) : (iv l).toArray[i]? = some (.int .i64 (l.getD i 0)) := by
  simp [iv, List.getD, h]
theorem rising_len : ∀ {l : List Int} {a b : Int}, a ≤ b → l.Pairwise (· < ·) → (∀ x ∈ l, a ≤ x ∧ x < b) → (l.length : Int) ≤ b - a
  | [], a, b, hab, _, _ => by simp; omega
  | x :: l, a, b, hab, h, hx => by
    have hp := List.pairwise_cons.1 h
    have h0 := hx x (List.mem_cons_self ..)
    have ih := rising_len (a := x + 1) (b := b) (by omega) hp.2 (fun y hy => ⟨by have := hp.1 y hy; omega, (hx y (List.mem_cons_of_mem _ hy)).2⟩)
    rw [List.length_cons]
    omega
/-- While a graph is sorted: what is left in its block, the free ones in a row, the told ones in another. -/
structure SS (w W : World) (f o : Value) (free out left : List Int) : Prop where
  left : Blk W w.heap.size 3 (iv left).toArray
  free : IRow W (w.heap.size + 1) f free
  out : W.ownsRow (w.heap.size + 1) 3 1 o out.length (iv out)
  sep : ∀ g, f.ownBlock = some g → o.ownBlock ≠ some g
  low : Below w.heap.size w W
  size : w.heap.size + 1 ≤ W.heap.size
theorem IRow.owns {w : World} {base : Nat} {v : Value} {l : List Int} {g : Nat} (h : IRow w base v l) (hg : v.ownBlock = some g) : base ≤ g ∧ g < w.heap.size := by
  obtain ⟨h1, cs, h2⟩ := h.blk hg
  exact ⟨h1, h2.lt⟩
theorem SS.store {w W : World} {f o : Value} {free out left : List Int} (h : SS w W f o free out left) (k : Nat) (x : Int) : SS w (W.setCell ⟨w.heap.size, k, none⟩ (.int .i64 x)) f o free out (left.set k x) where
  left := by rw [← iv_set]; exact h.left.set_ k _
  free := h.free.keep fun g hg => heap_setCell_other W ⟨w.heap.size, k, none⟩ g _ (by have := (h.free.owns hg).1; show g ≠ w.heap.size; omega)
  out := own_far h.out (fun e => by have := (own_row h.out e).1; have : w.heap.size + 1 ≤ w.heap.size := this; omega) _
  sep := h.sep
  low := h.low.setCell (Nat.le_refl _) _
  size := by simpa using h.size
theorem SS.keepBlk {w W W2 : World} {f o : Value} {free out left : List Int} (h : SS w W f o free out left) {r : Option Nat} (hr : ∀ g, r = some g → w.heap.size + 1 ≤ g) (hg : W.grownBy W2 r) : Blk W2 w.heap.size 3 (iv left).toArray ∧ Below w.heap.size w W2 ∧ w.heap.size + 1 ≤ W2.heap.size :=
  ⟨h.left.grown hg (fun e => by have := hr _ e.symm; omega), h.low.grown hg (by have := h.size; omega) (fun j hj => by have := hr j hj; omega), Nat.le_trans h.size hg.size⟩
/-- One more is free: put in its row. -/
theorem SS.put {w W W2 : World} {f o f2 : Value} {free free2 out left : List Int} (h : SS w W f o free out left) (hi : IRow W2 (w.heap.size + 1) f2 free2) (hg : W.grownBy W2 f.ownBlock) (hf : f2.ownBlock = f.ownBlock ∨ ∃ g, f2.ownBlock = some g ∧ W.heap.size ≤ g) : SS w W2 f2 o free2 out left := by
  obtain ⟨h1, h2, h3⟩ := h.keepBlk (fun g e => (h.free.owns e).1) hg
  refine ⟨h1, hi, own_keep h.out (fun g e => ?_), fun g e e2 => ?_, h2, h3⟩
  · obtain ⟨_, cs, hb⟩ := own_row h.out e
    exact hg.block g hb.lt (fun e2 => h.sep g e2.symm e)
  · rcases hf with hf | ⟨g', hf, hlt⟩
    · exact h.sep g (by rw [← hf]; exact e) e2
    · rw [e] at hf
      cases hf
      obtain ⟨_, cs, hb⟩ := own_row h.out e2
      have := hb.lt
      omega
/-- One more is told. -/
theorem SS.push {w W W1 W2 : World} {f o f2 o2 : Value} {free free2 out left : List Int} {x : Int} (h : SS w W f o free out left) (ha : W.grownBy W1 none) (hf2 : IRow W (w.heap.size + 1) f2 free2) (hff : f2.ownBlock = f.ownBlock)
    (ho : W2.ownsRow (w.heap.size + 1) 3 1 o2 (out.length + 1) (iv (out ++ [x]))) (hg : W1.grownBy W2 o.ownBlock) (hv : o2.ownBlock = o.ownBlock ∨ o2.ownBlock = some W1.heap.size) : SS w W2 f2 o2 free2 (out ++ [x]) left := by
  have hg2 : W.grownBy W2 o.ownBlock := ⟨hg.os.trans ha.os, hg.tape.trans ha.tape, hg.output.trans ha.output, Nat.le_trans ha.size hg.size, fun k hk hne => (hg.block k (Nat.lt_of_lt_of_le hk ha.size) hne).trans (ha.block k hk (by simp))⟩
  obtain ⟨h1, h2, h3⟩ := h.keepBlk (fun g e => (own_row h.out e).1) hg2
  refine ⟨h1, hf2.keep fun g e => ?_, by rw [List.length_append]; exact ho, fun g e e2 => ?_, h2, h3⟩
  · exact hg2.block g (hf2.owns e).2 (fun e2 => h.sep g (by rw [← hff]; exact e) e2.symm)
  · rcases hv with hv | hv
    · exact h.sep g (by rw [← hff]; exact e) (by rw [← hv]; exact e2)
    · rw [e2] at hv
      cases hv
      have := (hf2.owns e).2
      have := ha.size
      omega
/-- What Sort answers. -/
def SortOut (w : World) (n : Nat) (L : List (List Int)) (e : Ending) (w' : World) : Prop :=
  ∃ out : List Int, Topo n L out ∧ (∀ v, ¬ Free n L out v) ∧ Below w.heap.size w w' ∧
    ((out.length = n ∧ ∃ v', e = .returned (.tuple #[v', .bool true]) ∧ w'.ownsRow w.heap.size 3 1 v' out.length (iv out)) ∨ (out.length < n ∧ e = .returned (.tuple #[.slice none 0 0, .bool false])))
theorem told_less {n : Nat} {L : List (List Int)} {out : List Int} {v : Nat} (h : Topo n L out) (hf : Free n L out v) : out.length < n := by
  have h1 := h.length
  have h2 := Gr.unt_snoc hf.1 hf.2.1
  omega
theorem sorts_many {n : Nat} {L : List (List Int)} {out free left : List Int} (h : Sorts n L out free left) : free.length ≤ n := by
  have := rising_len (a := 0) (b := n) (by omega) h.rises (fun x hx => by obtain ⟨v, rfl, hv⟩ := (h.free x).1 hx; have := hv.1; omega)
  omega
theorem less_many {n : Nat} {L : List (List Int)} {out : List Int} {v : Nat} {x : Int} {rest free left left0 : List Int} {j : Nat} (hin : Inside n L) (hs : Sorts n L out (x :: rest) left0) (h : Less n L out v rest free left j) : free.length ≤ n := by
  have := rising_len (a := 0) (b := n) (by omega) h.rises (fun x hx => by
    rcases (h.free x).1 hx with h1 | h1
    · obtain ⟨v, rfl, hv⟩ := (hs.free x).1 (List.mem_cons_of_mem _ h1); have := hv.1; omega
    · exact hin.at_ (2 * v) (List.mem_of_mem_take h1.1))
  omega
def lenV : Value → Nat
  | .slice _ n _ => n
  | _ => 0
set_option maxRecDepth 100000 in
set_option maxHeartbeats 4000000 in
theorem sort_any (w : World) (base g n : Nat) (F : Nat → Prop) (L : List (List Int)) (h : GAt w base F g n L) (hr : Rises L) (hin : Inside n L) (hco : Cons n L) (hn : n ≤ 30000) :
    Calls Try.prog 14 #[.pointer (some ⟨g, 0, none⟩)] w (SortOut w n L) := by
  obtain ⟨r, c, hH, hrow⟩ := h.row_at
  have HN := Lib.hid (none_any w g _ hH)
  have hmk := make_ints n hn L
  have HH := Lib.hid hH
  have HR := Lib.hid hr
  have HIN := Lib.hid hin
  have HCO := Lib.hid hco
  have HROW := Lib.hid hrow
  obtain ⟨i0, hi0, hz0, hz1, hz2⟩ := info_parts infoInt0
  have h1 := hH.2
  have h2 : (w.alloc (.cells (iv (left0 n L 0)).toArray 3)).cell? ⟨g, 1, none⟩ = some (.slice (some ⟨r, 0, none⟩) n c) := ((Below.refl w.heap.size w).alloc (Nat.le_refl _) _ |>.cell (p := ⟨g, 1, none⟩) (lt_of_cell hH.2)).trans hH.2
  have HS0 : Hid (SS w (w.alloc (.cells (iv (left0 n L 0)).toArray 3)) (.slice none 0 0) (.slice none 0 0) [] [] (left0 n L 0)) := Lib.hid ⟨Blk.new_ w _ _ rfl, .inl ⟨rfl, rfl⟩, own_nil _ _ _, fun g e => by simp [Value.ownBlock] at e, (Below.refl _ w).alloc (Nat.le_refl _) _, by simp⟩
  clear h hr hin hco hrow hH
  go_enter Try.func14, Try.ntmps14
  go_wp2_with fail
  refine Calls.mono HN.out ?_
  rintro e w' ⟨rfl, rfl⟩
  clear HN
  go_wp2_with fail
  clear h1 h2 hmk
  go_loopw [5, 24] (fun f i wr => ∃ k : Nat, k ≤ n ∧ i = .int .i64 k ∧ Hid (SS w wr f (.slice none 0 0) (fr0 L k) [] (left0 n L k) ∧ wr.ownsRow (w.heap.size + 1) 3 1 f (fr0 L k).length (iv (fr0 L k)))) (fun _ i _ => n - (intOf i).toNat)
  case atStart => exact ⟨0, Nat.zero_le _, rfl, Lib.hid ⟨HS0.out, own_nil _ _ _⟩⟩
  case round =>
    obtain ⟨k, hk, rfl, HS⟩ := hrel
    clear HS0
    by_cases hlt : k < n
    · obtain ⟨A, d, hc, hi⟩ := HROW.out (2 * k + 1) (by omega)
      have hlow := HS.out.1.low
      have hg1 : wr.cell? ⟨g, 1, none⟩ = some (.slice (some ⟨r, 0, none⟩) n c) := (hlow.cell (p := ⟨g, 1, none⟩) (lt_of_cell HH.out.2)).trans HH.out.2
      have hg2 : wr.cell? ⟨r, k * 2 + 1, none⟩ = some (.slice A (intos L k).length d) := by rw [Nat.mul_comm k 2]; exact (hlow.cell (p := ⟨r, 2 * k + 1, none⟩) (lt_of_cell hc)).trans hc
      have HL := Lib.hid (show (intos L k).length ≤ 1000000 from (HR.out.at_ (2 * k + 1)).2)
      have HNX := Lib.hid (Gr.left0_succ L hlt)
      have HFX := Lib.hid (Gr.fr0_succ L k)
      have hfl2 := Gr.fr0_length L k
      generalize hml : (intos L k).length = m at *
      have hm6 := HL.out
      have HST := Lib.hid (HS.out.1.store k (m : Int))
      rw [← HNX.out] at HST
      have hz : wr.frozen? ⟨w.heap.size, k, none⟩ = false := HS.out.1.left.frozen k
      have hcl : wr.cell? ⟨w.heap.size, k, none⟩ = some (.int .i64 ((left0 n L k).getD k 0)) := HS.out.1.left.at_ k (iv_at (by unfold left0; simp; omega))
      have hcs : (wr.setCell ⟨w.heap.size, k, none⟩ (.int .i64 (m : Int))).cell? ⟨w.heap.size, k, none⟩ = some (.int .i64 (m : Int)) := by
        have := HST.out.left.at_ k (iv_at (l := left0 n L (k + 1)) (i := k) (by unfold left0; simp; omega))
        rw [this, HNX.out]
        simp [List.getD, left0, hlt]
      have i1 : (0 : Int) ≤ (k : Int) := by omega
      have i2 : (k : Int) < (n : Int) := by omega
      have HFO := Lib.hid HS.out.2
      have HFK := Lib.hid (own_far HS.out.2 (p := ⟨w.heap.size, k, none⟩) (fun e => by have := (own_row HS.out.2 e).1; have : w.heap.size + 1 ≤ w.heap.size := this; omega) (.int .i64 (m : Int)))
      have hsz : w.heap.size + 1 ≤ wr.heap.size := HS.out.1.size
      generalize left0 n L k = lk0 at *
      clear hc hi HS hlow hml
      generalize hfk : fr0 L k = fk at *
      have hfl : fk.length ≤ 30000 := by omega
      by_cases hm0 : m = 0
      · have hf1 : fr0 L (k + 1) = fk ++ [(k : Int)] := by rw [HFX.out, if_pos hm0]
        have HF1 := Lib.hid hf1
        obtain rfl : 0 = m := hm0.symm
        have e0 : ((0 : Nat) : Int) = 0 := rfl
        rw [e0] at hcs HST HFK
        clear HFX hf1 hfk HNX HL hm0 e0 HFO hfl2
        have HNB := Lib.hid (Blk.new_ (wr.setCell ⟨w.heap.size, k, none⟩ (.int .i64 0)) 3 #[.int .i64 (k : Int)] (n := wr.heap.size) (by simp))
        generalize hmf : fk.length = mf at *
        have HMF := Lib.hid hmf.symm
        clear hmf
        go_wp2_with (at_builtin; refine wpList_push rfl (.tmp 44) (.tmp 46) rfl (w.heap.size + 1) _ mf fk HMF.out rfl (HFK.out.alloc (.cells #[.int .i64 (k : Int)] 3)) wr.heap.size (k : Int) rfl HNB.out (by omega) (by simp; omega) ?_)
        intro v2 w2 ho2 hgr hvb
        have R1 : Hid (SS w w2 v2 (.slice none 0 0) (fr0 L (k + 1)) [] (left0 n L (k + 1)) ∧ w2.ownsRow (w.heap.size + 1) 3 1 v2 (fr0 L (k + 1)).length (iv (fr0 L (k + 1)))) := Lib.hid (by
          rw [HF1.out]
          have ho3 : w2.ownsRow (w.heap.size + 1) 3 1 v2 (fk ++ [(k : Int)]).length (iv (fk ++ [(k : Int)])) := by rw [List.length_append, ← HMF.out]; exact ho2
          refine ⟨HST.out.put (IRow.of_own ho3) ((World.grownBy_alloc _ _ _).trans hgr) ?_, ho3⟩
          rcases hvb with hvb | hvb
          · exact .inl hvb
          · exact .inr ⟨_, hvb, by simp⟩)
        clear ho2 hgr hvb HST HFK HNB hcl hcs hz hg1 hg2
        go_wp2_with fail
        go_roundw
        case rel => exact ⟨k + 1, by omega, by go_num, R1⟩
        case measure => simp [intOf]; omega
      · have R1 : Hid (SS w (wr.setCell ⟨w.heap.size, k, none⟩ (.int .i64 (m : Int))) u5 (.slice none 0 0) (fr0 L (k + 1)) [] (left0 n L (k + 1)) ∧ (wr.setCell ⟨w.heap.size, k, none⟩ (.int .i64 (m : Int))).ownsRow (w.heap.size + 1) 3 1 u5 (fr0 L (k + 1)).length (iv (fr0 L (k + 1)))) := Lib.hid (by
          rw [HFX.out, if_neg hm0]
          exact ⟨HST.out, HFK.out⟩)
        have i5 : ((m : Int) == 0) = false := by rw [beq_eq_false_iff_ne]; omega
        clear HFX HNX HST HFK HL HFO hfk hfl2
        go_wp2_with fail
        go_roundw
        case rel => exact ⟨k + 1, by omega, by go_num, R1⟩
        case measure => simp [intOf]; omega
    · obtain rfl : k = n := by omega
      have HS2 : Hid (SS w wr u5 (.slice none 0 0) (fr0 L k) [] (left0 k L k) ∧ Sorts k L [] (fr0 L k) (left0 k L k)) := Lib.hid ⟨HS.out.1, Sorts.zero k L⟩
      have hlow := HS.out.1.low
      have hg1 : wr.cell? ⟨g, 1, none⟩ = some (.slice (some ⟨r, 0, none⟩) k c) := (hlow.cell (p := ⟨g, 1, none⟩) (lt_of_cell HH.out.2)).trans HH.out.2
      generalize fr0 L k = fr at *
      generalize left0 k L k = lf at *
      clear HS hlow hlt hk
      go_wp2_with fail
      clear hg1
      go_loopw [5, 6] (fun f o wr => ∃ (A : Option Addr) (m d : Nat) (free out left : List Int), o = .slice A m d ∧ m ≤ k ∧ Hid (m = out.length ∧ SS w wr f o free out left ∧ Sorts k L out free left)) (fun _ o _ => k - lenV o)
      case atStart => exact ⟨_, _, _, _, _, _, rfl, Nat.zero_le _, Lib.hid ⟨rfl, HS2.out⟩⟩
      case round =>
        obtain ⟨Ao, mo, co, free, out, left, rfl, hmo, HQ⟩ := hrel
        clear HS2
        obtain ⟨hmo2, hSS, hSo⟩ := HQ.out
        obtain ⟨Af, cf, hf⟩ := hSS.free.lies
        subst hf
        have hlow := hSS.low
        have hg1 : wr.cell? ⟨g, 1, none⟩ = some (.slice (some ⟨r, 0, none⟩) k c) := (hlow.cell (p := ⟨g, 1, none⟩) (lt_of_cell HH.out.2)).trans HH.out.2
        cases free with
        | nil =>
          rw [List.length_nil] at *
          have HNF : Hid (∀ v, ¬ Free k L out v) := Lib.hid (fun v hv => by have := (hSo.free v).2 ⟨v, rfl, hv⟩; simp at this)
          have HTO := Lib.hid hSo.topo
          have HOW := Lib.hid hSS.out
          have HLW := Lib.hid hlow
          have HMO := Lib.hid hmo2
          clear HQ hmo2 hSS hSo hlow
          by_cases hle : mo < k
          · have HF : Hid (SortOut w k L (.returned (.tuple #[.slice none 0 0, .bool false])) wr) := Lib.hid ⟨out, HTO.out, HNF.out, HLW.out, .inr ⟨by have := HMO.out; omega, rfl⟩⟩
            have i1 : (mo : Int) < (k : Int) := by omega
            clear HNF HTO HOW HLW HMO
            go_wp2_with fail
            go_ret2
            exact HF.out
          · have HF : Hid (SortOut w k L (.returned (.tuple #[.slice Ao mo co, .bool true])) wr) := Lib.hid ⟨out, HTO.out, HNF.out, HLW.out, .inl ⟨by have := HMO.out; omega, _, rfl, by
              have h := own_base HOW.out (Nat.le_succ w.heap.size)
              exact h⟩⟩
            have i1 : ¬ (mo : Int) < (k : Int) := by omega
            clear HNF HTO HOW HLW HMO
            go_wp2_with fail
            go_ret2
            exact HF.out
        | cons x rest =>
          obtain ⟨v, rfl, hfv, hmin, hless⟩ := hSo.start
          have HSO := Lib.hid hSo
          have HFV := Lib.hid hfv
          have HMIN := Lib.hid hmin
          have HLESS := Lib.hid hless
          have hmk2 : mo < k := by rw [hmo2]; exact told_less hSo.topo hfv
          have hmf3 : ((v : Int) :: rest).length ≤ k := sorts_many hSo
          obtain ⟨b, off, rfl, hbl, hcx⟩ := hSS.free.at_ (i := 0) (by simp)
          have hcx : wr.cell? ⟨b, off, none⟩ = some (.int .i64 (v : Int)) := hcx
          have HTL := Lib.hid (IRow.tail (N := ((v : Int) :: rest).length) rfl hSS.free)
          have hcf : ((v : Int) :: rest).length ≤ cf := HTL.out.2.1
          have hmf1 : 1 ≤ ((v : Int) :: rest).length := by simp
          have HS := Lib.hid hSS
          have HMO := Lib.hid hmo2
          have HNB := Lib.hid (Blk.new_ wr.drew 3 #[.int .i64 (v : Int)] (n := wr.heap.size) rfl)
          have HOUT := Lib.hid hSS.out
          have hsz : w.heap.size + 1 ≤ wr.heap.size := hSS.size
          have hvk : v < k := hfv.1
          rw [← hmo2] at HOUT
          generalize hmf : ((v : Int) :: rest).length = mf at *
          have HMF := Lib.hid hmf.symm
          have i1 : (0 : Int) < (mf : Int) := by omega
          have i2 : (1 : Int) ≤ (mf : Int) := by omega
          have i3 : (mf : Int) ≤ (cf : Int) := by omega
          have i4 : (0 : Int) ≤ (v : Int) := by omega
          have i5 : (v : Int) < (k : Int) := by omega
          clear HQ hmo2 hSS hSo hlow hless hmin hfv hmf
          go_wp2_with fail
          refine wp_region_heldG [] (fun _ W => True) (by kernel_rfl) ?_
          change wpAnyG _ _ _ _ _ _ 8 _ _ wr.drew
          refine g_take (i := 0) rfl rfl (by kernel_rfl) (by kernel_rfl) (by kernel_rfl) (by kernel_rfl) (by kernel_rfl) (fun _ _ _ h => h) trivial (fun L W hL hW => by go_simp; rfl) ?_
          refine g_take (i := 1) rfl rfl (by kernel_rfl) (by kernel_rfl) (by kernel_rfl) (by kernel_rfl) (by kernel_rfl) (fun _ _ _ h => h) trivial (fun L W hL hW => by go_simp; rfl) ?_
          refine g_take (i := 2) rfl rfl (by kernel_rfl) (by kernel_rfl) (by kernel_rfl) (by kernel_rfl) (by kernel_rfl) (fun _ _ _ h => h) trivial (fun L W hL hW => by go_simp; rfl) ?_
          refine g_take (i := 3) rfl rfl (by kernel_rfl) (by kernel_rfl) (by kernel_rfl) (by kernel_rfl) (by kernel_rfl) (fun _ _ _ h => h) trivial (fun L W hL hW => by go_simp; rfl) ?_
          generalize (if cf = 1 then some (⟨b, off, none⟩ : Addr) else some ⟨b, off + 1, none⟩) = A3 at *
          refine g_one (i := 4) rfl rfl (by kernel_rfl) fun K hK => ?_
          go_simp
          refine hK _ _ trivial ?_
          clear hK K
          refine g_one (i := 5) rfl rfl (by kernel_rfl) fun K hK => ?_
          refine wp_push (.tmp 57) (.tmp 59) rfl (w.heap.size + 1) _ mo out HMO.out rfl (HOUT.out.drew.alloc (.cells #[.int .i64 (v : Int)] 3)) wr.heap.size (v : Int) rfl HNB.out (by omega) (by simp; omega) ?_
          intro v2 w2 ho2 hgr hvb
          obtain ⟨A2, c2, hv2⟩ := own_form ho2
          subst hv2
          have HS2 : Hid (SS w w2 (.slice A3 (mf - 1) (cf - 1)) (.slice A2 (mo + 1) c2) rest (out ++ [(v : Int)]) left) := Lib.hid (by
            refine HS.out.push (W1 := wr.drew.alloc (.cells #[.int .i64 (v : Int)] 3)) ⟨rfl, rfl, rfl, by simp, fun j hj _ => Below.heap_alloc _ _ j hj⟩ HTL.out.1 HTL.out.2.2 ?_ hgr hvb
            rw [← HMO.out]
            exact ho2)
          clear ho2 hgr hvb HS HTL HOUT HNB hcx
          refine hK _ _ trivial ?_
          clear hK K
          refine g_take (i := 6) rfl rfl (by kernel_rfl) (by kernel_rfl) (by kernel_rfl) (by kernel_rfl) (by kernel_rfl) (fun _ _ _ h => h) trivial (fun L W hL hW => by go_simp; rfl) ?_
          refine g_take (i := 7) rfl rfl (by kernel_rfl) (by kernel_rfl) (by kernel_rfl) (by kernel_rfl) (by kernel_rfl) (fun _ _ _ h => h) trivial (fun L W hL hW => by go_simp; rfl) ?_
          refine wpAnyG_done (by kernel_rfl) ?_ _
          go_simp
          have hlow := HS2.out.low
          obtain ⟨Ar, dr, hcr, hir⟩ := HROW.out (2 * v) (by omega)
          have hg1 : w2.cell? ⟨g, 1, none⟩ = some (.slice (some ⟨r, 0, none⟩) k c) := (hlow.cell (p := ⟨g, 1, none⟩) (lt_of_cell HH.out.2)).trans HH.out.2
          have hg2 : w2.cell? ⟨r, v * 2, none⟩ = some (.slice Ar (outs L v).length dr) := by rw [Nat.mul_comm v 2]; exact (hlow.cell (p := ⟨r, 2 * v, none⟩) (lt_of_cell hcr)).trans hcr
          have hir : IRow w base (.slice Ar (outs L v).length dr) (outs L v) := hir
          have HIR := Lib.hid hir
          have hm6 : (outs L v).length ≤ 1000000 := (HR.out.at_ (2 * v)).2
          clear hcr hir hlow
          generalize hml : (outs L v).length = m at *
          have HML := Lib.hid hml.symm
          clear hml
          go_wp2_with fail
          clear hg1 hg2
          go_loopw [5, 70] (fun f i wr => ∃ (j : Nat) (free left : List Int), j ≤ m ∧ i = .int .i64 j ∧ Hid (SS w wr f (.slice A2 (mo + 1) c2) free (out ++ [(v : Int)]) left ∧ Less k L out v rest free left j)) (fun _ i _ => m - (intOf i).toNat)
          case atStart => exact ⟨0, _, _, Nat.zero_le _, rfl, Lib.hid ⟨HS2.out, HLESS.out⟩⟩
          case round =>
            obtain ⟨j, free, left, hj, rfl, HQ⟩ := hrel
            clear HS2 HLESS
            by_cases hlt2 : j < m
            · have hjl : j < (outs L v).length := by have := HML.out; omega
              obtain ⟨b2, off2, rfl, hbl2, hc0⟩ := HIR.out.at_ hjl
              have hin2 := HIN.out.at_ (2 * v) (List.getElem_mem hjl)
              obtain ⟨u, hu⟩ : ∃ u : Nat, (outs L v)[j] = (u : Int) := ⟨_, (Int.toNat_of_nonneg hin2.1).symm⟩
              have huk : u < k := by have h2 : (outs L v)[j] < (k : Int) := hin2.2; rw [hu] at h2; omega
              have hce : wr.cell? ⟨b2, off2 + j, none⟩ = some (.int .i64 (u : Int)) := by rw [← hu]; exact (HQ.out.1.low.cell (p := ⟨b2, off2 + j, none⟩) hbl2).trans hc0
              have hnow := HQ.out.2.left_now HR.out hjl hu huk
              have hnx := HQ.out.2.next HR.out hjl hu huk (fun x hx => (HIN.out.at_ (2 * v) hx).1)
              have hq6 := Gr.lef_le HR.out out u
              have hmany := less_many HIN.out HSO.out HQ.out.2
              have hclu : wr.cell? ⟨w.heap.size, u, none⟩ = some (.int .i64 (left.getD u 0)) := HQ.out.1.left.at_ u (iv_at (by rw [HQ.out.2.len]; exact huk))
              rw [hnow] at hclu
              have hlen := HQ.out.2.len
              generalize lef L out u = q at *
              have HNX := Lib.hid hnx
              have HST := Lib.hid (HQ.out.1.store u ((q : Int) - 1))
              have hcs : (wr.setCell ⟨w.heap.size, u, none⟩ (.int .i64 ((q : Int) - 1))).cell? ⟨w.heap.size, u, none⟩ = some (.int .i64 ((q : Int) - 1)) := by
                have := HST.out.left.at_ u (iv_at (l := left.set u ((q : Int) - 1)) (i := u) (by rw [List.length_set, hlen]; exact huk))
                rw [this]
                simp [List.getD, hlen, huk]
              have hz : wr.frozen? ⟨w.heap.size, u, none⟩ = false := HQ.out.1.left.frozen u
              have j1 : (0 : Int) ≤ (j : Int) := by omega
              have j2 : (j : Int) < (m : Int) := by omega
              have j3 : (0 : Int) ≤ (u : Int) := by omega
              have j4 : (u : Int) < (k : Int) := by omega
              have HRI := Lib.hid HQ.out.2.rises
              have hszr := HQ.out.1.size
              by_cases hq0 : (q : Int) - 1 = 0
              · have HP := Lib.hid (put_any (wr.setCell ⟨w.heap.size, u, none⟩ (.int .i64 ((q : Int) - 1))) (w.heap.size + 1) (by simpa using hszr) _ _ HST.out.free (by omega) HRI.out (u : Int))
                rw [if_pos hq0] at HNX
                have hq1 : q = 1 := by omega
                clear hq0 hnx hnow hc0 hin2 hlen HRI hmany HQ hbl2
                subst hq1
                clear hu
                go_wp2_with fail
                refine Calls.mono HP.out ?_
                rintro e w4 ⟨v4, rfl, p1, p2, p3⟩
                have HQ2 : Hid (SS w w4 v4 (.slice A2 (mo + 1) c2) (add free (u : Int)) (out ++ [(v : Int)]) (left.set u (((1 : Nat) : Int) - 1)) ∧ Less k L out v rest (add free (u : Int)) (left.set u (((1 : Nat) : Int) - 1)) (j + 1)) := Lib.hid ⟨HST.out.put p1 p2 p3, HNX.out⟩
                clear p1 p2 p3 HP HST HNX hcs hclu hz hce
                go_wp2_with fail
                go_roundw
                case rel => exact ⟨j + 1, _, _, by omega, by go_num, HQ2⟩
                case measure => simp [intOf]; omega
              · have i9 : ((q : Int) - 1 == 0) = false := by rw [beq_eq_false_iff_ne]; exact hq0
                rw [if_neg hq0] at HNX
                have HQ2 : Hid (SS w (wr.setCell ⟨w.heap.size, u, none⟩ (.int .i64 ((q : Int) - 1))) u5 (.slice A2 (mo + 1) c2) free (out ++ [(v : Int)]) (left.set u ((q : Int) - 1)) ∧ Less k L out v rest free (left.set u ((q : Int) - 1)) (j + 1)) := Lib.hid ⟨HST.out, HNX.out⟩
                clear hq0 hnx hnow hc0 hin2 hlen HRI hmany HQ hbl2 HST HNX
                clear hu
                go_wp2_with fail
                go_roundw
                case rel => exact ⟨j + 1, _, _, by omega, by go_num, HQ2⟩
                case measure => simp [intOf]; omega
            · have HQ3 : Hid (mo + 1 = (out ++ [(v : Int)]).length ∧ SS w wr u5 (.slice A2 (mo + 1) c2) free (out ++ [(v : Int)]) left ∧ Sorts k L (out ++ [(v : Int)]) free left) := Lib.hid (by
                have e : j = (outs L v).length := by have := HML.out; omega
                refine ⟨by rw [List.length_append, HMO.out]; rfl, HQ.out.1, ?_⟩
                have h := HQ.out.2
                rw [e] at h
                exact h.done HR.out HCO.out HIN.out HSO.out HFV.out HMIN.out)
              clear HQ
              go_wp2_with fail
              go_roundw
              case rel => exact ⟨_, _, _, _, _, _, rfl, by omega, HQ3⟩
              case measure => simp [lenV]; omega
end Go.Proofs.Ytclbpohhmaojcaa.GrW
