/-
  The walks of slices.Grow, slices.Concat and Glue.
-/
import Derived.Test.YtnclbonoenjbeaaBatWritten
import Derived.Test.YtnclbonoenjbeaaBatRefCut
import Derived.Lib.AppendZeros
import Derived.Lib.AppendZerosOnto
namespace Go.Proofs.Ytnclbonoenjbeaa.BatW
set_option linter.unusedVariables false
open Go.RowKit Go.Proofs Go.Proofs.Ytnclbonoenjbeaa Go.Proofs.Ytnclbonoenjbeaa.Wd Go.Proofs.Ytnclbonoenjbeaa.RecW
open Go.Proofs.Ytnclbonoenjbeaa.Bat (B)

theorem wpList_append_run {P : Program} {ops : Array Oper} {rest : List Oper} {o : Oper} {a : Act} {w : World} {Q : Exit → Act → World → Prop} (hgd : o.guard = none) (s x : Operand) (t tx : TypeId)
    (ho : o.op = .call { callee := .builtin .append, args := #[s, x], argTypes := #[t, tx] }) (v u : Value) (hs : a.eval s = v) (hx : a.eval x = u) {v' : Value} {w' : World} (hrun : (Builtin.append_ #[t, tx] o.type #[v, u]).run P w = .ok v' w')
    (h : wpList P ops Q rest (a.put o.dst v') w') : wpList P ops Q (o :: rest) a w :=
  wpList_plain hgd fun K hK => by
    unfold Oper.wp execOp
    simp only [ho, resolve, invoke, builtin, Sem.run_bind, Sem.run_pure, Result.andThen_ok, List.map_toArray, List.map_cons, List.map_nil, hs, hx, hrun]
    exact hK _ _ h
/-- A row of the call's own with nothing in it. -/
def Empty (w : World) (e : Ending) (w' : World) : Prop := ∃ v, e = .returned v ∧ w'.ownsRow w.heap.size 5 1 v 0 [] ∧ Below w.heap.size w w'
theorem grow_any (n : Nat) (hn : n ≤ 1000000) (w : World) : Calls Try.prog 50 #[.slice none 0 0, .int .i64 n] w (Empty w) := by
  obtain ⟨i0, hi0, hz0, hz1, hz2⟩ := info_parts infoU8
  by_cases h0 : n = 0
  · subst h0
    go_enter Try.func50, Try.ntmps50
    go_wp2
    go_ret
    exact ⟨_, rfl, own_nil _ _ _, Below.refl _ _⟩
  · have u1 : (0 : Int) < (n : Int) := by omega
    have hrun := fun ty => Lib.run_append_nil_zeros (P := Try.prog) w 24 3 ty 5 i0 _ .i64 .i64 Try.underlying24 Try.underlying3 hi0 hz0 n (by omega) (by rw [hz1]; decide) (by omega) (by rw [hz2]; omega)
    have HRUN := Lib.hid hrun
    have hge := grownCap_ge w n 0 5
    have hle := grownCap_le_maxLen w n 0 5 (by unfold maxLen; omega)
    have hz : (Value.int .u8 0).cells = #[.int .u8 0] := rfl
    generalize grownCap w n 0 5 = cp at *
    have hcur : (Builtin.zeroCells (Value.int .u8 0).cells n ++ Builtin.zeroCells (Value.int .u8 0).cells (cp - n)).size = cp := by
      simp [size_zeroCells, hz]; omega
    have HF : Hid (Empty w (.returned (.slice (some ⟨w.heap.size, 0, none⟩) 0 cp)) (w.drew.alloc (.cells (Builtin.zeroCells (Value.int .u8 0).cells n ++ Builtin.zeroCells (Value.int .u8 0).cells (cp - n)) 5))) := Lib.hid (by
      refine ⟨_, rfl, ⟨rfl, .inr ⟨w.heap.size, cp, _, rfl, Nat.le_refl _, Blk.new_ w.drew _ _ rfl, Nat.zero_le _, hle, by rw [hcur]; omega, by simp⟩⟩, ((Below.refl _ w).drew).alloc (Nat.le_refl _) _⟩)
    clear hrun hz hcur
    go_enter Try.func50, Try.ntmps50
    go_wp2_with (at_builtin; refine wpList_append_run rfl (.tmp 20) (.tmp 21) 24 3 rfl (.slice none 0 0) (.int .i64 n) rfl rfl (HRUN.out _) ?_)
    clear HRUN
    go_wp2_with fail
    go_ret
    exact HF.out
/-- Bytes that a call made. -/
def GlueOut (w : World) (l : List UInt8) (e : Ending) (w' : World) : Prop := ∃ A c, e = .returned (.slice A l.length c) ∧ Below w.heap.size w w' ∧ l.length ≤ c ∧ c ≤ maxLen ∧ w'.ownsRow w.heap.size 5 1 (.slice A l.length c) l.length (bs l)
theorem flat_take {b : B} {k : Nat} (h : k < b.length) : (b.take (k + 1)).flatten = (b.take k).flatten ++ b[k] := by
  rw [List.take_succ_eq_append_getElem h, List.flatten_append]; simp
theorem flat_len (b : B) : b.flatten.length = bytesOf b := by unfold bytesOf; exact List.length_flatten
theorem bytesOf_le (b : B) (k : Nat) : bytesOf (b.take k) ≤ bytesOf b := by
  have : b = b.take k ++ b.drop k := (List.take_append_drop k b).symm
  have h2 : bytesOf b = bytesOf (b.take k) + bytesOf (b.drop k) := by
    conv => lhs; rw [this]
    unfold bytesOf; rw [List.map_append, List.sum_append]
  omega
set_option maxRecDepth 100000 in
set_option maxHeartbeats 4000000 in
theorem concat_any (A : Option Addr) (n c : Nat) (r : B) (hn : n = r.length) (hn1 : n ≤ 1000000) (hm : bytesOf r ≤ 1000000) (w : World) (hI : BRows w w.heap.size A r) :
    Calls Try.prog 40 #[.slice A n c] w (GlueOut w r.flatten) := by
  obtain ⟨i0, hi0, hz0, hz1, hz2⟩ := info_parts infoU8
  have HN := Lib.hid hn
  have HM := Lib.hid hm
  clear hn hm
  go_enter Try.func40, Try.ntmps40
  go_wp2
  go_loop [3, 11] (fun v i => ∃ k s : Nat, k ≤ n ∧ i = .int .i64 k ∧ v = .int .i64 s ∧ s ≤ 1000000 ∧ Hid (s = bytesOf (r.take k))) (fun _ i => n - (intOf i).toNat)
  case atStart => exact ⟨0, 0, Nat.zero_le _, rfl, rfl, by omega, Lib.hid rfl⟩
  case round =>
    obtain ⟨k, s, hk, rfl, rfl, hs, HS⟩ := hrel
    by_cases hlt : k < n
    · have hkl : k < r.length := by have := HN.out; omega
      obtain ⟨bb, off, v0, A', c', rfl, hbb, hc, rfl, h1, h2, h3⟩ := hI.lt hkl
      have HE := Lib.hid (bytesOf_take hkl)
      have HB : Hid (bytesOf (r.take (k + 1)) ≤ 1000000) := Lib.hid (Nat.le_trans (bytesOf_le r (k + 1)) HM.out)
      generalize r[k] = d at *
      have i1 : (0 : Int) ≤ (k : Int) := by omega
      have i2 : (k : Int) < (n : Int) := by omega
      have hsd : s + d.length ≤ 1000000 := by have h1 := HB.out; rw [HE.out, ← HS.out] at h1; exact h1
      have HT : Hid (s + d.length = bytesOf (r.take (k + 1))) := Lib.hid (by rw [HE.out, ← HS.out])
      have u1 : ¬ ((s : Int) + (d.length : Int) < 0) := by omega
      clear h3 HS HE HB
      go_wp2_with fail
      go_round
      case rel => exact ⟨k + 1, s + d.length, by omega, by go_num, by go_num, hsd, HT⟩
      case measure => simp [intOf]; omega
    · obtain rfl : k = n := by omega
      clear HS
      go_wp2_with fail
      refine Calls.mono (grow_any s hs w) ?_
      rintro e w1 ⟨v1, rfl, ho1, hb1⟩
      have HO1 := Lib.hid ho1
      have HB1 := Lib.hid hb1
      clear ho1 hb1
      go_wp2_with fail
      go_loopw [6, 27] (fun v i wr => ∃ (j : Nat) (l : List UInt8), j ≤ k ∧ i = .int .i64 j ∧ l.length ≤ 1000000 ∧ Hid (l = (r.take j).flatten) ∧ Hid (wr.ownsRow w.heap.size 5 1 v l.length (bs l)) ∧ Hid (Below w.heap.size w wr)) (fun _ i _ => k - (intOf i).toNat)
      case atStart => exact ⟨0, [], Nat.zero_le _, rfl, Nat.zero_le _, Lib.hid rfl, HO1, HB1⟩
      case round =>
        clear HO1 HB1
        obtain ⟨j, l, hj, rfl, hl, HT, HO, HB⟩ := hrel
        by_cases hlt2 : j < k
        · have hkl : j < r.length := by have := HN.out; omega
          obtain ⟨bb, off, v0, A', c', rfl, hbb, hc, rfl, h1, h2, h3⟩ := hI.lt hkl
          have HE := Lib.hid (flat_take hkl)
          have HLE : Hid ((r.take (j + 1)).flatten.length ≤ 1000000) := Lib.hid (by rw [flat_len]; exact Nat.le_trans (bytesOf_le r (j + 1)) HM.out)
          generalize r[j] = d at *
          have hc' := (HB.out.cell (p := ⟨bb, _, none⟩) hbb).trans hc
          have HD := Lib.hid ((Row.below h3 HB.out).more HB.out.size)
          have i1 : (0 : Int) ≤ (j : Int) := by omega
          have i2 : (j : Int) < (k : Int) := by omega
          have HT2 : Hid (l ++ d = (r.take (j + 1)).flatten) := Lib.hid (by rw [HE.out, HT.out])
          have hld : (l ++ d).length ≤ 1000000 := by rw [HT2.out]; exact HLE.out
          have hld2 : l.length + d.length ≤ 1000000 := by rw [List.length_append] at hld; exact hld
          clear hc h3 HT HE HLE
          go_wp2_with (at_builtin; refine wpList_append_row _ rfl (.tmp 31) (.tmp 32) _ rfl w.heap.size 5 i0 _ 1 Try.underlying24 hi0 hz0 hz1 hz2 rfl _ l.length (bs l) rfl (by exact HO.out) wr.heap.size A' d.length c' (bs d) rfl (bs_length d).symm (by exact HD.out) (bs_one d) (by unfold maxLen; omega) (by omega) (by exact HB.out.size) ?_)
          intro v2 w2 hown hgrow _ _
          have HB2 := Lib.hid (HB.out.grown hgrow HB.out.size (fun g hg => (own_row HO.out hg).1))
          have HO2 : Hid (w2.ownsRow w.heap.size 5 1 v2 (l ++ d).length (bs (l ++ d))) := Lib.hid (by rw [List.length_append, bs_append]; exact hown)
          clear hown hgrow HO HB HD
          go_wp2_with fail
          go_roundw
          case rel => exact ⟨j + 1, l ++ d, by omega, by go_num, hld, HT2, HO2, HB2⟩
          case measure => simp [intOf]; omega
        · obtain rfl : j = k := by omega
          obtain ⟨A2, c2, hv2, hc2, -, -⟩ := own_bytes HO.out
          subst hv2
          have HF : Hid (GlueOut w r.flatten (.returned (.slice A2 l.length c2)) wr) := Lib.hid (by
            have e : l = r.flatten := by rw [HT.out, List.take_of_length_le (by have := HN.out; omega)]
            rw [← e]
            exact ⟨A2, c2, rfl, HB.out, hc2, RecW.own_cap HO.out, HO.out⟩)
          clear HO HT hc2
          go_wp2_with fail
          go_ret
          exact HF.out
theorem glue_any (A : Option Addr) (n c : Nat) (r : B) (hn : n = r.length) (hn1 : n ≤ 1000000) (hm : bytesOf r ≤ 1000000) (w : World) (hI : BRows w w.heap.size A r) :
    Calls Try.prog 25 #[.slice A n c] w (GlueOut w r.flatten) := by
  have HC := Lib.hid (concat_any A n c r hn hn1 hm w hI)
  clear hn hm
  go_enter Try.func25, Try.ntmps25
  go_wp2_with fail
  refine Calls.mono HC.out ?_
  rintro e w1 ⟨A1, c1, rfl, hb, h1, h2, ho⟩
  have HF : Hid (GlueOut w r.flatten (.returned (.slice A1 r.flatten.length c1)) w1) := Lib.hid ⟨A1, c1, rfl, hb, h1, h2, ho⟩
  obtain ⟨y, hy⟩ : ∃ y, y = r.flatten.length := ⟨_, rfl⟩
  rw [← hy] at HF ⊢
  clear hy h1 h2 ho hb HC
  go_wp2_with fail
  go_ret
  exact HF.out
end Go.Proofs.Ytnclbonoenjbeaa.BatW
