/-
  The walks of written and Few.
-/
import Derived.Test.YtnclbonoenjbeaaBatRef0
import Derived.Test.YtnclbonoenjbeaaBatAwake
namespace Go.Proofs.Ytnclbonoenjbeaa.BatW
set_option linter.unusedVariables false
open Go.RowKit Go.Proofs Go.Proofs.Ytnclbonoenjbeaa Go.Proofs.Ytnclbonoenjbeaa.Wd Go.Proofs.Ytnclbonoenjbeaa.RecW
open Go.Proofs.Ytnclbonoenjbeaa.Bat (B cnt scan put wrong longB rowsLong long writ allRight)

/-- How much there is in rows, in rows of rows. -/
def mass (b : B) : Nat := (b.map fun d => d.length + 1).sum + 1
def mass3 (l : List B) : Nat := (l.map mass).sum + 1
theorem rows_mass (b : B) : rowsLong b + 11 ≤ 11 * mass b := by
  unfold mass
  induction b with
  | nil => simp [rowsLong]
  | cons d t ih =>
    have e : rowsLong (d :: t) = d.length + 9 + rowsLong t := by simp [rowsLong]
    rw [e, List.map_cons, List.sum_cons]; omega
theorem put_mass (b : B) : (put b).length ≤ 11 * mass b := by
  rw [Bat.put_length]
  have := rows_mass b
  unfold longB
  split <;> omega
theorem writ_mass (l : List B) : (writ l).length + 11 ≤ 11 * mass3 l := by
  induction l with
  | nil => simp [writ, mass3]
  | cons b t ih =>
    have := put_mass b
    have e : (writ (b :: t)).length = (put b).length + (writ t).length := by simp [writ]
    have e2 : mass3 (b :: t) = mass b + mass3 t := by unfold mass3; rw [List.map_cons, List.sum_cons]; omega
    rw [e, e2]; omega
theorem mass3_append (l m : List B) : mass3 (l ++ m) + 1 = mass3 l + mass3 m := by unfold mass3; rw [List.map_append, List.sum_append]; omega
theorem mass3_take (l : List B) (k : Nat) : mass3 (l.take k) ≤ mass3 l := by
  have := mass3_append (l.take k) (l.drop k)
  rw [List.take_append_drop] at this
  have : 1 ≤ mass3 (l.drop k) := by unfold mass3; omega
  omega
theorem length_mass3 (l : List B) : l.length + 1 ≤ mass3 l := by
  induction l with
  | nil => simp [mass3]
  | cons b t ih =>
    have e2 : mass3 (b :: t) = mass b + mass3 t := by unfold mass3; rw [List.map_cons, List.sum_cons]; omega
    have : 1 ≤ mass b := by unfold mass; omega
    rw [e2, List.length_cons]; omega
theorem writ_take {l : List B} {k : Nat} (h : k < l.length) : writ (l.take (k + 1)) = writ (l.take k) ++ put l[k] := by
  rw [List.take_succ_eq_append_getElem h, Bat.writ_snoc]
theorem right_take {l : List B} {k : Nat} (h : k < l.length) (ht : allRight (l.take k) = true) (hk : wrong l[k] = 0) : allRight (l.take (k + 1)) = true := by
  rw [List.take_succ_eq_append_getElem h]
  unfold allRight at *
  rw [List.all_append, ht]; simp [hk]
theorem right_get {l : List B} {k : Nat} (h : k < l.length) (hk : wrong l[k] ≠ 0) : allRight l = false := by
  rw [Bool.eq_false_iff]
  intro ha
  unfold allRight at ha
  rw [List.all_eq_true] at ha
  exact hk (by simpa using ha l[k] (List.getElem_mem h))
/-- Where each batch ends. -/
def endsV (l : List B) (j : Nat) : List Value := (List.range j).map fun i => .int .i64 ((writ (l.take (i + 1))).length : Nat)
theorem endsV_snoc (l : List B) (j : Nat) : endsV l (j + 1) = endsV l j ++ [.int .i64 ((writ (l.take (j + 1))).length : Nat)] := by unfold endsV; rw [List.range_succ, List.map_append]; rfl
theorem endsV_length (l : List B) (j : Nat) : (endsV l j).length = j := by simp [endsV]
def Written (w : World) (l : List B) (e : Ending) (w' : World) : Prop :=
  Below w.heap.size w w' ∧ (allRight l = false → e = .returned (.tuple #[.slice none 0 0, .slice none 0 0, .bool false])) ∧
  (allRight l = true → ∃ A c A2 c2, e = .returned (.tuple #[.slice A (writ l).length c, .slice A2 l.length c2, .bool true]) ∧ (writ l).length ≤ c ∧ c ≤ maxLen ∧ Bytes w' w'.heap.size A (writ l) ∧ l.length ≤ c2 ∧ Row w' w'.heap.size A2 (endsV l l.length))
theorem infoInt : (Try.prog.info? 3).map (fun i => (i.zero, i.size, i.bytes)) = some (some (.int .i64 0), 1, 8) := by kernel_rfl
set_option maxRecDepth 100000 in
set_option maxHeartbeats 4000000 in
theorem written_any (A : Option Addr) (n c : Nat) (l : List B) (hn : n = l.length) (hnc : n ≤ c) (hmass : mass3 l ≤ 1048576) (w : World) (hI : BRows3 w w.heap.size A l) :
    Calls Try.prog 9 #[.slice A n c] w (Written w l) := by
  obtain ⟨i0, hi0, hz0, hz1, hz2⟩ := info_parts infoU8
  obtain ⟨j0, hj0, hy0, hy1, hy2⟩ := info_parts infoInt
  have HN := Lib.hid hn
  have HMS := Lib.hid hmass
  have hn1 : n ≤ 1048576 := by have := length_mass3 l; omega
  clear hn hmass
  go_enter Try.func9, Try.ntmps9
  go_wp2
  go_loopw [5, 6, 13] (fun v u i wr => ∃ (k : Nat) (t : List UInt8), k ≤ n ∧ i = .int .i64 k ∧ Hid (t = writ (l.take k)) ∧ Hid (allRight (l.take k) = true) ∧ t.length ≤ 11534336 ∧ Hid (wr.ownsRow w.heap.size 5 1 v t.length (bs t)) ∧ Hid (wr.ownsRow w.heap.size 3 1 u k (endsV l k)) ∧ Hid (Below w.heap.size w wr)) (fun _ _ i _ => n - (intOf i).toNat)
  case atStart => exact ⟨0, [], Nat.zero_le _, rfl, Lib.hid rfl, Lib.hid rfl, Nat.zero_le _, Lib.hid (own_nil _ _ _), Lib.hid (own_nil _ _ _), Lib.hid (Below.refl _ _)⟩
  case round =>
    obtain ⟨k, t, hk, rfl, hT, hA, htl, HO, HE, HB⟩ := hrel
    by_cases hlt : k < n
    · have hkl : k < l.length := by have := HN.out; omega
      obtain ⟨bb, off, v0, rfl, hbb, hc, A', c', rfl, q1, q2, q3⟩ := hI k hkl
      have hc' := (HB.out.cell (p := ⟨bb, _, none⟩) hbb).trans hc
      have HWT := Lib.hid (writ_take hkl)
      have HRT := Lib.hid (right_take hkl hA.out)
      have HRG := Lib.hid (right_get hkl)
      have HML : Hid ((writ (l.take (k + 1))).length ≤ 11534336) := Lib.hid (by have h1 := writ_mass (l.take (k + 1)); have h2 := mass3_take l (k + 1); have := HMS.out; omega)
      generalize l[k] = d at *
      have i1 : (0 : Int) ≤ (k : Int) := by omega
      have i2 : (k : Int) < (n : Int) := by omega
      have HP := Lib.hid (bput_any A' d.length c' d rfl (by omega) wr ((q3.below HB.out).more HB.out.size))
      clear hc q1 q2 q3
      go_wp2_with fail
      refine Calls.mono HP.out ?_
      rintro e w1 ⟨A1, c1, rfl, hb1, h4, h5, ho1⟩
      have HB1 := Lib.hid (HB.out.trans (hb1.mono HB.out.size))
      have HO1 := Lib.hid (own_belowT HO.out hb1)
      have HE1 := Lib.hid (own_belowT HE.out hb1)
      have HX1 := Lib.hid (own_rd ho1)
      obtain ⟨er, her⟩ : ∃ x, x = wrong d := ⟨_, rfl⟩
      have HER := Lib.hid her
      rw [← her]
      clear HP hb1 ho1 HO HE HB her
      by_cases he : er = 0
      · subst he
        have HT2 : Hid (t ++ put d = writ (l.take (k + 1))) := Lib.hid (by rw [HWT.out, hT.out])
        have hle : (t ++ put d).length ≤ 11534336 := by rw [HT2.out]; exact HML.out
        rw [List.length_append] at hle
        have HA2 : Hid (allRight (l.take (k + 1)) = true) := Lib.hid (HRT.out HER.out.symm)
        have HEV : Hid (endsV l (k + 1) = endsV l k ++ [.int .i64 ((t ++ put d).length : Nat)]) := Lib.hid (by rw [endsV_snoc, HT2.out])
        generalize put d = x at *
        clear HWT HRT HRG HML hT hA
        go_wp2_with (at_builtin; refine wpList_append_row _ rfl (.tmp 24) (.tmp 25) _ rfl w.heap.size 5 i0 _ 1 Try.underlying24 hi0 hz0 hz1 hz2 rfl _ t.length (bs t) rfl (by exact HO1.out) w1.heap.size A1 x.length c1 (bs x) rfl (bs_length x).symm (by exact HX1.out) (bs_one x) (by unfold maxLen; omega) (by omega) (by exact HB1.out.size) ?_)
        intro v2 w2 hown hgrow _ _
        have HB2 := Lib.hid (HB1.out.grown hgrow HB1.out.size (fun g hg => (own_row HO1.out hg).1))
        have HE2 := Lib.hid (own_Ts HE1.out (KeepT.grownOther (row' := none) hgrow (row_other HO1.out (by decide))) (fun _ _ => by simp))
        have HO2 : Hid (w2.ownsRow w.heap.size 5 1 v2 (t ++ x).length (bs (t ++ x))) := Lib.hid (by rw [List.length_append, bs_append]; exact hown)
        obtain ⟨tl, htl2⟩ : ∃ z, z = (t ++ x).length := ⟨_, rfl⟩
        have HTL := Lib.hid htl2
        have htlb : tl ≤ 11534336 := by rw [htl2, List.length_append]; exact hle
        rw [← htl2] at HEV
        have htx : t.length + x.length = tl := by rw [htl2, List.length_append]
        obtain ⟨A2, c2, rfl⟩ := own_form hown
        have hba : Below w2.heap.size w2 (w2.alloc (.cells #[.int .i64 (tl : Nat)] 3)) := (Below.refl _ w2).alloc (Nat.le_refl _) _
        have HB3 := Lib.hid (HB2.out.trans (hba.mono HB2.out.size))
        have ho2 := HO2.out
        rw [htx] at ho2
        have HO3 := Lib.hid (own_belowT ho2 hba)
        clear ho2
        have HE3 := Lib.hid (own_belowT HE2.out hba)
        have HRW : Hid (Row (w2.alloc (.cells #[.int .i64 (tl : Nat)] 3)) (w2.heap.size + 1) (some ⟨w2.heap.size, 0, none⟩) [.int .i64 (tl : Nat)]) := Lib.hid (Row.blk (Blk.new_ w2 3 #[.int .i64 (tl : Nat)] rfl) (B := w2.heap.size + 1) (Nat.lt_succ_self _))
        rw [htx]
        clear hown hgrow hba HO1 HE1 HX1 HB1 HB2 HE2 HO2 htl2 htx
        go_wp2_with (at_builtin; refine wpList_append_row _ rfl (.tmp 27) (.tmp 30) _ rfl w.heap.size 3 j0 _ 8 Try.underlying25 hj0 hy0 hy1 hy2 rfl _ k (endsV l k) rfl (by exact HE3.out) (w2.heap.size + 1) (some ⟨w2.heap.size, 0, none⟩) 1 1 [.int .i64 (tl : Nat)] rfl rfl (by exact HRW.out) (by intro u hu; simp only [List.mem_singleton] at hu; subst hu; rfl) (by unfold maxLen; omega) (by omega) (by exact HB3.out.size) ?_)
        intro v4 w4 hown hgrow _ _
        have HB4 := Lib.hid (HB3.out.grown hgrow HB3.out.size (fun g hg => (own_row HE3.out hg).1))
        have HO4 : Hid (w4.ownsRow w.heap.size 5 1 (.slice A2 tl c2) (t ++ x).length (bs (t ++ x))) := Lib.hid (own_Ts HO3.out (KeepT.grownOther (row' := none) hgrow (row_other HE3.out (by decide))) (fun _ _ => by simp))
        have HE4 : Hid (w4.ownsRow w.heap.size 3 1 v4 (k + 1) (endsV l (k + 1))) := Lib.hid (by rw [HEV.out]; exact hown)
        have hfb : (t ++ x).length ≤ 11534336 := by rw [← HTL.out]; exact htlb
        clear hown hgrow HE3 HRW HB3 HO3
        go_wp2_with fail
        go_roundw
        case rel => exact ⟨k + 1, t ++ x, by omega, by go_num, HT2, HA2, hfb, HO4, HE4, HB4⟩
        case measure => simp [intOf]; omega
      · have HAL := Lib.hid (HRG.out (by rw [← HER.out]; exact he))
        have hne : ((er : Int) != 0) = true := by rw [bne_iff_ne]; omega
        clear HWT HRT HRG HML he
        go_wp2_with fail
        go_ret3
        exact ⟨HB1.out, fun _ => rfl, (fun h => by rw [HAL.out] at h; cases h)⟩
    · obtain rfl : k = n := by omega
      have hall : l.take k = l := List.take_of_length_le (by have := HN.out; omega)
      have HT : Hid (t = writ l) := Lib.hid (by rw [hT.out, hall])
      have HA : Hid (allRight l = true) := Lib.hid (by have := hA.out; rwa [hall] at this)
      obtain ⟨A1, c1, hv1, hc1, -, hr1⟩ := own_bytes HO.out
      subst hv1
      have hm1 := RecW.own_cap HO.out
      obtain ⟨A2, c2, hv2, hr2⟩ := own_slice HE.out
      subst hv2
      have hc2 := own_le HE.out
      have HF : Hid (Written w l (.returned (.tuple #[.slice A1 t.length c1, .slice A2 k c2, .bool true])) wr) := Lib.hid
        ⟨HB.out, (fun h => by rw [HA.out] at h; cases h), fun _ => ⟨A1, c1, A2, c2, by rw [← HT.out, ← HN.out], by rw [← HT.out]; exact hc1, hm1, by rw [← HT.out]; exact hr1, by rw [← HN.out]; exact hc2, by rw [← HN.out]; exact hr2⟩⟩
      clear hall hT hA hr1 hr2 HO HE hc1 hc2
      go_wp2_with fail
      go_ret3
      exact HF.out
/-- A truth, whichever. -/
def SomeB (w : World) (e : Ending) (w' : World) : Prop := ∃ q : Bool, e = .returned (.bool q) ∧ w = w'
set_option maxHeartbeats 1000000 in
theorem few_any (A : Option Addr) (n c : Nat) (l : List B) (hn : n = l.length) (hnc : n ≤ c) (hm : c ≤ maxLen) (w : World) (hI : BRows3 w w.heap.size A l) :
    Calls Try.prog 10 #[.slice A n c] w (SomeB w) := by
  have HN := Lib.hid hn
  unfold maxLen at hm
  clear hn
  go_enter Try.func10, Try.ntmps10
  go_wp2
  go_loop [3, 8] (fun v i => ∃ (k : Nat) (z : Int), k ≤ n ∧ i = .int .i64 k ∧ v = .int .i64 z ∧ -9223372036854775808 ≤ z ∧ z ≤ 9223372036854775807) (fun _ i => n - (intOf i).toNat)
  case atStart => exact ⟨0, 0, Nat.zero_le _, rfl, rfl, by decide, by decide⟩
  case round =>
    obtain ⟨k, z, hk, rfl, rfl, z1, z2⟩ := hrel
    by_cases hlt : k < n
    · have hkl : k < l.length := by have := HN.out; omega
      obtain ⟨bb, off, v0, rfl, hbb, hc, A', c', rfl, q1, q2, q3⟩ := hI k hkl
      have HS := Lib.hid (bytesof_any A' l[k].length c' l[k] rfl (by omega) w q3)
      obtain ⟨m, hm1⟩ : ∃ m, m = l[k].length := ⟨_, rfl⟩
      rw [← hm1] at hc HS q1
      clear q3 hm1
      have i1 : (0 : Int) ≤ (k : Int) := by omega
      have i2 : (k : Int) < (n : Int) := by omega
      go_wp2_with fail
      refine Calls.mono HS.out ?_
      rintro e w' ⟨y, rfl, rfl, y1, y2, -⟩
      obtain ⟨s1, hs1⟩ : ∃ x, x = IntKind.i64.wrap ((m : Int) + y) := ⟨_, rfl⟩
      have b1 := wrap_in ((m : Int) + y)
      rw [← hs1] at b1
      obtain ⟨s2, hs2⟩ : ∃ x, x = IntKind.i64.wrap (z + s1) := ⟨_, rfl⟩
      have b2 := wrap_in (z + s1)
      rw [← hs2] at b2
      have h1 := hs1.symm
      have h2 := hs2.symm
      clear hs1 hs2 HS
      go_wp2_with fail
      go_round
      case rel => exact ⟨k + 1, s2, by omega, by go_num, rfl, b2.1, b2.2⟩
      case measure => simp [intOf]; omega
    · obtain rfl : k = n := by omega
      go_wp2_with fail
      all_goals
        go_ret
        exact ⟨_, rfl, rfl⟩
end Go.Proofs.Ytnclbonoenjbeaa.BatW
