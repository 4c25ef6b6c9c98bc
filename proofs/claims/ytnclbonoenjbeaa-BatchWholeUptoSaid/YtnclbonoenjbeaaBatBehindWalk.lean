/-
  The walk of BatchBehind.
-/
import Derived.Test.YtnclbonoenjbeaaBatWritten
import Derived.Test.YtnclbonoenjbeaaBatSame
import Derived.Test.YtnclbonoenjbeaaBatRef
namespace Go.Proofs.Ytnclbonoenjbeaa.BatW
set_option linter.unusedVariables false
open Go.RowKit Go.Proofs Go.Proofs.Ytnclbonoenjbeaa Go.Proofs.Ytnclbonoenjbeaa.Wd Go.Proofs.Ytnclbonoenjbeaa.RecW
open Go.Proofs.Ytnclbonoenjbeaa.Bat (B cnt scan put wrong longB rowsLong long writ allRight)

/-- How many batches there are in bytes. -/
theorem scan_count (b : List UInt8) : (scan b).1.length ≤ b.length := by
  have key : ∀ (e : Nat) (rs : List Rec.R) (s : Bat.St) (k te : Nat), (Bat.run e rs s k te).1.length ≤ s.1.length + rs.length := by
    intro e rs
    induction rs with
    | nil => intro s k te; simp [Bat.run]
    | cons r t ih =>
      intro s k te
      simp only [Bat.run]
      split
      · simp
      · have h1 := ih (Bat.take s r).1 (k + (r.2.length + 9)) (if (Bat.take s r).2.1 = true then k + (r.2.length + 9) else te)
        have h2 := Bat.take_bound (s := s) (r := r) (Nat.le_refl s.1.length)
        rw [List.length_cons]; omega
  have h1 := key (Rec.all b).2.2 (Rec.all b).1 ([], []) 0 0
  have h2 := all_weight b
  have h3 := Rec.length_le_weight (Rec.all b).1
  unfold Bat.scan
  simp at h1
  omega
theorem run_end (e : Nat) : ∀ (rs : List Rec.R) (s : Bat.St) (k te : Nat), te ≤ k → (Bat.run e rs s k te).2.1 ≤ k + Rec.weight rs := by
  intro rs
  induction rs with
  | nil => intro s k te h; simp [Bat.run, Rec.weight]; exact h
  | cons r t ih =>
    intro s k te h
    have e : Rec.weight (r :: t) = r.2.length + 9 + Rec.weight t := by simp [Rec.weight]
    simp only [Bat.run]
    split
    · dsimp only; omega
    · have h1 := ih (Bat.take s r).1 (k + (r.2.length + 9)) (if (Bat.take s r).2.1 = true then k + (r.2.length + 9) else te) (by split <;> omega)
      omega
theorem scan_end (b : List UInt8) : (scan b).2.1 ≤ b.length := by
  have h1 := run_end (Rec.all b).2.2 (Rec.all b).1 ([], []) 0 0 (Nat.le_refl _)
  have h2 := all_weight b
  unfold Bat.scan
  omega
set_option maxRecDepth 100000 in
set_option maxHeartbeats 8000000 in
theorem behind_walk (A0 A1 : Option Addr) (n0 c0 n1 c1 : Nat) (l : List B) (b : List UInt8) (h0 : n0 = l.length) (h1 : n1 = b.length) (k0 : n0 ≤ c0) (k1 : n1 ≤ c1) (m0 : c0 ≤ maxLen) (m1 : c1 ≤ maxLen) (hmass : mass3 l ≤ 1048576)
    (w : World) (hl : BRows3 w w.heap.size A0 l) (hb : Bytes w w.heap.size A1 b) :
    Calls Try.prog 4 #[.slice A0 n0 c0, .slice A1 n1 c1] w fun e w' => e = .returned (.bool true) ∧ Below w.heap.size w w' := by
  obtain ⟨i0, hi0, hz0, hz1, hz2⟩ := info_parts infoU8
  obtain ⟨j0, hj0, hy0, hy1, hy2⟩ := info_parts infoSS
  have HL : Hid (∀ W, Below w.heap.size w W → BRows3 W W.heap.size A0 l) := Lib.hid fun W hW => hl.grow hW
  have HBt : Hid (∀ W, Below w.heap.size w W → Bytes W W.heap.size A1 b) := Lib.hid fun W hW => Bytes.grow hb hW
  have H0 := Lib.hid h0
  have H1 := Lib.hid h1
  have hwm : (writ l).length ≤ 11534336 := by have := writ_mass l; omega
  have hn0 : n0 ≤ 1048576 := by have := length_mass3 l; omega
  have HWR := Lib.hid (written_any A0 n0 c0 l h0 k0 hmass w hl)
  clear h0 h1 hl hb hmass
  go_enter Try.func4, Try.ntmps4
  go_wp2_with fail
  refine Calls.mono HWR.out ?_
  rintro e w1 ⟨hb1, hno, hyes⟩
  have HB1 := Lib.hid hb1
  clear HWR hb1
  cases hA : allRight l
  · have he := hno hA
    subst he
    clear hno hyes hA
    go_wp2_with fail
    refine Calls.mono (awake_any w1) ?_
    rintro e w2 ⟨rfl, hb⟩
    have HB := Lib.hid (HB1.out.trans (hb.mono HB1.out.size))
    clear hb
    go_wp2_with fail
    go_ret
    exact ⟨rfl, HB.out⟩
  obtain ⟨Ab, cb, Ae, ce, he, q1, q2, hrb, -, -⟩ := hyes hA
  subst he
  have HRB := Lib.hid hrb
  have HSC1 := Lib.hid (Bat.scan_writ hA b)
  have HCT := Lib.hid (scan_count b)
  have HEN := Lib.hid (scan_end b)
  have HFEW := Lib.hid (few_any A0 n0 c0 l H0.out k0 m0 w1 (HL.out _ HB1.out))
  generalize writ l = x at *
  clear hno hyes hA hrb
  go_wp2_with fail
  refine Calls.mono HFEW.out ?_
  rintro e w' ⟨q, rfl, rfl⟩
  clear HFEW
  cases q
  · go_wp2_with fail
    refine Calls.mono (awake_any w1) ?_
    rintro e w2 ⟨rfl, hb⟩
    have HB := Lib.hid (HB1.out.trans (hb.mono HB1.out.size))
    clear hb
    go_wp2_with fail
    go_ret
    exact ⟨rfl, HB.out⟩
  by_cases g1 : 2000 < n1
  · have u1 : (2000 : Int) < (n1 : Int) := by omega
    go_wp2_with fail
    refine Calls.mono (awake_any w1) ?_
    rintro e w2 ⟨rfl, hb⟩
    have HB := Lib.hid (HB1.out.trans (hb.mono HB1.out.size))
    clear hb
    go_wp2_with fail
    go_ret
    exact ⟨rfl, HB.out⟩
  have u1 : ¬ (2000 : Int) < (n1 : Int) := by omega
  have HAN := Lib.hid (anew_any Ab cb x x.length rfl (by omega) w1 HRB.out)
  go_wp2_with fail
  refine Calls.mono HAN.out ?_
  rintro e w2 ⟨v2, rfl, ho2, hb2⟩
  have HB2 := Lib.hid (HB1.out.trans (hb2.mono HB1.out.size))
  have HO2 := Lib.hid ho2
  have HZ2 := Lib.hid hb2
  have HM2 := Lib.hid (HBt.out _ HB2.out)
  have HXL : Hid (n1 = (bs b).length) := Lib.hid (by rw [bs_length]; exact H1.out)
  clear HAN hb2 ho2 u1
  go_wp2_with (at_builtin; refine wpList_append_row _ rfl (.tmp 36) (.tmp 37) _ rfl w1.heap.size 5 i0 _ 1 Try.underlying24 hi0 hz0 hz1 hz2 rfl _ x.length (bs x) rfl (by exact HO2.out) w2.heap.size A1 n1 c1 (bs b) rfl (by exact HXL.out) (by exact HM2.out) (bs_one _) (by unfold maxLen; omega) (by omega) (by exact HZ2.out.size) ?_)
  intro v3 w3 hown hgrow _ _
  have hb3 := HZ2.out.grown hgrow HZ2.out.size (fun g hg => (own_row HO2.out hg).1)
  have HB3 := Lib.hid (HB1.out.trans (hb3.mono HB1.out.size))
  rw [← bs_append] at hown
  obtain ⟨A3, c3, rfl⟩ := own_form hown
  have HSA := Lib.hid (bscan_any A3 c3 (x ++ b) (x.length + n1) (by rw [List.length_append, ← H1.out]) (own_le hown) (by omega) w3 (own_rd hown))
  clear hown hgrow hb3 HO2 HZ2 HM2 HB2 HXL
  go_wp2_with fail
  refine Calls.mono HSA.out ?_
  rintro e w4 ⟨A4, c4, rfl, hb4, e1, e2, hr4⟩
  rw [HSC1.out] at e1 hr4 ⊢
  dsimp only at e1 hr4 ⊢
  have HB4 := Lib.hid (HB3.out.trans (hb4.mono HB3.out.size))
  have HR4 := Lib.hid hr4
  have HSB := Lib.hid (bscan_any A1 c1 b n1 H1.out k1 (by omega) w4 (HBt.out _ HB4.out))
  obtain ⟨⟨ll, te, er⟩, hs⟩ : ∃ s, scan b = s := ⟨_, rfl⟩
  rw [hs] at HCT HEN HR4 e1 ⊢
  dsimp only at HCT HEN HR4 e1 ⊢
  have HS := Lib.hid hs
  have hll : ll.length ≤ 2000 := by have := HCT.out; have := H1.out; omega
  have hte : te ≤ 2000 := by have := HEN.out; have := H1.out; omega
  obtain ⟨y, hy⟩ : ∃ y, y = (l ++ ll).length := ⟨_, rfl⟩
  have HY := Lib.hid hy
  rw [← hy] at e1 ⊢
  clear HSA hb4 hr4 hs HSC1 HCT HEN HB3 hy
  go_wp2_with fail
  refine Calls.mono HSB.out ?_
  rintro e w5 ⟨A5, c5, rfl, hb5, e3, e4, hr5⟩
  rw [HS.out] at e3 hr5 ⊢
  dsimp only at e3 hr5 ⊢
  have HB5 := Lib.hid (HB4.out.trans (hb5.mono HB4.out.size))
  have HR4b := Lib.hid (HR4.out.grow hb5)
  obtain ⟨xs, hxr, hxx, hx1⟩ := (HL.out _ HB5.out).reads
  have HXL : Hid (n0 = xs.length) := Lib.hid (by rw [hxx.1]; exact H0.out)
  have hba : Below w5.heap.size w5 (w5.alloc (.cells #[] 37)) := (Below.refl _ w5).alloc (Nat.le_refl _) _
  have HXR : Hid (Row (w5.alloc (.cells #[] 37)) w5.heap.size A0 xs) := Lib.hid (hxr.below hba)
  have HXX := Lib.hid hxx
  have HX1 := Lib.hid hx1
  have HR5 := Lib.hid hr5
  have HOE := Lib.hid (own_empty w5 37 (Nat.le_refl w5.heap.size))
  obtain ⟨z, hz⟩ : ∃ z, z = ll.length := ⟨_, rfl⟩
  have HZ := Lib.hid hz
  rw [← hz] at e3 hll ⊢
  clear HSB hb5 HR4 hr5 hxr hxx hx1 hba HB4 hz
  go_wp2_with (at_builtin; refine wpList_append_row _ rfl (.tmp 49) (.tmp 50) _ rfl w5.heap.size 37 j0 _ 24 Try.underlying22 hj0 hy0 hy1 hy2 rfl _ 0 [] rfl (by exact HOE.out) w5.heap.size A0 n0 c0 xs rfl (by exact HXL.out) (by exact HXR.out) (by exact HX1.out) (by unfold maxLen; omega) (by omega) (by simp) ?_)
  intro v6 w6 hown6 hgrow _ _
  have HB6 : Hid (Below w5.heap.size w5 w6) := Lib.hid (((Below.refl _ w5).alloc (Nat.le_refl _) (.cells #[] 37)).grown hgrow (by simp) (fun g hg => by have := (own_row HOE.out hg).1; exact this))
  obtain ⟨ys, hyr, hyy, hy1'⟩ := (HR5.out.grow HB6.out).reads
  have HYL : Hid (z = ys.length) := Lib.hid (by rw [hyy.1]; exact HZ.out)
  have HYR := Lib.hid hyr
  have HYY := Lib.hid hyy
  have HY1 := Lib.hid hy1'
  have HO6 : Hid (w6.ownsRow w5.heap.size 37 1 v6 n0 xs) := Lib.hid (by simpa using hown6)
  clear hown6 hgrow hyr hyy hy1' HXR HX1 HOE
  go_wp2_with (at_builtin; refine wpList_append_row _ rfl (.tmp 51) (.tmp 52) _ rfl w5.heap.size 37 j0 _ 24 Try.underlying22 hj0 hy0 hy1 hy2 rfl _ n0 xs rfl (by exact HO6.out) w6.heap.size A5 z c5 ys rfl (by exact HYL.out) (by exact HYR.out) (by exact HY1.out) (by unfold maxLen; omega) (by omega) (by exact HB6.out.size) ?_)
  intro v7 w7 hown7 hgrow _ _
  have HB7 := Lib.hid (HB6.out.grown hgrow HB6.out.size (fun g hg => (own_row HO6.out hg).1))
  have HBF := Lib.hid (HB5.out.trans (HB7.out.mono HB5.out.size))
  obtain ⟨A7, c7, rfl, hr7⟩ := own_slice hown7
  have hb67 : Below w6.heap.size w6 w7 ∨ True := .inr trivial
  have hrd : Reads3 w7 w7.heap.size (xs ++ ys) (l ++ ll) := by
    have a1 := ((HXX.out.below HB7.out).more HB7.out.size)
    have a2 : Reads3 w7 w7.heap.size ys ll := by
      obtain ⟨p1, p2⟩ := HYY.out
      have : BRows3 w7 w7.heap.size A5 ll := HR5.out.grow HB7.out
      refine ⟨p1, fun j hj => ?_⟩
      obtain ⟨b1, o1, u, e1', hlt, hcell, hsr⟩ := this j hj
      obtain ⟨b2, o2, e2', hlt2, hcell2⟩ := HYR.out j (by omega)
      rw [e1'] at e2'
      cases e2'
      have hc6 : w6.cell? ⟨b1, o1 + j, none⟩ = some u := by
        obtain ⟨b3, o3, u3, e3', hlt3, hcell3, _⟩ := HR5.out j hj
        rw [e1'] at e3'
        cases e3'
        have g6 := (HB6.out.cell (p := ⟨b1, o1 + j, none⟩) hlt3).trans hcell3
        have g7 := (HB7.out.cell (p := ⟨b1, o1 + j, none⟩) hlt3).trans hcell3
        rw [hcell] at g7
        cases g7
        exact g6
      rw [hc6] at hcell2
      exact ⟨u, by rw [List.getElem?_eq_getElem (by omega)]; exact hcell2.symm, hsr⟩
    exact a1.append a2
  have HSM := samebatches_any A4 A7 c4 c7 (l ++ ll) (l ++ ll) y (n0 + z) HY.out (by rw [List.length_append, ← H0.out, ← HZ.out]) e1 (own_le hown7) e2 (RecW.own_cap hown7) w7 (HR4b.out.grow HB7.out) (BRows3.of_row hr7 hrd)
  rw [show decide (l ++ ll = l ++ ll) = true from decide_eq_true rfl] at HSM
  have HSM := Lib.hid HSM
  clear hown7 hgrow hr7 hrd hb67 HB6 HB7 HO6 HYR HYY HY1 HXX HR4b HB5
  go_wp2_with fail
  refine Calls.mono HSM.out ?_
  rintro e w8 ⟨rfl, hb8⟩
  have HB8 := Lib.hid (HBF.out.trans (hb8.mono HBF.out.size))
  clear HSM hb8 HBF
  go_wp2_with fail
  refine Calls.mono (awake_any w8) ?_
  rintro e w9 ⟨rfl, hb9⟩
  have HB9 := Lib.hid (HB8.out.trans (hb9.mono HB8.out.size))
  clear hb9
  go_wp2_with fail
  go_ret
  exact ⟨rfl, HB9.out⟩
end Go.Proofs.Ytnclbonoenjbeaa.BatW
