/-
  The walks of Put and Long, of the reference's Put, and of Bytes.
-/
import Derived.Test.YtnclbonoenjbeaaBatWalks1
import Derived.Test.YtnclbonoenjbeaaRecWalks7
namespace Go.Proofs.Ytnclbonoenjbeaa.BatW
set_option linter.unusedVariables false
open Go.RowKit Go.Proofs Go.Proofs.Ytnclbonoenjbeaa Go.Proofs.Ytnclbonoenjbeaa.Wd Go.Proofs.Ytnclbonoenjbeaa.RecW
open Go.Proofs.Ytnclbonoenjbeaa.Rec (R flat flat_append flat_one allFine allFine_get putErr longOf)
open Go.Proofs.Ytnclbonoenjbeaa.Bat (B cnt long wrong recs put rowsLong longB)

/-- What is put of rows. -/
def PutOut (w : World) (b : B) (e : Ending) (w' : World) : Prop :=
  ∃ A c, e = .returned (.tuple #[.slice A (put b).length c, .int .i64 (wrong b : Nat)]) ∧ Below w.heap.size w w' ∧ (put b).length ≤ c ∧ c ≤ maxLen ∧ w'.ownsRow w.heap.size 5 1 (.slice A (put b).length c) (put b).length (bs (put b))
/-- The records of the first rows. -/
def rec1 (b : B) : List R := b.map fun d => ((1 : UInt8), d)
theorem rec1_snoc {b : B} {k : Nat} (h : k < b.length) : flat (rec1 (b.take (k + 1))) = flat (rec1 (b.take k)) ++ Rec.bytes (1, b[k]) := by
  unfold rec1
  rw [List.take_succ_eq_append_getElem h, List.map_append, flat_append]
  congr 1
  exact flat_one _
theorem u1 : ((((1 : UInt8).toNat : Nat)) : Int) = 1 := rfl
theorem u2 : ((((2 : UInt8).toNat : Nat)) : Int) = 2 := rfl
theorem putL_row {d : List UInt8} (h : d.length ≤ 4096) : putL (1, d) = Rec.bytes (1, d) ∧ putErr ((1 : UInt8), d) = 0 := by
  have : putErr ((1 : UInt8), d) = 0 := by unfold putErr; rw [if_pos (show Rec.fine 1 = true from Bat.fine1), if_pos h]
  exact ⟨by unfold putL; rw [if_pos this], this⟩
theorem putL_end (n : Nat) : putL (2, cnt n) = Rec.bytes (2, cnt n) ∧ putErr ((2 : UInt8), cnt n) = 0 := by
  have : putErr ((2 : UInt8), cnt n) = 0 := by unfold putErr; rw [if_pos (show Rec.fine 2 = true from Bat.fine2), if_pos (by show (cnt n).length ≤ 4096; rw [Bat.cnt_length]; decide)]
  exact ⟨by unfold putL; rw [if_pos this], this⟩
theorem put_ok {b : B} (h : wrong b = 0) : put b = flat (rec1 b) ++ Rec.bytes (2, cnt b.length) := by
  unfold put recs rec1
  rw [if_pos h, flat_append, flat_one]

set_option maxRecDepth 100000 in
set_option maxHeartbeats 2000000 in
theorem bput_any (A : Option Addr) (n c : Nat) (b : B) (hn : n = b.length) (hnc : n ≤ maxLen) (w : World) (hI : BRows w w.heap.size A b) :
    Calls Try.prog 17 #[.slice A n c] w (PutOut w b) := by
  obtain ⟨i0, hi0, hz0, hz1, hz2⟩ := info_parts infoU8
  have HWR := Lib.hid (wrong_any A n c b hn hnc w hI)
  have HN := Lib.hid hn
  unfold maxLen at hnc
  clear hn
  by_cases h0 : wrong b = 0
  · obtain ⟨hb0, hb1, hb2⟩ := Bat.wrong_zero h0
    have HS := Lib.hid hb2
    have HOK := Lib.hid (put_ok h0)
    have H0 := Lib.hid h0
    have hn1 : n ≤ 1024 := by have := HN.out; omega
    rw [h0] at HWR
    clear h0 hb2 hb0 hb1
    go_enter Try.func17, Try.ntmps17
    go_wp2_with fail
    refine Calls.mono HWR.out ?_
    rintro e w' ⟨rfl, rfl⟩
    clear HWR
    go_wp2_with fail
    go_loopw [5, 19] (fun v i wr => ∃ (k : Nat) (l : List UInt8), k ≤ n ∧ i = .int .i64 k ∧ Hid (l = flat (rec1 (b.take k))) ∧ l.length ≤ k * 4105 ∧ wr.ownsRow w.heap.size 5 1 v l.length (bs l) ∧ Below w.heap.size w wr) (fun _ i _ => n - (intOf i).toNat)
    case atStart => exact ⟨0, [], Nat.zero_le _, rfl, Lib.hid rfl, Nat.le_refl _, own_nil _ _ _, Below.refl _ _⟩
    case round =>
      obtain ⟨k, l, hk, rfl, hT, hll, ho, hB⟩ := hrel
      by_cases hlt : k < n
      · have hkl : k < b.length := by have := HN.out; omega
        obtain ⟨bb, off, v0, A', c', rfl, hbb, hc, rfl, h1, h2, h3⟩ := hI.lt hkl
        have hsh := Bat.short_get HS.out hkl
        have HE := Lib.hid (rec1_snoc hkl)
        rw [← hT.out] at HE
        generalize b[k] = d at *
        have hc' := (hB.cell (p := ⟨bb, _, none⟩) hbb).trans hc
        have hd' : Bytes wr wr.heap.size A' d := (Row.below h3 hB).more hB.size
        have i1 : (0 : Int) ≤ (k : Int) := by omega
        have i2 : (k : Int) < (n : Int) := by omega
        have HP := put_any 1 A' c' d d.length rfl wr hd'
        simp only [u1] at HP
        obtain ⟨e1, e2⟩ := putL_row hsh
        have E1 := Lib.hid e1
        have E2 := Lib.hid e2
        clear hc h3 hd' e1 e2 hT
        go_wp2_with fail
        refine Calls.mono HP ?_
        rintro e w1 hw
        obtain ⟨A1, c1, rfl, hb1, h4, h5, ho1⟩ := hw.out
        rw [E1.out] at *
        rw [E2.out]
        have hlen : (Rec.bytes ((1 : UInt8), d)).length = d.length + 9 := Rec.bytes_length _
        have ho' := own_below ho hb1
        have hB1 := hB.trans (hb1.mono hB.size)
        obtain ⟨A2, c2, ee, hr⟩ := own_slice ho1
        cases ee
        generalize Rec.bytes ((1 : UInt8), d) = x at *
        have hxl : x.length ≤ 4105 := by omega
        clear hlen hw HP ho E1 E2
        go_wp2_with (at_builtin; refine wpList_append_row _ rfl (.tmp 29) (.tmp 30) _ rfl w.heap.size 5 i0 _ 1 Try.underlying24 hi0 hz0 hz1 hz2 rfl _ l.length (bs l) rfl ho' w1.heap.size A1 x.length c1 (bs x) rfl (bs_length x).symm (by exact hr) (bs_one x) (by unfold maxLen; omega) (by omega) hB1.size ?_)
        intro v1 w2 hown hgrow _ _
        have hB2 : Below w.heap.size w w2 := hB1.grown hgrow hB1.size (fun g hg => (own_row ho' hg).1)
        have HO : Hid (w2.ownsRow w.heap.size 5 1 v1 (l ++ x).length (bs (l ++ x))) := Lib.hid (by rw [List.length_append, bs_append]; exact hown)
        have HL : Hid ((l ++ x).length ≤ (k + 1) * 4105) := Lib.hid (by rw [List.length_append]; omega)
        have HT : Hid (l ++ x = flat (rec1 (b.take (k + 1)))) := Lib.hid HE.out.symm
        clear hown hgrow ho' hr ho1 HE
        go_wp2_with fail
        go_roundw
        case rel => exact ⟨k + 1, l ++ x, by omega, by go_num, HT, HL.out, HO.out, hB2⟩
        case measure => simp [intOf]; omega
      · obtain rfl : k = n := by omega
        have HT : Hid (l = flat (rec1 b)) := Lib.hid (by have := hT.out; rwa [List.take_of_length_le (by have := HN.out; omega)] at this)
        have HC := fun W => count_any k (by omega) W
        have HPE := Lib.hid (putL_end b.length)
        rw [← HN.out] at HPE HOK
        rw [← HT.out] at HOK
        clear hT HT
        go_wp2_with fail
        refine Calls.mono (HC _) ?_
        rintro e w1 ⟨rfl, rfl⟩
        have hbc : Bytes (wr.alloc (.cells (bs (cnt k)).toArray 5)) (wr.heap.size + 1) (some ⟨wr.heap.size, 0, none⟩) (cnt k) := Bytes.new_ wr 5 (bs (cnt k)).toArray (0, 0) (cnt k) (by simp) rfl (by omega)
        have hBa : Below w.heap.size w (wr.alloc (.cells (bs (cnt k)).toArray 5)) := hB.alloc hB.size _
        have hoa := ho.alloc (.cells (bs (cnt k)).toArray 5)
        have hsz : (wr.alloc (.cells (bs (cnt k)).toArray 5)).heap.size = wr.heap.size + 1 := by simp
        have HP := put_any 2 (some ⟨wr.heap.size, 0, none⟩) 2 (cnt k) 2 rfl (wr.alloc (.cells (bs (cnt k)).toArray 5)) (by rw [hsz]; exact hbc)
        simp only [u2] at HP
        generalize wr.alloc (.cells (bs (cnt k)).toArray 5) = wa at *
        clear hbc HC hsz
        go_wp2_with fail
        refine Calls.mono HP ?_
        rintro e w1 hw
        obtain ⟨A1, c1, rfl, hb1, h4, h5, ho1⟩ := hw.out
        rw [HPE.out.1] at *
        rw [HPE.out.2]
        have hlen : (Rec.bytes ((2 : UInt8), cnt k)).length = 11 := Rec.bytes_length _
        have ho' := own_below hoa hb1
        have hB1 := hBa.trans (hb1.mono hBa.size)
        obtain ⟨A2, c2, ee, hr⟩ := own_slice ho1
        cases ee
        generalize Rec.bytes ((2 : UInt8), cnt k) = x at *
        have hxl : x.length ≤ 4105 := by omega
        clear hlen hw HP ho hoa
        go_wp2_with (at_builtin; refine wpList_append_row _ rfl (.tmp 41) (.tmp 42) _ rfl w.heap.size 5 i0 _ 1 Try.underlying24 hi0 hz0 hz1 hz2 rfl _ l.length (bs l) rfl ho' w1.heap.size A1 x.length c1 (bs x) rfl (bs_length x).symm (by exact hr) (bs_one x) (by unfold maxLen; omega) (by omega) hB1.size ?_)
        intro v1 w2 hown hgrow _ _
        have hB2 : Below w.heap.size w w2 := hB1.grown hgrow hB1.size (fun g hg => (own_row ho' hg).1)
        have HO : Hid (w2.ownsRow w.heap.size 5 1 v1 (l ++ x).length (bs (l ++ x))) := Lib.hid (by rw [List.length_append, bs_append]; exact hown)
        clear hown hgrow ho' hr ho1
        go_wp2_with fail
        go_ret2
        obtain ⟨A3, c3, rfl, h6, _, _⟩ := own_bytes HO.out
        have h7 := own_cap HO.out
        refine ⟨A3, c3, ?_, hB2, ?_, h7, ?_⟩
        · rw [HOK.out, H0.out]; rfl
        · rw [HOK.out]; exact h6
        · rw [HOK.out]; exact HO.out
  · have hp := Lib.hid (show put b = [] by unfold put; rw [if_neg h0])
    have hne : (((wrong b : Nat) : Int) != 0) = true := by rw [bne_iff_ne]; omega
    obtain ⟨x, hx⟩ : ∃ x, x = wrong b := ⟨_, rfl⟩
    rw [← hx] at HWR hne
    have HX := Lib.hid hx
    clear hx h0
    go_enter Try.func17, Try.ntmps17
    go_wp2_with fail
    refine Calls.mono HWR.out ?_
    rintro e w' ⟨rfl, rfl⟩
    clear HWR
    go_wp2_with fail
    go_ret2
    refine ⟨none, 0, ?_, Below.refl _ _, ?_, by simp [maxLen], ?_⟩
    · rw [hp.out, ← HX.out]; rfl
    · rw [hp.out]; exact Nat.le_refl _
    · rw [hp.out]; exact own_nil _ _ _
end Go.Proofs.Ytnclbonoenjbeaa.BatW
