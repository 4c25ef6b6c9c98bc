/-
  The walks of written and short.
-/
import Derived.Test.YtboikajfcmgffaaRecForms
import Derived.Test.YtboikajfcmgffaaRecPlain4
namespace Go.Proofs.Ytboikajfcmgffaa.RecW
set_option linter.unusedVariables false
open Go.RowKit Go.Proofs Go.Proofs.Ytboikajfcmgffaa Go.Proofs.Ytboikajfcmgffaa.Wd Go.Proofs.Ytboikajfcmgffaa.CrcW
open Go.Proofs.Ytboikajfcmgffaa.Rec (R four number fine takeErr takeEnd takeRec putErr number_lt flat ends allFine weight)

theorem own_bs {w : World} {base : Nat} {A : Option Addr} {n c : Nat} {l : List UInt8} (h : w.ownsRow base 5 1 (.slice A n c) n (bs l)) : Bytes w w.heap.size A l ∧ n = l.length ∧ n ≤ c := by
  obtain ⟨A', c', h1, h4, h2, h3⟩ := own_bytes h
  cases h1
  exact ⟨h3, h2, h4⟩
/-- An own row stays when another one, of another kind, grows. -/
theorem own_other {w w' : World} {base base' size size' n n' : Nat} {e e' : TypeId} {v v' : Value} {xs xs' : List Value} (hne : e ≠ e') (h : w.ownsRow base e size v n xs) (h' : w.ownsRow base' e' size' v' n' xs') (hg : w.grownBy w' v'.ownBlock) : w'.ownsRow base e size v n xs :=
  own_keep h fun g hgv => by
    obtain ⟨_, cs, hb⟩ := own_row h hgv
    refine hg.block g hb.lt (fun hx => ?_)
    obtain ⟨_, cs', hb'⟩ := own_row h' hx.symm
    exact Blk.ne_ (g := g) (g' := g) hb hb' hne rfl
/-- The cells of numbers. -/
def ns (l : List Nat) : List Value := l.map fun n => .int .i64 (n : Nat)
theorem ns_length (l : List Nat) : (ns l).length = l.length := by simp [ns]
theorem ns_append (a b : List Nat) : ns (a ++ b) = ns a ++ ns b := List.map_append
theorem ns_get (l : List Nat) (j : Nat) (h : j < (ns l).length) : (ns l)[j] = .int .i64 ((l[j]'(by simpa [ns] using h)) : Nat) := by simp [ns]
def WrittenOut (w : World) (rs : List R) (e : Ending) (w' : World) : Prop :=
  Below w.heap.size w w' ∧ (allFine rs = true → ∃ A c A' c', e = .returned (.tuple #[.slice A (flat rs).length c, .slice A' rs.length c', .bool true]) ∧ w'.ownsRow w.heap.size 5 1 (.slice A (flat rs).length c) (flat rs).length (bs (flat rs)) ∧
    w'.ownsRow w.heap.size 3 1 (.slice A' rs.length c') rs.length (ns (ends 0 rs))) ∧ (allFine rs = false → e = .returned (.tuple #[.slice none 0 0, .slice none 0 0, .bool false]))
theorem infoInt : (Try.prog.info? 3).map (fun i => (i.zero, i.size, i.bytes)) = some (some (.int .i64 0), 1, 8) := by kernel_rfl
theorem Row.keepU8 {w w' : World} {B : Nat} {A : Option Addr} {xs : List Value} (h : Row w B A xs) (hk : ∀ p : Addr, p.block < B → w'.cell? p = w.cell? p) : Row w' B A xs := h.keep hk

set_option maxRecDepth 100000 in
set_option maxHeartbeats 4000000 in
theorem written_any (A : Option Addr) (c : Nat) (rs : List R) (n : Nat) (hn : n = rs.length) (hnc : n ≤ c) (hcm : c ≤ maxLen) (hw : weight rs ≤ 1000000000000) (w : World) (hI : Recs w w.heap.size A rs) :
    Calls Try.prog 8 #[.slice A n c] w (WrittenOut w rs) := by
  unfold maxLen at hcm
  have hlw := Rec.length_le_weight rs
  have hnb : n ≤ 1000000000000 := by omega
  have HN := Lib.hid hn
  clear hn hlw
  obtain ⟨i0, hi0, hz0, hz1, hz2⟩ := info_parts infoU8
  obtain ⟨i1, hi1, hy0, hy1, hy2⟩ := info_parts infoInt
  go_enter Try.func8, Try.ntmps8
  go_wp2
  go_loopw [5, 6, 13] (fun v u i wr => ∃ k : Nat, k ≤ n ∧ i = .int .i64 k ∧ RowKit.Hid (allFine (rs.take k) = true) ∧ wr.ownsRow w.heap.size 5 1 v (flat (rs.take k)).length (bs (flat (rs.take k))) ∧ wr.ownsRow w.heap.size 3 1 u k (ns (ends 0 (rs.take k))) ∧ Below w.heap.size w wr) (fun _ _ i _ => n - (intOf i).toNat)
  case atStart => exact ⟨0, Nat.zero_le _, rfl, Lib.hid rfl, own_nil _ _ _, own_nil _ _ _, Below.refl _ _⟩
  case round =>
    obtain ⟨k, hk, rfl, hF, ho, hu, hB⟩ := hrel
    by_cases hlt : k < n
    · have hkr : k < rs.length := by have := HN.out; omega
      obtain ⟨b1, o1, A1, c1, rfl, hb1, p1, p2, p3, p4⟩ := hI k hkr
      have hts := List.take_succ_eq_append_getElem hkr
      have HW := Lib.hid (show (flat (rs.take k ++ [rs[k]])).length ≤ 1000000000000 by rw [← hts, Rec.flat_length]; exact Nat.le_trans (Rec.weight_take rs _) hw)
      have hbad : putErr rs[k] ≠ 0 → allFine rs = false := Rec.not_allFine hkr
      have hgood : putErr rs[k] = 0 → allFine (rs.take (k + 1)) = true := Rec.allFine_snoc hkr hF.out
      have HT := Lib.hid hts
      have HBAD := Lib.hid hbad
      have HGOOD := Lib.hid hgood
      clear hts hbad hgood
      generalize rs[k] = r at *
      obtain ⟨kk, d⟩ := r
      dsimp only at p1 p2 p3 p4
      have q1 := (hB.cell (p := ⟨b1, o1 + k * 2, none⟩) hb1).trans p1
      have q2 := (hB.cell (p := ⟨b1, o1 + k * 2 + 1, none⟩) hb1).trans p2
      have hBS := hB.size
      have hbx := (Below.refl _ wr).alloc (Nat.le_refl _) (.cells #[.int .u8 (kk.toNat : Nat), .slice A1 d.length c1] 39)
      have hB1 := hB.trans (hbx.mono hBS)
      have ho1 := own_below ho hbx
      have hu1 := own_below hu hbx
      clear p1 p2 hB ho hu hbx hBS
      go_wp2_with fail
      generalize wr.alloc (.cells #[.int .u8 (kk.toNat : Nat), .slice A1 d.length c1] 39) = W1 at *
      refine Calls.mono (put_any kk A1 c1 d _ rfl W1 ((Row.below p4 hB1).more hB1.size)) ?_
      rintro e W2 hwo
      obtain ⟨Ax, cx, rfl, hb2, hx1, hx2, hox⟩ := hwo.out
      have hB2 := hB1.trans (hb2.mono hB1.size)
      have ho2 := own_below ho1 hb2
      have hu2 := own_below hu1 hb2
      have hd2 := (own_bs hox).1
      clear hwo hB1 ho1 hu1 hb2 hox q1 q2
      unfold maxLen at hx2
      by_cases he : putErr (kk, d) = 0
      · have hL : putL (kk, d) = Rec.bytes (kk, d) := by unfold putL; rw [if_pos he]
        rw [hL] at hx1 hd2 ⊢
        rw [he]
        have HFn := Lib.hid (HGOOD.out he)
        have hfl : flat (rs.take k ++ [(kk, d)]) = flat (rs.take k) ++ Rec.bytes (kk, d) := by rw [Rec.flat_append, Rec.flat_one]
        have hle : (flat (rs.take k)).length + (Rec.bytes (kk, d)).length ≤ 1000000000000 := by have := HW.out; rw [hfl, List.length_append] at this; exact this
        have hen : ends 0 (rs.take k ++ [(kk, d)]) = ends 0 (rs.take k) ++ [(flat (rs.take k)).length + (Rec.bytes (kk, d)).length] := by rw [Rec.ends_snoc, hfl, List.length_append, Nat.zero_add]
        have HFL := Lib.hid hfl
        have HEN := Lib.hid hen
        clear hL he HGOOD HBAD hfl hen
        generalize Rec.bytes (kk, d) = L at *
        generalize flat (rs.take k) = F at *
        go_wp2_with (at_builtin; refine wpList_append_row _ rfl (.tmp 24) (.tmp 25) _ rfl w.heap.size 5 i0 _ 1 Try.underlying24 hi0 hz0 hz1 hz2 rfl _ F.length _ rfl ho2 W2.heap.size Ax L.length cx (bs L) rfl (bs_length L).symm hd2 (bs_one _) (by unfold maxLen; omega) (by omega) hB2.size ?_)
        intro v3 W3 ho3 hgrow _ _
        have hB3 := hB2.grown hgrow hB2.size (fun j hj => (own_row ho2 hj).1)
        have hu3 := own_other (by decide) hu2 ho2 hgrow
        rw [← bs_append] at ho3
        obtain ⟨A3, c3, rfl, hc3, e3, _⟩ := own_bytes ho3
        clear e3 hgrow ho2 hu2 hd2 hB2
        have hx3 := (own_bs ho3).2.2
        have hB4 := hB3.alloc hB3.size (.cells #[.int .i64 ((F.length + L.length : Nat) : Int)] 3)
        have hu4 := hu3.alloc (.cells #[.int .i64 ((F.length + L.length : Nat) : Int)] 3)
        have ho4 := ho3.alloc (.cells #[.int .i64 ((F.length + L.length : Nat) : Int)] 3)
        have hnw := heap_alloc_new W3 (.cells #[.int .i64 ((F.length + L.length : Nat) : Int)] 3)
        have hlen : (F ++ L).length = F.length + L.length := List.length_append
        have HLEN := Lib.hid hlen
        clear hlen
        rw [Int.natCast_add] at *
        go_wp2_with (at_builtin; refine wpList_append_lies _ rfl (.tmp 27) (.tmp 30) _ rfl w.heap.size 3 i1 _ 1 8 Try.underlying25 hi1 hy0 hy1 hy2 rfl (by omega) _ k _ rfl hu4 ⟨W3.heap.size, 0, none⟩ 1 1 [.int .i64 ((F.length : Int) + (L.length : Int))] rfl rfl (World.news_of_block hnw) (by intro u hu; simp at hu; subst hu; rfl) (by omega) (by unfold maxLen; omega) (by omega) (by have := hB4.size; exact this) (W3.heap.size + 1) (by simp) ?_)
        intro g cap W5 hu5 hgrow _ _
        have hB5 := hB4.grown hgrow hB4.size (fun j hj => (own_row hu4 hj).1)
        have ho5 := own_other (by decide) ho4 hu4 hgrow
        clear hgrow hu4 ho4 hnw hu3 ho3 hB3
        have R1 : Hid (World.ownsRow W5 w.heap.size 5 1 (.slice A3 (F.length + L.length) c3) (flat (rs.take (k + 1))).length (bs (flat (rs.take (k + 1))))) := Lib.hid (by rw [HT.out, HFL.out, HLEN.out]; exact ho5)
        have R2 : Hid (World.ownsRow W5 w.heap.size 3 1 (.slice (some ⟨g, 0, none⟩) (k + 1) cap) (k + 1) (ns (ends 0 (rs.take (k + 1))))) := Lib.hid (by rw [HT.out, HEN.out, ns_append]; exact hu5)
        clear hu5 ho5
        go_wp2
        go_roundw
        case rel => exact ⟨k + 1, by omega, by go_num, HFn, R1.out, R2.out, hB5⟩
        case measure => simp [intOf]; omega
      · have hL : putL (kk, d) = [] := by unfold putL; rw [if_neg he]
        have hne : (((putErr (kk, d) : Nat) : Int) != 0) = true := by rw [bne_iff_ne]; omega
        have HA := Lib.hid (HBAD.out he)
        rw [hL]
        clear hL hd2 hx1
        generalize putErr (kk, d) = x at *
        clear HGOOD HBAD he
        go_wp2
        go_ret3
        exact ⟨hB2, (fun h => by rw [HA.out] at h; cases h), fun _ => rfl⟩
    · obtain rfl : k = n := by omega
      have hte : rs.take k = rs := List.take_of_length_le (by have := HN.out; omega)
      rw [hte] at hF ho hu
      obtain ⟨A3, c3, rfl⟩ := own_form ho
      obtain ⟨A4, c4, rfl⟩ := own_form hu
      clear hte
      go_wp2
      go_ret3
      exact ⟨hB, fun _ => ⟨A3, c3, A4, c4, by rw [← HN.out]; rfl, ho, by rw [← HN.out]; exact hu⟩, fun h => by rw [hF.out] at h; cases h⟩

def shortB (rs : List R) : Bool := (rs.all fun r => decide (r.2.length ≤ 200)) && decide (rs.length ≤ 30)
set_option maxRecDepth 100000 in
set_option maxHeartbeats 4000000 in
theorem short_any (A : Option Addr) (c : Nat) (rs : List R) (n : Nat) (hn : n = rs.length) (hnc : n ≤ c) (hcm : c ≤ maxLen) (w : World) (hI : Recs w w.heap.size A rs) (hmx : ∀ r ∈ rs, r.2.length ≤ 1000000000000) :
    Calls Try.prog 9 #[.slice A n c] w fun e w' => e = .returned (.bool (shortB rs)) ∧ Below w.heap.size w w' := by
  unfold maxLen at hcm
  have HN := Lib.hid hn
  have HM := Lib.hid hmx
  clear hn hmx
  go_enter Try.func9, Try.ntmps9
  go_wp2
  go_loopw [7] (fun i wr => ∃ k : Nat, k ≤ n ∧ i = .int .i64 k ∧ RowKit.Hid ((rs.take k).all (fun r => decide (r.2.length ≤ 200)) = true) ∧ Below w.heap.size w wr) (fun i _ => n - (intOf i).toNat)
  case atStart => exact ⟨0, Nat.zero_le _, rfl, Lib.hid rfl, Below.refl _ _⟩
  case round =>
    obtain ⟨k, hk, rfl, hF, hB⟩ := hrel
    by_cases hlt : k < n
    · have hkr : k < rs.length := by have := HN.out; omega
      obtain ⟨b1, o1, A1, c1, rfl, hb1, p1, p2, p3, p4⟩ := hI k hkr
      have hmk := HM.out rs[k] (List.getElem_mem hkr)
      have hbad : ¬ rs[k].2.length ≤ 200 → shortB rs = false := fun h => by
        unfold shortB
        rw [Bool.and_eq_false_iff]; left
        rw [Bool.eq_false_iff]; intro ha
        rw [List.all_eq_true] at ha
        exact h (by simpa using ha rs[k] (List.getElem_mem hkr))
      have hgood : rs[k].2.length ≤ 200 → (rs.take (k + 1)).all (fun r => decide (r.2.length ≤ 200)) = true := fun h => by
        rw [List.take_succ_eq_append_getElem hkr, List.all_append, hF.out]; simpa using h
      have HBAD := Lib.hid hbad
      have HGOOD := Lib.hid hgood
      clear hbad hgood
      generalize rs[k] = r at *
      obtain ⟨kk, d⟩ := r
      dsimp only at p1 p2 p3 p4 hmk
      have q1 := (hB.cell (p := ⟨b1, o1 + k * 2, none⟩) hb1).trans p1
      have q2 := (hB.cell (p := ⟨b1, o1 + k * 2 + 1, none⟩) hb1).trans p2
      have hB1 := hB.alloc hB.size (.cells #[.int .u8 (kk.toNat : Nat), .slice A1 d.length c1] 39)
      clear p1 p2 hB
      by_cases hd : d.length ≤ 200
      · have HF := Lib.hid (HGOOD.out hd)
        have hd' : ¬ (200 : Int) < (d.length : Int) := by omega
        clear HGOOD HBAD
        go_wp2
        go_roundw
        case rel => exact ⟨k + 1, by omega, by go_num, HF, hB1⟩
        case measure => simp [intOf]; omega
      · have HF := Lib.hid (HBAD.out hd)
        have hd' : (200 : Int) < (d.length : Int) := by omega
        clear HGOOD HBAD
        go_wp2
        go_ret
        exact ⟨by rw [HF.out]; rfl, hB1⟩
    · obtain rfl : k = n := by omega
      have HS : Hid (decide ((k : Int) ≤ 30) = shortB rs) := Lib.hid (by
        unfold shortB
        have := hF.out
        rw [List.take_of_length_le (by have := HN.out; omega)] at this
        rw [this, Bool.true_and, ← HN.out, Bool.eq_iff_iff]; simp; omega)
      clear hF
      go_wp2
      go_ret
      exact ⟨by rw [← HS.out]; rfl, hB⟩
end Go.Proofs.Ytboikajfcmgffaa.RecW
