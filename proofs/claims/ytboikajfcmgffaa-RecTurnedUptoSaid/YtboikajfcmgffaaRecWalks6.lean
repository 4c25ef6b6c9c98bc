/-
  The walks of what statements do with bytes and records.
-/
import Derived.Test.YtboikajfcmgffaaRecWalks5
namespace Go.Proofs.Ytboikajfcmgffaa.RecW
set_option linter.unusedVariables false
open Go.RowKit Go.Proofs Go.Proofs.Ytboikajfcmgffaa Go.Proofs.Ytboikajfcmgffaa.Wd Go.Proofs.Ytboikajfcmgffaa.CrcW
open Go.Proofs.Ytboikajfcmgffaa.Rec (R four number fine takeErr takeEnd takeRec putErr)

theorem anew_any (A : Option Addr) (c : Nat) (l : List UInt8) (n : Nat) (hn : n = l.length) (hc : l.length ≤ 100000000000) (w : World) (hI : Bytes w w.heap.size A l) :
    Calls Try.prog 14 #[.slice A n c] w (Fresh w n l) := by
  subst hn
  obtain ⟨i0, hi0, hz0, hz1, hz2⟩ := info_parts infoU8
  go_enter Try.func14, Try.ntmps14
  go_wp2_with (at_builtin; refine wpList_append_row _ rfl (.tmp 3) (.tmp 4) _ rfl w.heap.size 5 i0 _ 1 Try.underlying24 hi0 hz0 hz1 hz2 rfl _ 0 [] rfl (by exact own_empty _ _ (Nat.le_refl _)) w.heap.size A l.length c (bs l) rfl (bs_length l).symm (by exact hI.alloc (Nat.le_refl _) _) (bs_one l) (by unfold maxLen; omega) (by omega) (by simp) ?_)
  intro v1 w1 hown hgrow _ _
  have hB1 : Below w.heap.size w w1 := ((Below.refl _ w).alloc (Nat.le_refl _) _).grown hgrow (by simp) (by simp [Value.ownBlock])
  go_wp2
  go_ret
  exact ⟨_, rfl, hown, hB1⟩

theorem same_any (A B : Option Addr) (c d : Nat) (l k : List UInt8) (n m : Nat) (hn : n = l.length) (hm : m = k.length) (w : World) (hI : Bytes w w.heap.size A l) (hJ : Bytes w w.heap.size B k) :
    Calls Try.prog 13 #[.slice A n c, .slice B m d] w fun e w' => e = .returned (.bool (l == k)) ∧ w = w' := by
  subst hn hm
  have k1 := run_convert_bytes (P := Try.prog) w 24 5 9 Try.underlying24 Try.underlying5 Try.underlying9 hI c rfl
  have k2 := run_convert_bytes (P := Try.prog) w 24 5 9 Try.underlying24 Try.underlying5 Try.underlying9 hJ d rfl
  go_enter Try.func13, Try.ntmps13
  go_wp2
  go_ret
  exact ⟨rfl, rfl⟩
/-- A slice of records: from its address they lie one behind the other, below block B. -/
def Recs (w : World) (B : Nat) (A : Option Addr) (rs : List R) : Prop :=
  ∀ j (h : j < rs.length), ∃ b off A' c, A = some ⟨b, off, none⟩ ∧ b < B ∧ w.cell? ⟨b, off + j * 2, none⟩ = some (.int .u8 (rs[j].1.toNat : Nat)) ∧ w.cell? ⟨b, off + j * 2 + 1, none⟩ = some (.slice A' rs[j].2.length c) ∧
    rs[j].2.length ≤ c ∧ Bytes w B A' rs[j].2
section
variable {w w' : World} {B B' : Nat} {A : Option Addr} {rs : List R}
theorem Recs.nil : Recs w B A [] := fun _ h => absurd h (Nat.not_lt_zero _)
theorem Recs.below (h : Recs w B A rs) (hb : Below B w w') : Recs w' B A rs := fun j hj => by
  obtain ⟨b, off, A', c, e, hlt, h1, h2, h3, h4⟩ := h j hj
  exact ⟨b, off, A', c, e, hlt, (hb.cell (p := ⟨b, _, none⟩) hlt).trans h1, (hb.cell (p := ⟨b, _, none⟩) hlt).trans h2, h3, h4.below hb⟩
theorem Recs.more (h : Recs w B A rs) (hB : B ≤ B') : Recs w B' A rs := fun j hj => by
  obtain ⟨b, off, A', c, e, hlt, h1, h2, h3, h4⟩ := h j hj
  exact ⟨b, off, A', c, e, by omega, h1, h2, h3, h4.more hB⟩
theorem Recs.grow (h : Recs w w.heap.size A rs) (hb : Below w.heap.size w w') : Recs w' w'.heap.size A rs := (h.below hb).more hb.size
theorem Recs.drew (h : Recs w B A rs) : Recs w.drew B A rs := h
theorem Recs.take (h : Recs w B A rs) (k : Nat) : Recs w B A (rs.take k) := fun j hj => by
  have hj' : j < rs.length := by simp at hj; omega
  obtain ⟨b, off, A', c, e, hlt, h1, h2, h3, h4⟩ := h j hj'
  refine ⟨b, off, A', c, e, hlt, ?_⟩
  rw [List.getElem_take]
  exact ⟨h1, h2, h3, h4⟩
end
theorem own_recs {w : World} {base : Nat} {v : Value} {n : Nat} {xs : List Value} {rs : List R} (h : w.ownsRow base 39 2 v n xs) (hr : RecsAt w base xs rs) : ∃ A c, v = .slice A n c ∧ n ≤ c ∧ n = rs.length ∧ Recs w w.heap.size A rs := by
  have hl := h.1
  have hl2 := hr.1
  have hn : n = rs.length := by omega
  rcases h.2 with ⟨rfl, h0⟩ | ⟨g, cap, cur, rfl, hg, hh, hc, hm, _, ht⟩
  · have : rs = [] := List.eq_nil_of_length_eq_zero (by omega)
    subst this
    subst h0
    exact ⟨none, 0, rfl, Nat.le_refl _, rfl, Recs.nil⟩
  · refine ⟨_, cap, rfl, hc, hn, fun j hj => ?_⟩
    obtain ⟨v, h1, h2, h3⟩ := hr.2 j hj
    obtain ⟨A', c', rfl, hcc, hle, hb⟩ := own_bytes h3
    have hblk : Blk w g 39 cur := hh
    have cell : ∀ i u, xs[i]? = some u → w.cell? ⟨g, i, none⟩ = some u := fun i u hu => by
      rw [hblk.cell]
      rw [← ht, List.getElem?_take] at hu
      split at hu
      · simpa using hu
      · cases hu
    refine ⟨g, 0, A', c', rfl, hblk.lt, ?_, ?_, hcc, hb⟩
    · rw [Nat.zero_add, Nat.mul_comm]; exact cell _ _ h1
    · rw [Nat.zero_add, Nat.mul_comm]; exact cell _ _ h2
/-- Are two records the same? -/
def sameB (r s : R) : Bool := r.1 == s.1 && r.2 == s.2
theorem sameB_eq (r s : R) : sameB r s = decide (r = s) := by
  unfold sameB; rw [Bool.eq_iff_iff]; simp [Prod.ext_iff]

set_option maxHeartbeats 1000000 in
theorem samerec_any (A B : Option Addr) (c d : Nat) (r s : R) (w : World) (hI : Bytes w w.heap.size A r.2) (hJ : Bytes w w.heap.size B s.2) :
    Calls Try.prog 17 #[.agg #[.int .u8 (r.1.toNat : Nat), .slice A r.2.length c], .agg #[.int .u8 (s.1.toNat : Nat), .slice B s.2.length d]] w fun e w' => e = .returned (.bool (sameB r s)) ∧ Below w.heap.size w w' := by
  obtain ⟨k, l⟩ := r
  obtain ⟨m, n⟩ := s
  dsimp only at hI hJ ⊢
  have hB : Below w.heap.size w ((w.alloc (.cells #[.int .u8 (k.toNat : Nat), .slice A l.length c] 39)).alloc (.cells #[.int .u8 (m.toNat : Nat), .slice B n.length d] 39)) := ((Below.refl _ w).alloc (Nat.le_refl _) _).alloc (by simp) _
  have hI2 := hI.grow hB
  have hJ2 := hJ.grow hB
  by_cases hk : k = m
  · subst hk
    have h1 : (((k.toNat : Nat) : Int) == ((k.toNat : Nat) : Int)) = true := by simp
    have hr : sameB (k, l) (k, n) = (l == n) := by simp [sameB]
    rw [hr]
    clear hr
    go_enter Try.func17, Try.ntmps17
    go_wp2_with fail
    refine (same_any A B c d l n _ _ rfl rfl _ hI2 hJ2).mono ?_
    rintro e w' ⟨rfl, rfl⟩
    go_wp2
    go_ret
    exact ⟨rfl, hB⟩
  · have h1 : (((k.toNat : Nat) : Int) == ((m.toNat : Nat) : Int)) = false := by
      rw [beq_eq_false_iff_ne]
      intro h
      exact hk (UInt8.toNat_inj.1 (by omega))
    have hr : sameB (k, l) (m, n) = false := by simp [sameB, hk]
    rw [hr]
    clear hr
    go_enter Try.func17, Try.ntmps17
    go_wp2_with fail
    go_ret
    exact ⟨rfl, hB⟩

theorem take_eq_succ {l m : List R} {k : Nat} (hk : k < l.length) (hm : k < m.length) (h : l.take k = m.take k) : l.take (k + 1) = m.take (k + 1) ↔ l[k] = m[k] := by
  rw [List.take_succ_eq_append_getElem hk, List.take_succ_eq_append_getElem hm, h, List.append_cancel_left_eq]
  simp
theorem ne_of_get {l m : List R} {k : Nat} (hk : k < l.length) (hm : k < m.length) (h : l[k] ≠ m[k]) : l ≠ m := by
  rintro rfl; exact h rfl
theorem addr_mul (b off k : Nat) : (Addr.mk b (off + k * 2) none) = (Addr.mk b (off + k * 2) none) := rfl

set_option maxHeartbeats 1000000 in
theorem samerecs_any (A B : Option Addr) (c d : Nat) (l m : List R) (x y : Nat) (hx : x = l.length) (hy : y = m.length) (hm : x ≤ c) (hmy : y ≤ d) (hxm : c ≤ maxLen) (hym : d ≤ maxLen) (w : World) (hI : Recs w w.heap.size A l) (hJ : Recs w w.heap.size B m) :
    Calls Try.prog 12 #[.slice A x c, .slice B y d] w fun e w' => e = .returned (.bool (decide (l = m))) ∧ Below w.heap.size w w' := by
  unfold maxLen at hxm hym
  by_cases hne : x = y
  · subst hne
    have hX := Lib.hid hx
    have hY := Lib.hid hy
    clear hx hy
    go_enter Try.func12, Try.ntmps12
    go_wp2
    go_loopw [13] (fun i wr => ∃ k : Nat, k ≤ x ∧ i = .int .i64 k ∧ RowKit.Hid (l.take k = m.take k) ∧ Below w.heap.size w wr) (fun i _ => x - (intOf i).toNat)
    case atStart => exact ⟨0, Nat.zero_le _, rfl, Lib.hid (by simp), Below.refl _ _⟩
    case round =>
      obtain ⟨k, hk, rfl, hT, hBr⟩ := hrel
      by_cases hlt : k < x
      · have hkl : k < l.length := by have := hX.out; omega
        have hkm : k < m.length := by have := hY.out; omega
        obtain ⟨b1, o1, A1, c1, rfl, hb1, p1, p2, p3, p4⟩ := hI k hkl
        obtain ⟨b2, o2, A2, c2, rfl, hb2, q1, q2, q3, q4⟩ := hJ k hkm
        have hE1 : l[k] = m[k] → l.take (k + 1) = m.take (k + 1) := (take_eq_succ hkl hkm hT.out).2
        have hE2 : l[k] ≠ m[k] → l ≠ m := ne_of_get hkl hkm
        generalize l[k] = r at *
        generalize m[k] = s at *
        have HE1 := Lib.hid hE1
        have HE2 := Lib.hid hE2
        clear hE1 hE2
        have hS := (Below.refl wr.heap.size wr).drew
        have i1 : (0 : Int) ≤ (k : Int) := by omega
        have i2 : (k : Int) < (x : Int) := by omega
        have hBc : ∀ W, Below wr.heap.size wr W → Below w.heap.size w W := fun W h => hBr.trans (h.mono hBr.size)
        have HP1 := Lib.hid (fun W (hW : Below wr.heap.size wr W) => ((hBc W hW).cell (p := ⟨b1, o1 + k * 2, none⟩) hb1).trans p1)
        have HP2 := Lib.hid (fun W (hW : Below wr.heap.size wr W) => ((hBc W hW).cell (p := ⟨b1, o1 + k * 2 + 1, none⟩) hb1).trans p2)
        have HQ1 := Lib.hid (fun W (hW : Below wr.heap.size wr W) => ((hBc W hW).cell (p := ⟨b2, o2 + k * 2, none⟩) hb2).trans q1)
        have HQ2 := Lib.hid (fun W (hW : Below wr.heap.size wr W) => ((hBc W hW).cell (p := ⟨b2, o2 + k * 2 + 1, none⟩) hb2).trans q2)
        have HB1 := Lib.hid (fun W (hW : Below wr.heap.size wr W) => p4.grow (hBc W hW))
        have HB2 := Lib.hid (fun W (hW : Below wr.heap.size wr W) => q4.grow (hBc W hW))
        clear p1 p2 q1 q2 p4 q4
        go_wp2_with fail
        refine wp_region_heldG [] (fun _ W => Below wr.heap.size wr W) (by kernel_rfl) ?_
        change wpAnyG _ _ _ _ _ _ 10 _ _ wr.drew
        refine g_take (i := 0) rfl rfl (by kernel_rfl) (by kernel_rfl) (by kernel_rfl) (by kernel_rfl) (by kernel_rfl) (fun _ _ _ h => h) hS (fun L W hL hW => by have p1' := HP1.out W hW; have p2' := HP2.out W hW; have q1' := HQ1.out W hW; have q2' := HQ2.out W hW; go_simp; rfl) ?_
        refine g_take (i := 1) rfl rfl (by kernel_rfl) (by kernel_rfl) (by kernel_rfl) (by kernel_rfl) (by kernel_rfl) (fun _ _ _ h => h) hS (fun L W hL hW => by have p1' := HP1.out W hW; have p2' := HP2.out W hW; have q1' := HQ1.out W hW; have q2' := HQ2.out W hW; go_simp; rfl) ?_
        refine g_take (i := 2) rfl rfl (by kernel_rfl) (by kernel_rfl) (by kernel_rfl) (by kernel_rfl) (by kernel_rfl) (fun _ _ _ h => h) hS (fun L W hL hW => by have p1' := HP1.out W hW; have p2' := HP2.out W hW; have q1' := HQ1.out W hW; have q2' := HQ2.out W hW; go_simp; rfl) ?_
        refine g_take (i := 3) rfl rfl (by kernel_rfl) (by kernel_rfl) (by kernel_rfl) (by kernel_rfl) (by kernel_rfl) (fun _ _ _ h => h) hS (fun L W hL hW => by have p1' := HP1.out W hW; have p2' := HP2.out W hW; have q1' := HQ1.out W hW; have q2' := HQ2.out W hW; go_simp; rfl) ?_
        refine g_take (i := 4) rfl rfl (by kernel_rfl) (by kernel_rfl) (by kernel_rfl) (by kernel_rfl) (by kernel_rfl) (fun _ _ _ h => h) hS (fun L W hL hW => by have p1' := HP1.out W hW; have p2' := HP2.out W hW; have q1' := HQ1.out W hW; have q2' := HQ2.out W hW; go_simp; rfl) ?_
        refine g_take (i := 5) rfl rfl (by kernel_rfl) (by kernel_rfl) (by kernel_rfl) (by kernel_rfl) (by kernel_rfl) (fun _ _ _ h => h) hS (fun L W hL hW => by have p1' := HP1.out W hW; have p2' := HP2.out W hW; have q1' := HQ1.out W hW; have q2' := HQ2.out W hW; go_simp; rfl) ?_
        refine g_take (i := 6) rfl rfl (by kernel_rfl) (by kernel_rfl) (by kernel_rfl) (by kernel_rfl) (by kernel_rfl) (fun _ _ _ h => h) hS (fun L W hL hW => by have p1' := HP1.out W hW; have p2' := HP2.out W hW; have q1' := HQ1.out W hW; have q2' := HQ2.out W hW; go_simp; rfl) ?_
        refine g_take (i := 7) rfl rfl (by kernel_rfl) (by kernel_rfl) (by kernel_rfl) (by kernel_rfl) (by kernel_rfl) (fun _ _ _ h => h) hS (fun L W hL hW => by have p1' := HP1.out W hW; have p2' := HP2.out W hW; have q1' := HQ1.out W hW; have q2' := HQ2.out W hW; go_simp; rfl) ?_
        refine g_one (i := 8) rfl rfl (by kernel_rfl) fun K hK => ?_
        go_simp
        refine Calls.mono (samerec_any A1 A2 c1 c2 r s _ (HB1.out _ hS) (HB2.out _ hS)) ?_
        rintro e w3 ⟨rfl, hb3⟩
        have hS3 := hS.trans (hb3.mono hS.size)
        refine hK _ _ hS3 ?_
        clear hK K hb3
        refine g_take (i := 9) rfl rfl (by kernel_rfl) (by kernel_rfl) (by kernel_rfl) (by kernel_rfl) (by kernel_rfl) (fun _ _ _ h => h) hS3 (fun L W hL hW => by go_simp; rfl) ?_
        refine wpAnyG_done (by kernel_rfl) ?_ _
        have HB := Lib.hid (hBc _ hS3)
        go_simp
        cases hsb : sameB r s
        · have hN := Lib.hid (HE2.out (by rw [sameB_eq] at hsb; simpa using hsb))
          clear hI hJ HP1 HP2 HQ1 HQ2 HB1 HB2 HE1 HE2 hS hS3 hBc hb1 hb2
          go_wp2
          go_ret
          exact ⟨by rw [decide_eq_false hN.out]; rfl, HB.out⟩
        · have hN := Lib.hid (HE1.out (by rw [sameB_eq] at hsb; simpa using hsb))
          clear hI hJ HP1 HP2 HQ1 HQ2 HB1 HB2 HE1 HE2 hS hS3 hBc hb1 hb2
          go_wp2
          go_roundw
          case rel => exact ⟨k + 1, by omega, by go_num, hN, HB.out⟩
          case measure => simp [intOf]; omega
      · obtain rfl : k = x := by omega
        have hN : Hid (l = m) := Lib.hid (by have := hT.out; rwa [List.take_of_length_le (by have := hX.out; omega), List.take_of_length_le (by have := hY.out; omega)] at this)
        clear hT
        go_wp2
        go_ret
        exact ⟨by rw [decide_eq_true hN.out]; rfl, hBr⟩
  · have hn : ((x : Int) != (y : Int)) = true := by rw [bne_iff_ne]; omega
    have hN : Hid (l ≠ m) := Lib.hid (fun h => hne (by rw [hx, hy, h]))
    go_enter Try.func12, Try.ntmps12
    go_wp2
    go_ret
    exact ⟨by rw [decide_eq_false hN.out]; rfl, Below.refl _ _⟩
end Go.Proofs.Ytboikajfcmgffaa.RecW
