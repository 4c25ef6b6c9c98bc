/-
  What Head answers may be written; bytes of the caller's own that may be.
-/
import Derived.Test.YtgajgjijnpigoaaDiskWalks9
namespace Go.Proofs.Ytgajgjijnpigoaa.Dk
set_option linter.unusedVariables false
open Go Go.RowKit Go.Shelf Go.Proofs Go.Proofs.Ytgajgjijnpigoaa Go.Proofs.Ytgajgjijnpigoaa.Wd
/-- Bytes that lie in memory that is new, and may be written. -/
def FreshW (w : World) (l : List UInt8) (e : Ending) (w' : World) : Prop :=
  ∃ A c, e = .returned (.slice A l.length c) ∧ l.length ≤ c ∧ c ≤ maxLen ∧ Bytes w' w'.heap.size A l ∧ Below w.heap.size w w' ∧ ∀ x o, A = some ⟨x, o, none⟩ → w.heap.size ≤ x ∧ x < w'.heap.size ∧ ∀ j, w'.frozen? ⟨x, j, none⟩ = false
section
variable {w : World} {base : Nat} {F : Nat → Prop} {g : Nat} {s : DS}
set_option maxRecDepth 100000 in
set_option maxHeartbeats 1000000 in
theorem head2_any (h : At w base F g s) (i : Int) : Calls Try.prog 21 #[.pointer (some ⟨g, 0, none⟩), .int .i64 i] w (FreshW w (hd s i)) := by
  have h0 := h
  obtain ⟨cs, v, vf, R, fb, h⟩ := h
  go_enter Try.func21, Try.ntmps21
  go_wp2_with fail
  refine Calls.mono (none_any h0) ?_
  rintro e w1 ⟨rfl, rfl⟩
  clear h0
  cases hdd : s.dead
  · go_wp2_with fail
    refine Calls.mono (among_any i _) ?_
    rintro e w1 ⟨rfl, rfl⟩
    rcases among_cases i with ⟨k, rfl, hk⟩ | hn
    · rw [among_yes hk]
      have HR : Hid (hd s (k : Int) = if s.wr k then s.lo k else s.sl k) := Lib.hid (by unfold hd; rw [hdd, if_neg (by simp), among_yes hk, if_pos rfl]; rfl)
      have hr := h.slot hk
      have hlen := slotC_len h.ok hk
      have HL0 := Lib.hid (h.ok.lo k hk)
      have HS0 := Lib.hid (h.ok.sl k hk)
      have HLO := Lib.hid (fun j => slotC_lo h.ok hk (j := j))
      have HSL := Lib.hid (fun j => slotC_sl h.ok hk (j := j))
      have hwr := slotC_wr h.ok hk
      have hone : ∀ u ∈ (slotC s k).toArray.toList, u.oneCell' = true := fun u hu => by
        have hu : u ∈ bs (s.sl k) ++ bs (s.lo k) ++ [.bool (s.wr k)] := by simpa [slotC] using hu
        rw [List.mem_append, List.mem_append] at hu
        rcases hu with (h1 | h1) | h1
        · exact bs_one _ u h1
        · exact bs_one _ u h1
        · rw [List.mem_singleton.1 h1]; rfl
      have hi1 : (Try.prog.info? 66).map (·.size) = some (slotC s k).length := by rw [hlen]; kernel_rfl
      have hi2 : (Try.prog.info? 66).map (·.size) = some (slotC s k).toArray.size := by rw [List.size_toArray]; exact hi1
      have HH : Hid ((slotC s k).toArray.size = 65) := Lib.hid (by rw [List.size_toArray]; exact hlen)
      generalize slotC s k = sc at *
      have i1 : (0 : Int) ≤ (k : Int) := by omega
      have i2 : (k : Int) < 2 := by omega
      have HI1 := Lib.hid hi1
      have HI2 := Lib.hid hi2
      have HONE := Lib.hid hone
      have HR1 := Lib.hid hr
      have HWR := Lib.hid hwr
      clear h hdd hk hlen hi1 hi2 hone hr hwr
      obtain ⟨z, hzs, hz0⟩ := zero_slot
      have q0 := (Blk.new_ w 66 z (n := w.heap.size) rfl).row sc.toArray
      have hb := (Below.refl w.heap.size w).alloc (Nat.le_refl _) (.cells z 66)
      have hb2 : Below w.heap.size w ((w.alloc (.cells z 66)).setRow w.heap.size sc.toArray) := hb.trans ⟨rfl, rfl, rfl, by simp [World.setRow], fun j hj => setRow_other _ _ _ _ (by omega)⟩
      have c1 := Blk.at_ q0 64 (v := .bool (s.wr k)) (by simpa using HWR.out)
      have HZ := Lib.hid hzs
      have hlt := q0.lt
      have QB := Lib.hid q0
      clear hb q0 hzs
      cases hw : s.wr k
      · rw [hw] at c1
        have HW := Lib.hid hw
        clear hw
        go_wp2_with (first
          | refine wpList_load_mid rfl 66 (.tmp 17) rfl g (6 + k * 65) rfl sc _ HR1.out Try.underlying66 rfl HI1.out ?_
          | refine wpList_put_row rfl rfl 66 (.tmp 5) (.tmp 18) rfl w.heap.size rfl 66 z sc.toArray rfl (Blk.new_ w _ _ rfl) HI2.out (HZ.out.trans HH.out.symm) HONE.out ?_)
        generalize (w.alloc (.cells z 66)).setRow w.heap.size sc.toArray = w3 at *
        go_ret
        rw [HR.out, HW.out]
        refine ⟨some ⟨w.heap.size, 0, none⟩, 32, by rw [if_neg (by simp), HS0.out]; rfl, by rw [if_neg (by simp), HS0.out]; exact Nat.le_refl _, by simp [maxLen], ?_, hb2, fun x o e => by cases e; exact ⟨Nat.le_refl _, hlt, fun j => QB.out.frozen j⟩⟩
        rw [if_neg (by simp)]
        intro j hj
        rw [bs_length, HS0.out] at hj
        refine ⟨w.heap.size, 0, rfl, hlt, ?_⟩
        exact Blk.at_ QB.out (0 + j) (by rw [Nat.zero_add, List.getElem?_toArray, HSL.out j hj]; exact List.getElem?_eq_getElem _)
      · rw [hw] at c1
        have HW := Lib.hid hw
        clear hw
        go_wp2_with (first
          | refine wpList_load_mid rfl 66 (.tmp 17) rfl g (6 + k * 65) rfl sc _ HR1.out Try.underlying66 rfl HI1.out ?_
          | refine wpList_put_row rfl rfl 66 (.tmp 5) (.tmp 18) rfl w.heap.size rfl 66 z sc.toArray rfl (Blk.new_ w _ _ rfl) HI2.out (HZ.out.trans HH.out.symm) HONE.out ?_)
        generalize (w.alloc (.cells z 66)).setRow w.heap.size sc.toArray = w3 at *
        go_ret
        rw [HR.out, HW.out]
        refine ⟨some ⟨w.heap.size, 32, none⟩, 32, by rw [if_pos rfl, HL0.out]; rfl, by rw [if_pos rfl, HL0.out]; exact Nat.le_refl _, by simp [maxLen], ?_, hb2, fun x o e => by cases e; exact ⟨Nat.le_refl _, hlt, fun j => QB.out.frozen j⟩⟩
        rw [if_pos rfl]
        intro j hj
        rw [bs_length, HL0.out] at hj
        refine ⟨w.heap.size, 32, rfl, hlt, ?_⟩
        exact Blk.at_ QB.out (32 + j) (by rw [List.getElem?_toArray, HLO.out j hj]; exact List.getElem?_eq_getElem _)
    · rw [hn]
      have HR : Hid (hd s i = []) := Lib.hid (by unfold hd; rw [hdd, hn]; rfl)
      clear h hdd hn
      go_wp2
      go_ret
      rw [HR.out]
      exact ⟨none, 0, rfl, Nat.le_refl _, by simp [maxLen], Row.nil, Below.refl _ _, fun _ _ e => by cases e⟩
  · have HR : Hid (hd s i = []) := Lib.hid (by unfold hd; rw [hdd]; rfl)
    clear h hdd
    go_wp2
    go_ret
    rw [HR.out]
    exact ⟨none, 0, rfl, Nat.le_refl _, by simp [maxLen], Row.nil, Below.refl _ _, fun _ _ e => by cases e⟩
end
/-- Bytes that may be written. -/
def Wb (w : World) (A : Option Addr) (n : Nat) : Prop := ∃ l : List UInt8, n = l.length ∧ Bytes w w.heap.size A l ∧ ∀ x o, A = some ⟨x, o, none⟩ → ∀ j, w.frozen? ⟨x, j, none⟩ = false
theorem Wb.below {w w' : World} {A : Option Addr} {n : Nat} (h : Wb w A n) (hA : ∀ x o, A = some ⟨x, o, none⟩ → x < w.heap.size) (hb : Below w.heap.size w w') : Wb w' A n := by
  obtain ⟨l, h1, h2, h3⟩ := h
  exact ⟨l, h1, h2.grow hb, fun x o e j => (hb.frozen (p := ⟨x, j, none⟩) (hA x o e)).trans (h3 x o e j)⟩
theorem Wb.set_ {w : World} {x o n : Nat} (h : Wb w (some ⟨x, o, none⟩) n) {j : Nat} (hj : j < n) (y : UInt8) : Wb (w.setCell ⟨x, o + j, none⟩ (.int .u8 (y.toNat : Nat))) (some ⟨x, o, none⟩) n := by
  obtain ⟨l, rfl, h2, h3⟩ := h
  refine ⟨l.set j y, by simp, fun i hi => ?_, fun x' o' e k => ?_⟩
  · have hi' : i < l.length := by simpa [bs] using hi
    obtain ⟨b, off, e, hb, hc⟩ := h2.at_ hi'
    cases e
    refine ⟨x, o, rfl, by simpa using hb, ?_⟩
    by_cases hij : i = j
    · subst hij
      rw [World.cell?_setCell_same _ _ _ hc, bs_get]
      simp
    · rw [World.cell?_setCell_other _ _ _ _ (fun e => hij (by injection e with e1 e2; omega)), hc, bs_get]
      simp [List.getElem_set_ne (fun e => hij e.symm)]
  · cases e
    have := h3 x o rfl k
    simpa using this
theorem wb_own {w : World} {base n c : Nat} {A : Option Addr} {l : List UInt8} (h : w.ownsRow base 5 1 (.slice A n c) n (bs l)) : Wb w A n ∧ ∀ x o, A = some ⟨x, o, none⟩ → base ≤ x ∧ x < w.heap.size := by
  obtain ⟨A', c', e, h1, h2, h3⟩ := own_bytes h
  cases e
  rcases h.2 with ⟨h4, h0⟩ | ⟨g, cap, cur, h4, hg, hh, -⟩
  · cases h4
    exact ⟨⟨l, h2, h3, fun x o e => by cases e⟩, fun x o e => by cases e⟩
  · cases h4
    exact ⟨⟨l, h2, h3, fun x o e j => by cases e; exact Blk.frozen (t := 5) hh j⟩, fun x o e => by cases e; exact ⟨hg, Blk.lt (t := 5) hh⟩⟩
end Go.Proofs.Ytgajgjijnpigoaa.Dk
