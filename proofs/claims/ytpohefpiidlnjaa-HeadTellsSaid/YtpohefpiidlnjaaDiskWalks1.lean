/-
  The walks of the disk's small functions, New, Free, Read.
-/
import Derived.Test.YtpohefpiidlnjaaDiskAt
import Derived.BigQuiet
import Derived.Deep.QuietTactic
import Derived.Lib.SlBytesConst
namespace Go.Proofs.Ytpohefpiidlnjaa.Dk
set_option linter.unusedVariables false
open Go Go.RowKit Go.Proofs Go.Proofs.Ytpohefpiidlnjaa Go.Proofs.Ytpohefpiidlnjaa.Wd

theorem among_any (i : Int) (w : World) : Calls Try.prog 38 #[.int .i64 i] w fun e w' => e = .returned (.bool (decide (i = 0) || decide (i = 1))) ∧ w = w' := by
  by_cases h0 : i = 0
  · subst h0
    go_enter Try.func38, Try.ntmps38
    go_wp2
    go_ret
    exact ⟨rfl, rfl⟩
  · have u0 : (i == 0) = false := by simpa using h0
    by_cases h1 : i = 1
    · subst h1
      go_enter Try.func38, Try.ntmps38
      go_wp2
      go_ret
      exact ⟨rfl, rfl⟩
    · have u1 : (i == 1) = false := by simpa using h1
      have HX : Hid ((decide (i = 0) || decide (i = 1)) = false) := Lib.hid (by rw [decide_eq_false h0, decide_eq_false h1]; rfl)
      clear h0 h1
      go_enter Try.func38, Try.ntmps38
      go_wp2
      go_ret
      exact ⟨by rw [HX.out]; rfl, rfl⟩
/-- A segment's, or a slot's, number. -/
theorem among_cases (i : Int) : (∃ k : Nat, i = k ∧ k < 2) ∨ (decide (i = 0) || decide (i = 1)) = false := by
  by_cases h0 : i = 0
  · exact .inl ⟨0, h0, by omega⟩
  · by_cases h1 : i = 1
    · exact .inl ⟨1, h1, by omega⟩
    · right; rw [decide_eq_false h0, decide_eq_false h1]; rfl
theorem among_yes {k : Nat} (h : k < 2) : (decide ((k : Int) = 0) || decide ((k : Int) = 1)) = true := by
  rcases (by omega : k = 0 ∨ k = 1) with rfl | rfl <;> rfl
section
variable {base : Nat} {F : Nat → Prop} {g : Nat} {s : DS}
theorem why_any {w : World} (h : At w base F g s) : Calls Try.prog 39 #[.pointer (some ⟨g, 0, none⟩)] w fun e w' => e = .returned (.int .i64 (if s.dead then 3 else 0)) ∧ w = w' := by
  obtain ⟨cs, v, vf, R, fb, h⟩ := h
  have c0 := h.cell h.cells.c0
  have c1 := h.cell h.cells.c137
  cases hd : s.dead <;> rw [hd] at c1
  · go_enter Try.func39, Try.ntmps39
    go_wp2
    go_ret
    exact ⟨rfl, rfl⟩
  · go_enter Try.func39, Try.ntmps39
    go_wp2
    go_ret
    exact ⟨rfl, rfl⟩
theorem none_any {w : World} (h : At w base F g s) : Calls Try.prog 37 #[.pointer (some ⟨g, 0, none⟩)] w fun e w' => e = .returned (.bool s.dead) ∧ w = w' := by
  obtain ⟨cs, v, vf, R, fb, h⟩ := h
  have c0 := h.cell h.cells.c0
  have c1 := h.cell h.cells.c137
  go_enter Try.func37, Try.ntmps37
  go_wp2
  go_ret
  exact ⟨rfl, rfl⟩
theorem dead_any {w : World} (h : At w base F g s) : Calls Try.prog 56 #[.pointer (some ⟨g, 0, none⟩)] w fun e w' => e = .returned (.bool s.dead) ∧ w = w' := by
  go_enter Try.func56, Try.ntmps56
  go_wp2_with fail
  refine Calls.mono (why_any h) ?_
  rintro e w1 ⟨rfl, rfl⟩
  cases hd : s.dead
  · simp only [Bool.false_eq_true, if_false]
    go_wp2
    go_ret
    exact ⟨by rw [hd]; rfl, rfl⟩
  · simp only [if_true]
    go_wp2
    go_ret
    exact ⟨by rw [hd]; rfl, rfl⟩
/-- What is free. -/
def free (s : DS) : Nat := if s.dead then 0 else s.cap - (s.all 0).length - (s.all 1).length
theorem free_any {w : World} (h : At w base F g s) : Calls Try.prog 54 #[.pointer (some ⟨g, 0, none⟩)] w fun e w' => e = .returned (.int .i64 (free s : Nat)) ∧ Below w.heap.size w w' := by
  have h0 := h
  obtain ⟨cs, v, vf, R, fb, h⟩ := h
  have c1 := h.cell h.cells.c1
  have c2 := h.cell (h.cells.seg 0 (by omega))
  have c3 := h.cell (h.cells.seg 1 (by omega))
  obtain ⟨A0, k0, e0, l0, m0, b0⟩ := h.form (i := 0) (by omega)
  obtain ⟨A1, k1, e1, l1, m1, b1⟩ := h.form (i := 1) (by omega)
  have hok1 := h.ok.room
  have hok2 := h.ok.cap
  have HF : Hid (free s = if s.dead then 0 else s.cap - (s.all 0).length - (s.all 1).length) := Lib.hid rfl
  rw [e0] at c2
  rw [e1] at c3
  generalize (s.all 0).length = n0 at *
  generalize (s.all 1).length = n1 at *
  generalize s.cap = cp at *
  have y1 : IntKind.i64.wrap ((cp : Int) - n0) = (cp : Int) - n0 := IntWalk.i64_in _ (by omega)
  have y2 : IntKind.i64.wrap ((cp : Int) - n0 - n1) = (cp : Int) - n0 - n1 := IntWalk.i64_in _ (by omega)
  clear b0 b1 h e0 e1
  go_enter Try.func54, Try.ntmps54
  go_wp2_with fail
  refine Calls.mono (none_any h0) ?_
  rintro e w1 ⟨rfl, rfl⟩
  clear h0
  cases hd : s.dead
  · have HG : Hid (((free s : Nat) : Int) = (cp : Int) - n0 - n1) := Lib.hid (by rw [HF.out, hd, if_neg (by simp)]; omega)
    clear HF hd
    go_wp2_with fail
    go_quiet (fail)
    go_wp2
    go_ret
    exact ⟨by rw [HG.out]; rfl, bdrewN (Below.refl _ _) _⟩
  · have HG : Hid (((free s : Nat) : Int) = 0) := Lib.hid (by rw [HF.out, hd]; rfl)
    clear HF hd
    go_wp2
    go_ret
    exact ⟨by rw [HG.out]; rfl, Below.refl _ _⟩
end
/-- Fresh bytes. -/
def Fresh (w : World) (l : List UInt8) (e : Ending) (w' : World) : Prop :=
  ∃ v, e = .returned v ∧ w'.ownsRow w.heap.size 5 1 v l.length (bs l) ∧ Below w.heap.size w w'
theorem own_empty (w : World) (e : TypeId) {B : Nat} (hB : B ≤ w.heap.size) : (w.alloc (.cells #[] e)).ownsRow B e 1 (.slice (some ⟨w.heap.size, 0, none⟩) 0 0) 0 [] :=
  Blk.own (Blk.new_ w e #[] rfl) hB 0 (Nat.le_refl _) (by simp [maxLen])
theorem clone_any (A : Option Addr) (c : Nat) (l : List UInt8) (n : Nat) (hn : n = l.length) (hc : n ≤ 10000000) (w : World) (hI : Bytes w w.heap.size A l) :
    Calls Try.prog 59 #[.slice A n c] w (Fresh w l) := by
  have HN := Lib.hid hn
  clear hn
  obtain ⟨i0, hi0, hz0, hz1, hz2⟩ := info_parts infoU8
  cases A with
  | none =>
    have hl : l = [] := by
      rcases l with _ | ⟨x, r⟩
      · rfl
      · obtain ⟨b, off, h, _⟩ := hI.at_ (j := 0) (by simp)
        cases h
    subst hl
    have he := fun (W : World) => Lib.run_eql_slice_nil (P := Try.prog) W 25 5 none n c 0 0 Try.underlying25
    go_enter Try.func59, Try.ntmps59
    go_wp2
    go_ret
    exact ⟨_, rfl, own_nil _ _ _, Below.refl _ _⟩
  | some ad =>
    have he := fun (W : World) => Lib.run_eql_slice_nil (P := Try.prog) W 25 5 (some ad) n c 0 0 Try.underlying25
    go_enter Try.func59, Try.ntmps59
    go_wp2_with (at_builtin; refine wpList_append_row _ rfl (.tmp 5) (.tmp 6) _ rfl w.heap.size 5 i0 _ 1 Try.underlying25 hi0 hz0 hz1 hz2 rfl _ 0 [] rfl (by exact own_empty _ _ (Nat.le_refl _)) w.heap.size (some ad) n c (bs l) rfl (by rw [bs_length]; exact HN.out) (by exact hI.alloc (Nat.le_refl _) _) (bs_one l) (by unfold maxLen; omega) (by omega) (by simp) ?_)
    intro v1 w1 hown hgrow _ _
    have hB1 : Below w.heap.size w w1 := ((Below.refl _ w).alloc (Nat.le_refl _) _).grown hgrow (by simp) (by simp [Value.ownBlock])
    go_wp2
    go_ret
    exact ⟨_, rfl, by rw [← HN.out]; first | exact hown | (rw [Nat.zero_add] at hown; exact hown), hB1⟩
section
variable {base : Nat} {F : Nat → Prop} {g : Nat} {s : DS}
/-- What is read of a segment. -/
def rd (s : DS) (i : Int) : List UInt8 := if s.dead then [] else if decide (i = 0) || decide (i = 1) then s.all i.toNat else []
theorem read_any {w : World} (h : At w base F g s) (i : Int) : Calls Try.prog 52 #[.pointer (some ⟨g, 0, none⟩), .int .i64 i] w (Fresh w (rd s i)) := by
  have h0 := h
  obtain ⟨cs, v, vf, R, fb, h⟩ := h
  go_enter Try.func52, Try.ntmps52
  go_wp2_with fail
  refine Calls.mono (none_any h0) ?_
  rintro e w1 ⟨rfl, rfl⟩
  clear h0
  cases hd : s.dead
  · go_wp2_with fail
    refine Calls.mono (among_any i _) ?_
    rintro e w1 ⟨rfl, rfl⟩
    rcases among_cases i with ⟨k, rfl, hk⟩ | hn
    · rw [among_yes hk]
      have HR : Hid (rd s (k : Int) = s.all k) := Lib.hid (by unfold rd; rw [hd, if_neg (by simp), among_yes hk, if_pos rfl]; rfl)
      have c2 := h.cell (h.cells.seg k hk)
      obtain ⟨A0, k0, e0, l0, m0, b0⟩ := h.form hk
      rw [e0] at c2
      have hlen : (s.all k).length ≤ 1048576 := by
        have h1 := h.ok.room
        have h2 := h.ok.cap
        rcases (by omega : k = 0 ∨ k = 1) with rfl | rfl <;> omega
      have i1 : (0 : Int) ≤ (k : Int) := by omega
      have i2 : (k : Int) < 2 := by omega
      generalize s.all k = l at *
      obtain ⟨n, hn⟩ : ∃ n, n = l.length := ⟨_, rfl⟩
      rw [← hn] at c2 hlen
      have HN := Lib.hid hn
      clear hn h hd e0 l0 hk
      go_wp2_with fail
      refine Calls.mono (clone_any A0 k0 l n HN.out (by omega) _ b0) ?_
      rintro e w2 ⟨v2, rfl, hown, hb⟩
      go_wp2
      go_ret
      rw [HR.out]
      exact ⟨_, rfl, hown, hb⟩
    · rw [hn]
      have HR : Hid (rd s i = []) := Lib.hid (by unfold rd; rw [hd, hn]; rfl)
      clear h hd hn
      go_wp2
      go_ret
      rw [HR.out]
      exact ⟨_, rfl, own_nil _ _ _, Below.refl _ _⟩
  · have HR : Hid (rd s i = []) := Lib.hid (by unfold rd; rw [hd]; rfl)
    clear h hd
    go_wp2
    go_ret
    rw [HR.out]
    exact ⟨_, rfl, own_nil _ _ _, Below.refl _ _⟩
end
end Go.Proofs.Ytpohefpiidlnjaa.Dk
