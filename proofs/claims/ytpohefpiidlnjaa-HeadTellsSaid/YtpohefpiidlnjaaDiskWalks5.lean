/-
  The walk of Fuse; what does nothing.
-/
import Derived.Test.YtpohefpiidlnjaaDiskWalks2
import Derived.Test.YtpohefpiidlnjaaWordsRange
import Derived.Deep.DeepCutAuto
import Derived.Shelf.Abstract
namespace Go.Proofs.Ytpohefpiidlnjaa.Dk
set_option linter.unusedVariables false
open Go Go.RowKit Go.Shelf Go.Proofs Go.Proofs.Ytpohefpiidlnjaa Go.Proofs.Ytpohefpiidlnjaa.Wd

section
variable {base : Nat} {F : Nat → Prop} {g : Nat} {s : DS}
theorem nothing_any {w : World} (h : At w base F g s) (p : Nat) : Calls Try.prog 42 (#[.int .i64 p] ++ #[]) w fun e w' => (∃ v, e = .returned v) ∧ Next w base F g s w' := by
  have HN := Lib.hid (Next.refl h)
  clear h
  show Calls Try.prog 42 #[.int .i64 p] w _
  go_enter Try.func42, Try.ntmps42
  go_wp2
  go_end0
  exact ⟨⟨_, rfl⟩, HN.out⟩
/-- What a fuse makes of a disk. -/
def fuseD (calls part : Int) (s : DS) : DS := if s.dead then s else fused s (if calls < 0 then none else some (calls.toNat, part.toNat))
set_option maxRecDepth 100000 in
set_option maxHeartbeats 1000000 in
theorem fuse_any {w : World} (h : At w base F g s) (calls part : Int) (hc : calls ≤ 9223372036854775807) (hp : part ≤ 9223372036854775807) :
    Calls Try.prog 19 #[.pointer (some ⟨g, 0, none⟩), .int .i64 calls, .int .i64 part] w fun e w' => (∃ v, e = .returned v) ∧ Next w base F g (fuseD calls part s) w' := by
  have HA0 := Lib.hid h
  obtain ⟨cs, v, vf, R, fb, h⟩ := h
  go_enter Try.func19, Try.ntmps19
  go_wp2_with fail
  refine Calls.mono (none_any HA0.out) ?_
  rintro e w1 ⟨rfl, rfl⟩
  cases hd : s.dead
  rotate_left
  · have HR : Hid (fuseD calls part s = s) := Lib.hid (by unfold fuseD; rw [if_pos hd])
    have HNX := Lib.hid (Next.refl HA0.out)
    clear hd h
    go_wp2_with fail
    refine bodyPost_ret (results_none rfl _ _ _) rfl ?_
    rw [HR.out]
    exact ⟨⟨_, rfl⟩, HNX.out⟩
  have c136 := h.cell h.cells.c136
  have fz := h.blk.frozen 136
  have hok := h.ok
  by_cases hneg : calls < 0
  · have HR : Hid (fuseD calls part s = fused s none) := Lib.hid (by unfold fuseD; rw [if_neg (by rw [hd]; simp), if_pos hneg])
    have u1 : decide (0 ≤ calls) = false := by simp; omega
    have u2 : ¬ 0 ≤ calls := by omega
    have HNX : Hid (Next w base F g (fused s none) (w.setCell ⟨g, 136, none⟩ (.pointer none))) := Lib.hid
      ⟨F, ⟨cs.setIfInBounds 136 (.pointer none), v, .pointer none, R, fun _ => False, ⟨hok.cap, hok.room, hok.safe, hok.sl, hok.lo, fun _ _ e => by cases e⟩, h.blk.set_ _ _, h.cells.fuse _ none, fun i hi => (h.row i hi).fr (G := fun j => j = g) (Fr.setCell (F := fun j => j = g) (p := ⟨g, 136, none⟩) (Fr.refl _ _) (.inl rfl) _) (fun j hj e => (h.fR i hi j hj).2 e), rfl, h.fg, h.fR, fun _ e => e.elim, h.apart, fun j hj => by simpa using h.lo j hj⟩,
        Fr.setCell (p := ⟨g, 136, none⟩) (Fr.refl _ _) (.inl h.fg) _, fun _ h => .inl h⟩
    clear hd h hok hneg
    go_wp2_with fail
    go_end0
    rw [HR.out]
    exact ⟨⟨_, rfl⟩, HNX.out⟩
  · obtain ⟨q, rfl⟩ : ∃ q : Nat, calls = q := ⟨calls.toNat, by omega⟩
    have HR : Hid (fuseD (q : Int) part s = fused s (some (q, part.toNat))) := Lib.hid (by unfold fuseD; rw [if_neg (by rw [hd]; simp), if_neg hneg]; rfl)
    have u1 : decide (0 ≤ (q : Int)) = true := by simp
    have u2 : (0 : Int) ≤ (q : Int) := by omega
    have hgl := (h.lo g h.fg).2
    have z1 := h.blk.set_ 136 (.pointer none)
    obtain ⟨M, hM⟩ : ∃ M, M = part.toNat := ⟨_, rfl⟩
    have z2 := (z1.alloc (.cells #[.int .i64 (q : Int), .int .i64 (M : Int)] 89))
    have c3 := Blk.at_ z2 136 (v := .pointer none) (Array.getElem?_setIfInBounds_self_of_lt (by rw [h.cells.size]; omega))
    have fz2 := z2.frozen 136
    have z3 := (z1.set_ 136 (.pointer (some ⟨w.heap.size, 0, none⟩))).alloc (.cells #[.int .i64 (q : Int), .int .i64 (M : Int)] 89)
    have zf2 := Blk.new_ ((w.setCell ⟨g, 136, none⟩ (.pointer none)).setCell ⟨g, 136, none⟩ (.pointer (some ⟨w.heap.size, 0, none⟩))) 89 #[.int .i64 (q : Int), .int .i64 (M : Int)] (n := w.heap.size) (by simp)
    have hfr1 : Fr (fun j => j = g) w (((w.setCell ⟨g, 136, none⟩ (.pointer none)).setCell ⟨g, 136, none⟩ (.pointer (some ⟨w.heap.size, 0, none⟩))).alloc (.cells #[.int .i64 (q : Int), .int .i64 (M : Int)] 89)) :=
      (Fr.setCell (F := fun j => j = g) (p := ⟨g, 136, none⟩) (Fr.setCell (F := fun j => j = g) (p := ⟨g, 136, none⟩) (Fr.refl _ _) (.inl rfl) _) (.inl rfl) _).alloc _
    have HNX : Hid (Next w base F g (fused s (some (q, M))) (((w.setCell ⟨g, 136, none⟩ (.pointer none)).setCell ⟨g, 136, none⟩ (.pointer (some ⟨w.heap.size, 0, none⟩))).alloc (.cells #[.int .i64 (q : Int), .int .i64 (M : Int)] 89))) := Lib.hid
      ⟨fun j => F j ∨ j = w.heap.size, ⟨_, v, .pointer (some ⟨w.heap.size, 0, none⟩), R, fun j => j = w.heap.size, ⟨hok.cap, hok.room, hok.safe, hok.sl, hok.lo, fun k' p' e => by cases e; exact ⟨by omega, by omega⟩⟩, z3, (h.cells.fuse _ none).fuse _ (some (q, M)), fun i hi => (h.row i hi).fr hfr1 (fun j hj e => (h.fR i hi j hj).2 e),
        ⟨w.heap.size, rfl, rfl, zf2⟩, .inl h.fg, fun i hi j hj => ⟨.inl (h.fR i hi j hj).1, (h.fR i hi j hj).2⟩, fun j e => ⟨.inr e, by omega, fun i hi hr => by have := (h.lo j (h.fR i hi j hr).1).2; omega⟩, h.apart, fun j hj => by
          rcases hj with hj | rfl
          · have := h.lo j hj; simp; omega
          · have := (h.lo g h.fg).1; simp; omega⟩,
        hfr1.more (fun i e => .inl (e ▸ h.fg)), fun j hj => by
          rcases hj with hj | rfl
          · exact .inl hj
          · exact .inr (Nat.le_refl _)⟩
    rw [← hM] at HR
    have HMM := Lib.hid hM
    by_cases hp0 : part < 0
    · have hm0 : M = 0 := by omega
      subst hm0
      have u3 : (part : Int) ≤ 0 := by omega
      clear hd h hok hneg z1 z2 z3 zf2 hfr1 hM
      simp only [Int.cast_ofNat_Int] at *
      go_wp2_with fail
      go_end0
      rw [HR.out]
      exact ⟨⟨_, rfl⟩, HNX.out⟩
    · obtain rfl : part = M := by omega
      have u3 : ¬ (M : Int) < 0 := by omega
      clear hd h hok hneg z1 z2 z3 zf2 hfr1 hM hp0
      go_wp2_with fail
      go_end0
      rw [HR.out]
      exact ⟨⟨_, rfl⟩, HNX.out⟩
end
end Go.Proofs.Ytpohefpiidlnjaa.Dk
