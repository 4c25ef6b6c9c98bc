/-
  The walk of change: a call that changes something, under a fuse.
-/
import Derived.Test.YtpohefpiidlnjaaDiskWalks1
namespace Go.Proofs.Ytpohefpiidlnjaa.Dk
set_option linter.unusedVariables false
open Go Go.RowKit Go.Proofs Go.Proofs.Ytpohefpiidlnjaa Go.Proofs.Ytpohefpiidlnjaa.Wd

/-- The disk is another one now; outside of its blocks nothing turned. -/
def Next (w : World) (base : Nat) (F : Nat → Prop) (g : Nat) (s' : DS) (w' : World) : Prop := ∃ F', At w' base F' g s' ∧ Fr F w w' ∧ ∀ k, F' k → F k ∨ w.heap.size ≤ k
def fused (s : DS) (o : Option (Nat × Nat)) : DS := { s with fuse := o }
def died (s : DS) : DS := { s with dead := true }
/-- What a call that changes something answers, and makes of a disk. -/
def after (s : DS) (f : DS → DS) (fl : Nat → DS → DS) : Nat × DS := match s.fuse with
  | none => (0, f s)
  | some (0, p) => (3, died (fl p s))
  | some (k + 1, p) => (0, fused (f s) (some (k, p)))
section
variable {w w' : World} {base : Nat} {F G : Nat → Prop} {g : Nat} {s : DS}
theorem Next.refl (h : At w base F g s) : Next w base F g s w := ⟨F, h, Fr.refl _ _, fun _ h => .inl h⟩
theorem Next.trans {w'' : World} {s' s'' : DS} {F' : Nat → Prop} (h1 : Fr F w w') (h2 : ∀ k, F' k → F k ∨ w.heap.size ≤ k) (h : Next w' base F' g s'' w'') : Next w base F g s'' w'' := by
  obtain ⟨F'', k1, k2, k3⟩ := h
  refine ⟨F'', k1, h1.trans k2 h2, fun k hk => ?_⟩
  rcases k3 k hk with h | h
  · exact h2 k h
  · exact .inr (Nat.le_trans h1.size h)
theorem At'.dead {cs : Array Value} {v : Nat → Value} {vf : Value} {R : Nat → Nat → Prop} {fb : Nat → Prop} (h : At' w base F g s cs v vf R fb) (b : Bool) : At' (w.setCell ⟨g, 137, none⟩ (.bool b)) base F g { s with dead := b } (cs.setIfInBounds 137 (.bool b)) v vf R fb :=
  h.set_ 137 (.bool b) ⟨h.ok.cap, h.ok.room, h.ok.safe, h.ok.sl, h.ok.lo, h.ok.fuse⟩ (h.cells.dead b) (fun _ _ => ⟨rfl, rfl⟩) ⟨rfl, rfl⟩

set_option maxRecDepth 100000 in
set_option maxHeartbeats 1000000 in
theorem change_any (h : At w base F g s) (fd fl : Nat) (bd bl : Array Value) (f : DS → DS) (fl' : Nat → DS → DS)
    (hed : ∀ args W, (callFunc fd args).run Try.prog W = .ok (.enter fd args) W) (hel : ∀ args W, (callFunc fl args).run Try.prog W = .ok (.enter fl args) W)
    (hf : (f s).fuse = s.fuse)
    (hdo : ∀ W o, At W base F g (fused s o) → Fr F w W → Calls Try.prog fd bd W fun e W' => (∃ v, e = .returned v) ∧ Next W base F g (fused (f s) o) W')
    (hleft : ∀ p : Nat, p ≤ 9223372036854775807 → Calls Try.prog fl (#[.int .i64 p] ++ bl) w fun e W' => (∃ v, e = .returned v) ∧ Next w base F g (fl' p s) W') :
    Calls Try.prog 40 #[.pointer (some ⟨g, 0, none⟩), .func (.func fd) #[] bd, .func (.func fl) #[] bl] w fun e w' => e = .returned (.int .i64 ((after s f fl').1 : Nat)) ∧ Next w base F g (after s f fl').2 w' := by
  have h0 := h
  obtain ⟨cs, v, vf, R, fb, h⟩ := h
  have c136 := h.cell h.cells.c136
  have hfu := h.fuse
  have hok := h.ok.fuse
  rcases hs : s.fuse with _ | ⟨k, p⟩
  · have HA : Hid (after s f fl' = (0, f s)) := Lib.hid (by unfold after; rw [hs])
    have e1 : fused s none = s := by unfold fused; rw [← hs]
    have e2 : fused (f s) none = f s := by unfold fused; rw [← hs, ← hf]
    rw [hs] at hfu
    have hvf : vf = .pointer none := hfu
    subst hvf
    have HD := Lib.hid (hdo w none (by rw [e1]; exact h0) (Fr.refl _ _))
    have HE := Lib.hid e2
    clear hdo hleft e1 e2 hfu hs h h0 hf
    go_enter Try.func40, Try.ntmps40
    go_wp2_with fail
    refine Calls.mono HD.out ?_
    rintro e w2 ⟨⟨v2, rfl⟩, hN⟩
    rw [HE.out] at hN
    go_wp2
    go_ret
    rw [HA.out]
    exact ⟨rfl, hN⟩
  · rw [hs] at hfu
    obtain ⟨b, hvf, hfb, hblk⟩ := hfu
    subst hvf
    have d0 := Blk.at_ hblk 0 (v := .int .i64 (k : Int)) rfl
    have d1 := Blk.at_ hblk 1 (v := .int .i64 (p : Int)) rfl
    have fz0 := hblk.frozen 0
    obtain ⟨hk1, hp1⟩ := hok k p hs
    cases k with
    | zero =>
      have HA : Hid (after s f fl' = (3, died (fl' p s))) := Lib.hid (by unfold after; rw [hs])
      have HL := Lib.hid (hleft p hp1)
      clear hdo hleft hs hf hok fz0
      simp only [Int.cast_ofNat_Int] at d0
      have hg := h.blk.frozen 137
      clear h h0
      go_enter Try.func40, Try.ntmps40
      go_wp2_with fail
      refine Calls.mono HL.out ?_
      rintro e w2 ⟨⟨v2, rfl⟩, F', ⟨cs2, v2', vf2, R2, fb2, h2⟩, hfr, hF'⟩
      have c1 := h2.cell h2.cells.c137
      have fz := h2.blk.frozen 137
      have HN : Hid (Next w base F g (died (fl' p s)) (w2.setCell ⟨g, 137, none⟩ (.bool true))) := Lib.hid (by
        refine Next.trans (s' := fl' p s) hfr hF' ⟨F', ⟨_, _, _, _, _, h2.dead true⟩, Fr.setCell (p := ⟨g, 137, none⟩) (Fr.refl _ _) (.inl h2.fg) _, fun _ h => .inl h⟩)
      clear h2 hfr hF' d0 d1 hblk c136
      go_wp2
      go_ret
      rw [HA.out]
      exact ⟨rfl, HN.out⟩
    | succ k =>
      have HA : Hid (after s f fl' = (0, fused (f s) (some (k, p)))) := Lib.hid (by unfold after; rw [hs])
      have y1 : IntKind.i64.wrap (((k + 1 : Nat) : Int) - 1) = (k : Int) := by rw [show ((k + 1 : Nat) : Int) - 1 = k by omega]; exact IntWalk.i64_in _ (by omega)
      have y1' : IntKind.i64.wrap ((k : Int) + 1 - 1) = (k : Int) := by rw [show (k : Int) + 1 - 1 = k by omega]; exact IntWalk.i64_in _ (by omega)
      have hfr : Fr F w (w.setCell ⟨b, 0, none⟩ (.int .i64 (k : Int))) := Fr.setCell (p := ⟨b, 0, none⟩) (Fr.refl _ _) (.inl (h.ff b hfb).1) _
      have hfr2 : Fr (fun j => j = b) w (w.setCell ⟨b, 0, none⟩ (.int .i64 (k : Int))) := Fr.setCell (F := fun j => j = b) (p := ⟨b, 0, none⟩) (Fr.refl _ _) (.inl rfl) _
      have hA : At (w.setCell ⟨b, 0, none⟩ (.int .i64 (k : Int))) base F g (fused s (some (k, p))) :=
        ⟨cs, v, .pointer (some ⟨b, 0, none⟩), R, fb, ⟨h.ok.cap, h.ok.room, h.ok.safe, h.ok.sl, h.ok.lo, fun k' p' e => by cases e; exact ⟨by omega, hp1⟩⟩, h.blk.fr hfr2 (fun e => (h.ff b hfb).2.1 e.symm), ⟨h.cells.size, h.cells.c0, h.cells.c1, h.cells.seg, h.cells.safe, h.cells.sl, h.cells.lo, h.cells.wr, h.cells.c136, h.cells.c137⟩,
          fun i hi => (h.row i hi).fr hfr2 (fun j hj e => (h.ff b hfb).2.2 i hi (e ▸ hj)), ⟨b, rfl, hfb, hblk.set_ 0 _⟩, h.fg, h.fR, h.ff, h.apart, fun j hj => by simpa using h.lo j hj⟩
      have HD := Lib.hid (hdo _ (some (k, p)) hA hfr)
      have HFR := Lib.hid hfr
      have u1 : (((k + 1 : Nat) : Int) == 0) = false := by rw [beq_eq_false_iff_ne]; omega
      have u1' : ((k : Int) + 1 == 0) = false := by rw [beq_eq_false_iff_ne]; omega
      have hne : ¬ (k : Int) + 1 = 0 := by omega
      clear hdo hleft hs hf hok h h0 hA hfr hfr2
      go_enter Try.func40, Try.ntmps40
      go_wp2_with fail
      refine Calls.mono HD.out ?_
      rintro e w2 ⟨⟨v2, rfl⟩, hN⟩
      have HN : Hid (Next w base F g (fused (f s) (some (k, p))) w2) := Lib.hid (Next.trans (s' := s) HFR.out (fun _ h => .inl h) hN)
      clear hN
      go_wp2
      go_ret
      rw [HA.out]
      exact ⟨rfl, HN.out⟩
end
end Go.Proofs.Ytpohefpiidlnjaa.Dk
