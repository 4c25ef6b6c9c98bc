/-
  The walk of Save.
-/
import Derived.Test.YtpohefpiidlnjaaHeadWalks6
namespace Go.Proofs.Ytpohefpiidlnjaa.HdW
set_option linter.unusedVariables false
open Go Go.RowKit Go.Shelf Go.Proofs Go.Proofs.Ytpohefpiidlnjaa Go.Proofs.Ytpohefpiidlnjaa.Wd Go.Proofs.Ytpohefpiidlnjaa.Dk Go.Proofs.Ytpohefpiidlnjaa.Hd

/-- A head, one serial more. -/
def up1 (h : H) : H := ⟨(h.serial + 1) % 18446744073709551616, h.epoch, h.live⟩
/-- What Save answers. -/
def saveR (s : DS) (h : H) : (H × Nat) × DS :=
  if right h = false then ((none_, 50), s) else
    let r := wrD s (h.serial % 2 : Nat) (Hd.bytes h)
    if r.1 = 0 then let q := shD r.2; if q.1 = 0 then ((h, 0), q.2) else ((none_, q.1), q.2) else ((none_, r.1), r.2)
section
variable {w : World} {base : Nat} {F : Nat → Prop} {g : Nat} {s : DS}
set_option maxRecDepth 100000 in
set_option maxHeartbeats 1000000 in
theorem save_any (h : At w base F g s) (a e l : Nat) (k : Nat) (hk : k = (a + 1) % 18446744073709551616) (wa : a < 18446744073709551616) (we : e < 18446744073709551616) (wl : l < 256) :
    Calls Try.prog 15 #[.pointer (some ⟨g, 0, none⟩), .agg #[.int .u64 a, .int .u64 e, .int .u8 l]] w fun en w' => en = .returned (.tuple #[.agg (hv (saveR s ⟨k, e, l⟩).1.1), .int .i64 ((saveR s ⟨k, e, l⟩).1.2 : Nat)]) ∧ Dk.Next w base F g (saveR s ⟨k, e, l⟩).2 w' := by
  have p := (Blk.new_ w 24 #[.int .u64 (k : Nat), .int .u64 (e : Nat), .int .u8 (l : Nat)] rfl).alloc (.cells #[.int .u64 0, .int .u64 0, .int .u8 0] 24)
  have q := Blk.new_ (w.alloc (.cells #[.int .u64 (k : Nat), .int .u64 (e : Nat), .int .u8 (l : Nat)] 24)) 24 #[.int .u64 0, .int .u64 0, .int .u8 0] (n := w.heap.size + 1) (by simp)
  have hBx := ((Below.refl w.heap.size w).alloc (Nat.le_refl _) (.cells #[.int .u64 (k : Nat), .int .u64 (e : Nat), .int .u8 (l : Nat)] 24)).alloc (by simp) (.cells #[.int .u64 0, .int .u64 0, .int .u8 0] 24)
  have Y : Hid (IntKind.u64.wrap ((a : Int) + 1) = (k : Int)) := Lib.hid (by rw [IntKind.wrap_u64]; omega)
  have wk : Wf ⟨k, e, l⟩ := ⟨by show k < _; omega, we, wl⟩
  have HP := Lib.hid p
  have HQ := Lib.hid q
  have HBY := Lib.hid hBx
  clear p q hBx
  go_enter Try.func15, Try.ntmps15
  go_upto_region 2 with fail
  rw [Y.out]
  clear Y hk
  have p := HP.out
  have q := HQ.out
  have hBx := HBY.out
  clear HP HQ HBY
  generalize (w.alloc (.cells #[.int .u64 (k : Nat), .int .u64 (e : Nat), .int .u8 (l : Nat)] 24)).alloc (.cells #[.int .u64 0, .int .u64 0, .int .u8 0] 24) = w1 at *
  have hF1 : ¬ F w.heap.size := fun e => by have := (h.lt e).2; omega
  have hF2 : ¬ F (w.heap.size + 1) := fun e => by have := (h.lt e).2; omega
  have hA1 := h.below hBx
  have hf1 := Fr.of_below hBx F
  have hlt := q.lt
  have hBy := bytes_any k e l wk w1
  clear hBx h
  have f0 := Blk.at_ p 0 (v := .int .u64 (k : Nat)) rfl
  have f1 := Blk.at_ p 1 (v := .int .u64 (e : Nat)) rfl
  have f2 := Blk.at_ p 2 (v := .int .u8 (l : Nat)) rfl
  cases hr : right ⟨k, e, l⟩
  · have HX : bytesR ⟨k, e, l⟩ = ([], 50) := by unfold bytesR; rw [hr]; rfl
    have HR : Hid (saveR s ⟨k, e, l⟩ = ((none_, 50), s)) := Lib.hid (by unfold saveR; rw [if_pos hr])
    rw [HX] at hBy
    clear hr HX
    go_wp2_with fail
    refine Calls.mono hBy ?_
    rintro en w2 ⟨A, c, rfl, hl, hm, hJ, hb, hfr⟩
    have hA := hA1.below hb
    have q2 := q.below hb q.lt
    have hf := hf1.trans (Fr.of_below hb F) (fun i hi => .inl hi)
    have hs : ∀ k, F k → F k ∨ w.heap.size ≤ k := fun _ h => .inl h
    have n2 := hF2
    clear q hb hf1 hA1 hJ hfr f0 f1 f2 p
    have q := q2
    have z0 := Blk.at_ q 0 (v := .int .u64 0) rfl
    have z1 := Blk.at_ q 1 (v := .int .u64 0) rfl
    have z2 := Blk.at_ q 2 (v := .int .u8 0) rfl
    have zf := q.frozen
    go_wp2_with fail
    have q9 := ((q.set_ 0 (.int .u64 0)).set_ 1 (.int .u64 0)).set_ 2 (.int .u8 0)
    refine bodyPost_ret (results_cell_row2 rfl _ _ (w.heap.size + 1) 24 #[.int .u64 0, .int .u64 0, .int .u8 0] (0, 0) _ rfl q9.out Try.underlying24 rfl (by kernel_rfl)) rfl ?_
    rw [HR.out]
    exact ⟨rfl, next_set3 hA hf hs (Nat.le_succ _) n2 _ _ _⟩
  · obtain ⟨b, hb0⟩ : ∃ b, b = Hd.bytes ⟨k, e, l⟩ := ⟨_, rfl⟩
    have hb32 : b.length = 32 := by rw [hb0]; rfl
    have HX : bytesR ⟨k, e, l⟩ = (b, 0) := by unfold bytesR; rw [hr, hb0]; rfl
    have HR0 : Hid (saveR s ⟨k, e, l⟩ = (let r := wrD s (k % 2 : Nat) b; if r.1 = 0 then let q := shD r.2; if q.1 = 0 then ((⟨k, e, l⟩, 0), q.2) else ((none_, q.1), q.2) else ((none_, r.1), r.2))) := Lib.hid (by unfold saveR; rw [if_neg (by rw [hr]; simp), hb0])
    rw [HX] at hBy
    clear hr HX hb0
    go_wp2_with fail
    refine Calls.mono hBy ?_
    rintro en w2 ⟨A, c, rfl, hl, hm, hJ, hb, hfr⟩
    rw [hb32] at hl ⊢
    have hA2 := hA1.below hb
    have q2 := q.below hb q.lt
    have p2 := p.below hb p.lt
    have hf2 := hf1.trans (Fr.of_below hb F) (fun i hi => .inl hi)
    have hsz := hb.size
    clear f0 f1 f2 hBy hf1 p q
    have p := p2
    have f0 := Blk.at_ p 0 (v := .int .u64 (k : Nat)) rfl
    have f1 := Blk.at_ p 1 (v := .int .u64 (e : Nat)) rfl
    have f2 := Blk.at_ p 2 (v := .int .u8 (l : Nat)) rfl
    go_wp2_with fail
    refine Calls.mono (slot_any k e l wk.serial w2) ?_
    rintro en w3 ⟨rfl, hb3⟩
    have hA3 := hA2.below hb3
    have q3 := q2.below hb3 q2.lt
    have p3 := p2.below hb3 p2.lt
    have hf3 := hf2.trans (Fr.of_below hb3 F) (fun i hi => .inl hi)
    have hJ3 := hJ.grow hb3
    have hsz3 := hb3.size
    have hW := write_any hA3 (k % 2 : Nat) (A := A) (n := 32) (c := c) hb32.symm hJ3 (fun _ x o hx hF => by
      have h1 := hfr x o hx
      have h2 := (hA1.lt hF).2
      omega)
    obtain ⟨⟨r1, s1⟩, hr1⟩ : ∃ r, wrD s (k % 2 : Nat) b = r := ⟨_, rfl⟩
    rw [hr1] at hW HR0
    obtain ⟨kk, hkk⟩ : ∃ x : Nat, x = k % 2 := ⟨_, rfl⟩
    rw [← hkk] at hW ⊢
    clear f0 f1 f2 hr1 hkk q2 p2 p hA2 hA1 hf2 hJ hJ3 hfr hb hb3
    go_wp2_with fail
    refine Calls.mono hW ?_
    rintro en w4 ⟨rfl, F4, hA4, hf4, hs4⟩
    have q4 := q3.fr hf4 hF2
    have p4 := p3.fr hf4 hF1
    have hfs := hf3.trans hf4 (fun i hi => .inl hi)
    have n2 : ¬ F4 (w.heap.size + 1) := fun e => (hs4 _ e).elim hF2 (fun h => by omega)
    have n1 : ¬ F4 w.heap.size := fun e => (hs4 _ e).elim hF1 (fun h => by omega)
    have hs : ∀ k, F4 k → F k ∨ w.heap.size ≤ k := fun k hk => (hs4 k hk).imp_right (fun h => by omega)
    clear hW q3 p3 hA3 hf3 hf4 hs4
    by_cases h0 : r1 = 0
    · subst h0
      have HR1 : Hid (saveR s ⟨k, e, l⟩ = if (shD s1).1 = 0 then ((⟨k, e, l⟩, 0), (shD s1).2) else ((none_, (shD s1).1), (shD s1).2)) := Lib.hid HR0.out
      clear HR0
      have hS := syncHead_any hA4
      obtain ⟨⟨r2, s2⟩, hr2⟩ : ∃ r, shD s1 = r := ⟨_, rfl⟩
      rw [hr2] at hS HR1
      clear hr2
      have h4 := q4.lt
      go_wp2_with fail
      refine Calls.mono hS ?_
      rintro en w5 ⟨rfl, F5, hA, hf5, hs5⟩
      have q := q4.fr hf5 n2
      have p := p4.fr hf5 n1
      have hf := hfs.trans hf5 hs
      have m2 : ¬ F5 (w.heap.size + 1) := fun e => (hs5 _ e).elim n2 (fun h => by omega)
      have hs' : ∀ k, F5 k → F k ∨ w.heap.size ≤ k := fun k hk => (hs5 k hk).elim (hs k) (fun h => .inr (by omega))
      clear n2 n1 hs q4 p4 hS hfs hA4 hf5 hs5
      have n2 := m2
      have hs := hs'
      have z0 := Blk.at_ q 0 (v := .int .u64 0) rfl
      have z1 := Blk.at_ q 1 (v := .int .u64 0) rfl
      have z2 := Blk.at_ q 2 (v := .int .u8 0) rfl
      have zf := q.frozen
      have f0 := Blk.at_ p 0 (v := .int .u64 (k : Nat)) rfl
      have f1 := Blk.at_ p 1 (v := .int .u64 (e : Nat)) rfl
      have f2 := Blk.at_ p 2 (v := .int .u8 (l : Nat)) rfl
      by_cases h5 : r2 = 0
      · subst h5
        have HR : Hid (saveR s ⟨k, e, l⟩ = ((⟨k, e, l⟩, 0), s2)) := Lib.hid HR1.out
        clear HR1
        go_wp2_with fail
        have q9 := ((q.set_ 0 (.int .u64 (k : Nat))).set_ 1 (.int .u64 (e : Nat))).set_ 2 (.int .u8 (l : Nat))
        refine bodyPost_ret (results_cell_row2 rfl _ _ (w.heap.size + 1) 24 #[.int .u64 (k : Nat), .int .u64 (e : Nat), .int .u8 (l : Nat)] (0, 0) _ rfl q9.out Try.underlying24 rfl (by kernel_rfl)) rfl ?_
        rw [HR.out]
        exact ⟨rfl, next_set3 hA hf hs (Nat.le_succ _) n2 _ _ _⟩
      · have HR : Hid (saveR s ⟨k, e, l⟩ = ((none_, r2), s2)) := Lib.hid (by rw [HR1.out]; exact if_neg h5)
        have u1 : ¬ (r2 : Int) = 0 := by omega
        clear HR1 h5
        go_wp2_with fail
        have q9 := ((q.set_ 0 (.int .u64 0)).set_ 1 (.int .u64 0)).set_ 2 (.int .u8 0)
        refine bodyPost_ret (results_cell_row2 rfl _ _ (w.heap.size + 1) 24 #[.int .u64 0, .int .u64 0, .int .u8 0] (0, 0) _ rfl q9.out Try.underlying24 rfl (by kernel_rfl)) rfl ?_
        rw [HR.out]
        exact ⟨rfl, next_set3 hA hf hs (Nat.le_succ _) n2 _ _ _⟩
    · have HR : Hid (saveR s ⟨k, e, l⟩ = ((none_, r1), s1)) := Lib.hid (by rw [HR0.out]; exact if_neg h0)
      have u1 : ¬ (r1 : Int) = 0 := by omega
      clear HR0 h0
      have q := q4
      have hA := hA4
      have hf := hfs
      clear q4 hA4 hfs
      have z0 := Blk.at_ q 0 (v := .int .u64 0) rfl
      have z1 := Blk.at_ q 1 (v := .int .u64 0) rfl
      have z2 := Blk.at_ q 2 (v := .int .u8 0) rfl
      have zf := q.frozen
      go_wp2_with fail
      have q9 := ((q.set_ 0 (.int .u64 0)).set_ 1 (.int .u64 0)).set_ 2 (.int .u8 0)
      refine bodyPost_ret (results_cell_row2 rfl _ _ (w.heap.size + 1) 24 #[.int .u64 0, .int .u64 0, .int .u8 0] (0, 0) _ rfl q9.out Try.underlying24 rfl (by kernel_rfl)) rfl ?_
      rw [HR.out]
      exact ⟨rfl, next_set3 hA hf hs (Nat.le_succ _) n2 _ _ _⟩
end
set_option maxRecDepth 100000 in
set_option maxHeartbeats 1000000 in
theorem save_non {w : World} {o : Option Addr} (h : Non w o) (a e l : Nat) (k : Nat) (hk : k = (a + 1) % 18446744073709551616) (wa : a < 18446744073709551616) (we : e < 18446744073709551616) (wl : l < 256) :
    Calls Try.prog 15 #[.pointer o, .agg #[.int .u64 a, .int .u64 e, .int .u8 l]] w fun en w' => en = .returned (.tuple #[.agg (hv none_), .int .i64 (if right ⟨k, e, l⟩ = true then 1 else 50)]) ∧ Below w.heap.size w w' := by
  obtain ⟨cd, hcd⟩ : ∃ x : Int, x = if right ⟨k, e, l⟩ = true then 1 else 50 := ⟨_, rfl⟩
  rw [← hcd]
  have HCD := Lib.hid hcd
  clear hcd
  have p := (Blk.new_ w 24 #[.int .u64 (k : Nat), .int .u64 (e : Nat), .int .u8 (l : Nat)] rfl).alloc (.cells #[.int .u64 0, .int .u64 0, .int .u8 0] 24)
  have q := Blk.new_ (w.alloc (.cells #[.int .u64 (k : Nat), .int .u64 (e : Nat), .int .u8 (l : Nat)] 24)) 24 #[.int .u64 0, .int .u64 0, .int .u8 0] (n := w.heap.size + 1) (by simp)
  have hBx := ((Below.refl w.heap.size w).alloc (Nat.le_refl _) (.cells #[.int .u64 (k : Nat), .int .u64 (e : Nat), .int .u8 (l : Nat)] 24)).alloc (by simp) (.cells #[.int .u64 0, .int .u64 0, .int .u8 0] 24)
  have Y : Hid (IntKind.u64.wrap ((a : Int) + 1) = (k : Int)) := Lib.hid (by rw [IntKind.wrap_u64]; omega)
  have wk : Wf ⟨k, e, l⟩ := ⟨by show k < _; omega, we, wl⟩
  have HP := Lib.hid p
  have HQ := Lib.hid q
  have HBY := Lib.hid hBx
  clear p q hBx
  go_enter Try.func15, Try.ntmps15
  go_upto_region 2 with fail
  rw [Y.out]
  clear Y hk
  have p := HP.out
  have q := HQ.out
  have hBx := HBY.out
  clear HP HQ HBY
  generalize (w.alloc (.cells #[.int .u64 (k : Nat), .int .u64 (e : Nat), .int .u8 (l : Nat)] 24)).alloc (.cells #[.int .u64 0, .int .u64 0, .int .u8 0] 24) = w1 at *
  have h1 := h.below (hBx.mono (Nat.le_refl _))
  have hBy := bytes_any k e l wk w1
  have f0 := Blk.at_ p 0 (v := .int .u64 (k : Nat)) rfl
  have f1 := Blk.at_ p 1 (v := .int .u64 (e : Nat)) rfl
  have f2 := Blk.at_ p 2 (v := .int .u8 (l : Nat)) rfl
  cases hr : right ⟨k, e, l⟩
  · have HX : bytesR ⟨k, e, l⟩ = ([], 50) := by unfold bytesR; rw [hr]; rfl
    rw [HX] at hBy
    obtain rfl : cd = 50 := by rw [HCD.out, hr]; rfl
    clear hr HX HCD
    go_wp2_with fail
    refine Calls.mono hBy ?_
    rintro en w2 ⟨A, c, rfl, hl, hm, hJ, hb, hfr⟩
    have q2 := q.below hb q.lt
    have hB := hBx.trans (hb.mono hBx.size)
    clear q hb h1 hJ hfr f0 f1 f2 p
    have q := q2
    have z0 := Blk.at_ q 0 (v := .int .u64 0) rfl
    have z1 := Blk.at_ q 1 (v := .int .u64 0) rfl
    have z2 := Blk.at_ q 2 (v := .int .u8 0) rfl
    have zf := q.frozen
    go_wp2_with fail
    have q9 := ((q.set_ 0 (.int .u64 0)).set_ 1 (.int .u64 0)).set_ 2 (.int .u8 0)
    refine bodyPost_ret (results_cell_row2 rfl _ _ (w.heap.size + 1) 24 #[.int .u64 0, .int .u64 0, .int .u8 0] (0, 0) _ rfl q9.out Try.underlying24 rfl (by kernel_rfl)) rfl ?_
    exact ⟨rfl, ((hB.setCell (p := ⟨w.heap.size + 1, 0, none⟩) (Nat.le_succ _) (.int .u64 0)).setCell (p := ⟨w.heap.size + 1, 1, none⟩) (Nat.le_succ _) (.int .u64 0)).setCell (p := ⟨w.heap.size + 1, 2, none⟩) (Nat.le_succ _) (.int .u8 0)⟩
  · obtain ⟨b, hb0⟩ : ∃ b, b = Hd.bytes ⟨k, e, l⟩ := ⟨_, rfl⟩
    have hb32 : b.length = 32 := by rw [hb0]; rfl
    have HX : bytesR ⟨k, e, l⟩ = (b, 0) := by unfold bytesR; rw [hr, hb0]; rfl
    rw [HX] at hBy
    obtain rfl : cd = 1 := by rw [HCD.out, hr]; rfl
    clear hr HX hb0 HCD
    go_wp2_with fail
    refine Calls.mono hBy ?_
    rintro en w2 ⟨A, c, rfl, hl, hm, hJ, hb, hfr⟩
    rw [hb32] at hl ⊢
    have q2 := q.below hb q.lt
    have p2 := p.below hb p.lt
    have hB := hBx.trans (hb.mono hBx.size)
    have h2 := h1.below hb
    clear f0 f1 f2 hBy p q h1 hb hBx
    have p := p2
    have f0 := Blk.at_ p 0 (v := .int .u64 (k : Nat)) rfl
    have f1 := Blk.at_ p 1 (v := .int .u64 (e : Nat)) rfl
    have f2 := Blk.at_ p 2 (v := .int .u8 (l : Nat)) rfl
    go_wp2_with fail
    refine Calls.mono (slot_any k e l wk.serial w2) ?_
    rintro en w3 ⟨rfl, hb3⟩
    have q3 := q2.below hb3 q2.lt
    have hB3 := hB.trans (hb3.mono hB.size)
    obtain ⟨kk, hkk⟩ : ∃ x : Nat, x = k % 2 := ⟨_, rfl⟩
    rw [← hkk]
    have hW := write_non (h2.below hb3) (kk : Nat) A 32 c
    clear f0 f1 f2 hkk q2 p2 p h2 hb3 hB
    go_wp2_with fail
    refine Calls.mono hW ?_
    rintro en w4 ⟨rfl, hb4⟩
    have q := q3.below hb4 q3.lt
    have hB := hB3.trans (hb4.mono hB3.size)
    clear q3 hB3 hb4 hW
    have z0 := Blk.at_ q 0 (v := .int .u64 0) rfl
    have z1 := Blk.at_ q 1 (v := .int .u64 0) rfl
    have z2 := Blk.at_ q 2 (v := .int .u8 0) rfl
    have zf := q.frozen
    go_wp2_with fail
    have q9 := ((q.set_ 0 (.int .u64 0)).set_ 1 (.int .u64 0)).set_ 2 (.int .u8 0)
    refine bodyPost_ret (results_cell_row2 rfl _ _ (w.heap.size + 1) 24 #[.int .u64 0, .int .u64 0, .int .u8 0] (0, 0) _ rfl q9.out Try.underlying24 rfl (by kernel_rfl)) rfl ?_
    exact ⟨rfl, ((hB.setCell (p := ⟨w.heap.size + 1, 0, none⟩) (Nat.le_succ _) (.int .u64 0)).setCell (p := ⟨w.heap.size + 1, 1, none⟩) (Nat.le_succ _) (.int .u64 0)).setCell (p := ⟨w.heap.size + 1, 2, none⟩) (Nat.le_succ _) (.int .u8 0)⟩
end Go.Proofs.Ytpohefpiidlnjaa.HdW
