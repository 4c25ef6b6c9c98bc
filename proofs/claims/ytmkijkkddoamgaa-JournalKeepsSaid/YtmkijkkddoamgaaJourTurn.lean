/-
  The walk of Switch's turn.
-/
import Derived.Test.YtmkijkkddoamgaaJourPut
namespace Go.Proofs.Ytmkijkkddoamgaa.Jo
set_option linter.unusedVariables false
open Go Go.RowKit Go.Shelf Go.Proofs Go.Proofs.Ytmkijkkddoamgaa Go.Proofs.Ytmkijkkddoamgaa.Wd Go.Proofs.Ytmkijkkddoamgaa.Dk Go.Proofs.Ytmkijkkddoamgaa.Hd Go.Proofs.Ytmkijkkddoamgaa.HdW

/-- The disk and the journal's block behind a call. -/
def SavedJ (w : World) (base : Nat) (F : Nat → Prop) (g jb : Nat) (x : DS × H) (w' : World) : Prop := ∃ F', At w' base F' g x.1 ∧ Blk w' jb 48 (jcells g x.2) ∧ Fr (fun k => F k ∨ k = jb) w w' ∧ ∀ k, F' k → F k ∨ w.heap.size ≤ k
section
variable {w : World} {base : Nat} {F : Nat → Prop} {g jb : Nat} {s : DS} {y : H}
set_option maxRecDepth 100000 in
set_option maxHeartbeats 1000000 in
theorem turn_runs (h : At w base F g s) (wf : Wf y) (lv : y.live < 2) (bj : BF w F jb 48 (jcells g y)) {B2 B7 : Nat} (p2 : BF w F B2 27 #[ptr jb]) (p7 : BF w F B7 3 #[.int .i64 (y.live : Nat)]) :
    Calls Try.prog 51 #[ptr B2, ptr B7] w fun e w' => e = .returned (.int .i64 ((turnJ (s, y)).1 : Nat)) ∧ SavedJ w base F g jb (turnJ (s, y)).2 w' := by
  obtain ⟨a, e, l⟩ := y
  have wa : a < 18446744073709551616 := wf.serial
  have we : e < 18446744073709551616 := wf.epoch
  have lv' : l < 2 := lv
  obtain ⟨x, hx⟩ : ∃ x : Nat, x = 1 - l := ⟨_, rfl⟩
  have X1 : wrap64 (1 - (l : Int)) = 1 - (l : Int) := IntWalk.wrap64_in _ (by omega)
  have X2 : Hid (IntKind.u8.wrap (1 - (l : Int)) = (x : Int)) := Lib.hid (by rw [IntKind.wrap_u8]; omega)
  have wx : x < 256 := by omega
  have d2 := Blk.at_ p2.1 0 (v := .pointer (some ⟨jb, 0, none⟩)) rfl
  have d7 := Blk.at_ p7.1 0 (v := .int .i64 (l : Nat)) rfl
  have j0 := Blk.at_ bj.1 0 (v := .pointer (some ⟨g, 0, none⟩)) rfl
  have j1 := Blk.at_ bj.1 1 (v := .int .u64 (a : Nat)) rfl
  have j2 := Blk.at_ bj.1 2 (v := .int .u64 (e : Nat)) rfl
  have j3 := Blk.at_ bj.1 3 (v := .int .u8 (l : Nat)) rfl
  have HA := Lib.hid h
  have HJ := Lib.hid bj
  have H2 := Lib.hid p2
  have H7 := Lib.hid p7
  obtain ⟨⟨c, s1, ⟨r0, r1, r2⟩⟩, hr⟩ : ∃ r, saveD s ⟨a, e, x⟩ = r := ⟨_, rfl⟩
  have HT : Hid (turnJ (s, ⟨a, e, l⟩) = (c, s1, if c = 0 then ⟨r0, r1, r2⟩ else ⟨a, e, l⟩)) := Lib.hid (by unfold turnJ; dsimp only; rw [← hx, hr])
  have HR := Lib.hid hr
  have HX := Lib.hid hx
  have x1 := X2.out
  clear h bj p2 p7 hr hx wf lv X2
  show Calls Try.prog _ #[.pointer (some ⟨B2, 0, none⟩), .pointer (some ⟨B7, 0, none⟩)] _ _
  go_enter Try.func51, Try.ntmps51
  go_upto_region 2 with fail
  have hB := (Below.refl w.heap.size w).alloc (Nat.le_refl _) (.cells #[.int .u64 (a : Nat), .int .u64 (e : Nat), .int .u8 (l : Nat)] 35)
  have qz := Blk.new_ w 35 #[.int .u64 (a : Nat), .int .u64 (e : Nat), .int .u8 (l : Nat)] rfl
  have hf1 := Fr.of_below hB F
  have hA1 := HA.out.below hB
  have b2 := H2.out.next hf1 (F' := F) (fun _ h => .inl h)
  have b7 := H7.out.next hf1 (F' := F) (fun _ h => .inl h)
  have bj := HJ.out.next hf1 (F' := F) (fun _ h => .inl h)
  have hzF : Hid (∀ k, F k → k < w.heap.size) := Lib.hid fun k hk => (HA.out.lt hk).2
  have hn2 : ¬ w.heap.size = B2 := fun e => by have := H2.out.1.lt; omega
  have hn7 : ¬ w.heap.size = B7 := fun e => by have := H7.out.1.lt; omega
  have hnj : ¬ w.heap.size = jb := fun e => by have := HJ.out.1.lt; omega
  have HN := Lib.hid (And.intro hn2 (And.intro hn7 hnj))
  have hfs : Fr (fun k => k = w.heap.size) (w.alloc (.cells #[.int .u64 (a : Nat), .int .u64 (e : Nat), .int .u8 (l : Nat)] 35)) ((w.alloc (.cells #[.int .u64 (a : Nat), .int .u64 (e : Nat), .int .u8 (l : Nat)] 35)).setCell ⟨w.heap.size, 2, none⟩ (.int .u8 (x : Nat))) := Fr.setCell (F := fun k => k = w.heap.size) (p := ⟨w.heap.size, 2, none⟩) (Fr.refl _ _) (.inl rfl) _
  have HX2 : Hid (∃ w2, w2 = (w.alloc (.cells #[.int .u64 (a : Nat), .int .u64 (e : Nat), .int .u8 (l : Nat)] 35)).setCell ⟨w.heap.size, 2, none⟩ (.int .u8 (x : Nat)) ∧ At w2 base F g s ∧ BF w2 F B2 27 #[ptr jb] ∧ BF w2 F jb 48 (jcells g ⟨a, e, l⟩) ∧ Blk w2 w.heap.size 35 (hcells ⟨a, e, x⟩) ∧ Below w.heap.size w w2) :=
    Lib.hid ⟨_, rfl, hA1.fr hfs (fun k hk e => by have := hzF.out k hk; omega), ⟨b2.1.fr hfs (fun e => hn2 e.symm), b2.2⟩, ⟨bj.1.fr hfs (fun e => hnj e.symm), bj.2⟩, qz.set_ 2 (.int .u8 (x : Nat)), hB.setCell (p := ⟨w.heap.size, 2, none⟩) (Nat.le_refl _) _⟩
  have d7 := Blk.at_ b7.1 0 (v := .int .i64 (l : Nat)) rfl
  have z2 := Blk.at_ qz 2 (v := .int .u8 (l : Nat)) rfl
  have zf := qz.frozen
  clear hB hf1 hA1 b2 b7 bj hfs d2 j0 j1 j2 j3 qz hn2 hn7 hnj
  generalize (w.alloc (.cells #[.int .u64 (a : Nat), .int .u64 (e : Nat), .int .u8 (l : Nat)] 35)) = w1 at *
  go_upto_region 3 with fail
  obtain ⟨w2, hw2, hA2, b2, bj, qh, hB2⟩ := HX2.out
  rw [← hw2]
  clear HX2 hw2 d7 z2 zf x1 X1
  have nzF : ¬ F w.heap.size := fun e => absurd (hzF.out _ e) (Nat.lt_irrefl _)
  have d2 := Blk.at_ b2.1 0 (v := .pointer (some ⟨jb, 0, none⟩)) rfl
  have j0 := Blk.at_ bj.1 0 (v := .pointer (some ⟨g, 0, none⟩)) rfl
  have HA2 := Lib.hid hA2
  have HB2 := Lib.hid b2
  have HJ2 := Lib.hid bj
  have HQ2 := Lib.hid qh
  have HBB := Lib.hid hB2
  clear hA2 b2 bj qh hB2
  go_wp2_with fail
  refine Calls.mono (save_makes g w.heap.size w2) ?_
  rintro e3 w3 ⟨rfl, hB3, sz3, qc1, qc2⟩
  go_wp2_with fail
  have ns1 : ¬ F w2.heap.size := fun e => by have := (HA2.out.lt e).2; omega
  have ns2 : ¬ F (w2.heap.size + 1) := fun e => by have := (HA2.out.lt e).2; omega
  refine Calls.mono (save_runs (HA2.out.below hB3) (y := ⟨a, e, x⟩) ⟨wa, we, wx⟩ qc1 qc2 (HQ2.out.below hB3 HQ2.out.lt) ns1 ns2 nzF) ?_
  rw [HR.out]
  rintro e4 w4 ⟨rfl, F4, hA4, q4, hf4, hs4⟩
  have hB03 := HBB.out.trans (hB3.mono HBB.out.size)
  have b2' := H2.out.next (Fr.of_below hB03 F) (F' := F) (fun _ h => .inl h)
  have bj2 := HJ2.out.next (Fr.of_below hB3 F) (F' := F) (fun _ h => .inl h)
  have HS4 : Hid (∀ k, F4 k → F k ∨ w.heap.size ≤ k) := Lib.hid fun k hk => (hs4 k hk).imp_right fun h => by have := hB03.size; omega
  have b2q : Blk w4 B2 27 #[ptr jb] := b2'.1.fr hf4 fun e => e.elim b2'.2 fun h => HN.out.1 h.symm
  have bjq : Blk w4 jb 48 (jcells g ⟨a, e, l⟩) := bj2.1.fr hf4 fun e => e.elim bj2.2 fun h => HN.out.2.2 h.symm
  have HF4 : Hid (Fr F w w4) := Lib.hid ((Fr.of_below hB03 F).trans hf4 fun k hk => hk.imp_right fun h => by omega)
  have n4 : Hid (¬ F4 jb) := Lib.hid (out_of (w := w) HJ.out.1.lt HJ.out.2 HS4.out)
  have HA4 := Lib.hid hA4
  have HJ4 := Lib.hid bjq
  have d2 := Blk.at_ b2q 0 (v := .pointer (some ⟨jb, 0, none⟩)) rfl
  have z0 := Blk.at_ q4 0 (v := .int .u64 (r0 : Nat)) rfl
  have z1 := Blk.at_ q4 1 (v := .int .u64 (r1 : Nat)) rfl
  have z2 := Blk.at_ q4 2 (v := .int .u8 (r2 : Nat)) rfl
  have j1 := Blk.at_ bjq 1 (v := .int .u64 (a : Nat)) rfl
  have j2 := Blk.at_ bjq 2 (v := .int .u64 (e : Nat)) rfl
  have j3 := Blk.at_ bjq 3 (v := .int .u8 (l : Nat)) rfl
  have zf := bjq.frozen
  clear b2' bj2 b2q bjq hA4 q4 hf4 hs4 hB03 hB3 sz3 qc1 qc2 ns1 ns2 HA2 HQ2 HBB HB2 HJ2 HR j0
  by_cases hc : c = 0
  · subst hc
    have HT' : Hid (turnJ (s, ⟨a, e, l⟩) = (0, s1, ⟨r0, r1, r2⟩)) := Lib.hid (by rw [HT.out, if_pos rfl])
    clear HT
    go_wp2_with fail
    go_ret
    rw [HT'.out]
    have hfj : Fr (fun k => k = jb) w4 (((w4.setCell ⟨jb, 1, none⟩ (.int .u64 (r0 : Nat))).setCell ⟨jb, 2, none⟩ (.int .u64 (r1 : Nat))).setCell ⟨jb, 3, none⟩ (.int .u8 (r2 : Nat))) := (((Fr.refl (fun k => k = jb) w4).setCell (p := ⟨jb, 1, none⟩) (.inl rfl) _).setCell (p := ⟨jb, 2, none⟩) (.inl rfl) _).setCell (p := ⟨jb, 3, none⟩) (.inl rfl) _
    exact ⟨rfl, F4, HA4.out.fr hfj (fun k hk e => n4.out (e ▸ hk)), ((HJ4.out.set_ 1 (.int .u64 (r0 : Nat))).set_ 2 (.int .u64 (r1 : Nat))).set_ 3 (.int .u8 (r2 : Nat)),
      (HF4.out.more fun i hi => .inl (.inl hi)).trans hfj (fun k hk => .inl (.inr hk)), HS4.out⟩
  · have u1 : ¬ (c : Int) = 0 := by omega
    have HT' : Hid (turnJ (s, ⟨a, e, l⟩) = (c, s1, ⟨a, e, l⟩)) := Lib.hid (by rw [HT.out, if_neg hc])
    clear HT hc
    go_wp2_with fail
    go_ret
    rw [HT'.out]
    exact ⟨rfl, F4, HA4.out, HJ4.out, HF4.out.more fun i hi => .inl (.inl hi), HS4.out⟩
end
end Go.Proofs.Ytmkijkkddoamgaa.Jo
