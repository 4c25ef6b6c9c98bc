/-
  The walk of what save makes.
-/
import Derived.Test.YtmkijkkddoamgaaJourW1
namespace Go.Proofs.Ytmkijkkddoamgaa.Jo
set_option linter.unusedVariables false
open Go Go.RowKit Go.Shelf Go.Proofs Go.Proofs.Ytmkijkkddoamgaa Go.Proofs.Ytmkijkkddoamgaa.Wd Go.Proofs.Ytmkijkkddoamgaa.Dk Go.Proofs.Ytmkijkkddoamgaa.Hd Go.Proofs.Ytmkijkkddoamgaa.HdW

def hcells (h : H) : Array Value := #[.int .u64 h.serial, .int .u64 h.epoch, .int .u8 h.live]
section
variable {w : World} {base : Nat} {F : Nat → Prop} {g : Nat} {s : DS}
/-- The disk and the head's box behind a save. -/
def Saved (w : World) (base : Nat) (F : Nat → Prop) (g hb : Nat) (x : DS × H) (w' : World) : Prop := ∃ F', At w' base F' g x.1 ∧ Blk w' hb 35 (hcells x.2) ∧ Fr (fun k => F k ∨ k = hb) w w' ∧ ∀ k, F' k → F k ∨ w.heap.size ≤ k
theorem set3 {w : World} {b : Nat} {t : TypeId} {x0 x1 x2 y0 y1 y2 : Value} (q : Blk w b t #[x0, x1, x2]) : Blk (((w.setCell ⟨b, 0, none⟩ y0).setCell ⟨b, 1, none⟩ y1).setCell ⟨b, 2, none⟩ y2) b t #[y0, y1, y2] := ((q.set_ 0 y0).set_ 1 y1).set_ 2 y2
theorem fr3 {w w' : World} {G : Nat → Prop} (h : Fr G w w') {b : Nat} (hb : G b ∨ w.heap.size ≤ b) (y0 y1 y2 : Value) : Fr G w (((w'.setCell ⟨b, 0, none⟩ y0).setCell ⟨b, 1, none⟩ y1).setCell ⟨b, 2, none⟩ y2) := ((h.setCell (p := ⟨b, 0, none⟩) hb y0).setCell (p := ⟨b, 1, none⟩) hb y1).setCell (p := ⟨b, 2, none⟩) hb y2
set_option maxRecDepth 100000 in
set_option maxHeartbeats 1000000 in
theorem save_runs (h : At w base F g s) {B2 B3 hb : Nat} {y : H} (wf : Wf y) (q2 : Blk w B2 26 #[.pointer (some ⟨g, 0, none⟩)]) (q3 : Blk w B3 98 #[.pointer (some ⟨hb, 0, none⟩)]) (qh : Blk w hb 35 (hcells y)) (f2 : ¬ F B2) (f3 : ¬ F B3) (fh : ¬ F hb) :
    Calls Try.prog 70 #[.pointer (some ⟨B2, 0, none⟩), .pointer (some ⟨B3, 0, none⟩)] w fun e w' => e = .returned (.int .i64 ((saveD s y).1 : Nat)) ∧ Saved w base F g hb (saveD s y).2 w' := by
  obtain ⟨a, e, l⟩ := y
  obtain ⟨wa, we, wl⟩ : a < 18446744073709551616 ∧ e < 18446744073709551616 ∧ l < 256 := ⟨wf.serial, wf.epoch, wf.live⟩
  have d2 := Blk.at_ q2 0 (v := .pointer (some ⟨g, 0, none⟩)) rfl
  have d3 := Blk.at_ q3 0 (v := .pointer (some ⟨hb, 0, none⟩)) rfl
  have h0 := Blk.at_ qh 0 (v := .int .u64 (a : Nat)) rfl
  have h1 := Blk.at_ qh 1 (v := .int .u64 (e : Nat)) rfl
  have h2 := Blk.at_ qh 2 (v := .int .u8 (l : Nat)) rfl
  obtain ⟨⟨⟨⟨r0, r1, r2⟩, c⟩, s1⟩, hr⟩ : ∃ x, saveR s (up1 ⟨a, e, l⟩) = x := ⟨_, rfl⟩
  have HV : Hid (saveD s ⟨a, e, l⟩ = (c, s1, if c = 0 then ⟨r0, r1, r2⟩ else ⟨a, e, l⟩)) := Lib.hid (by unfold saveD; rw [hr])
  have HSV : Hid (∀ W F, At W base F g s → Calls Try.prog 71 #[.pointer (some ⟨g, 0, none⟩), .agg #[.int .u64 a, .int .u64 e, .int .u8 l]] W fun en w' => en = .returned (.tuple #[.agg #[.int .u64 r0, .int .u64 r1, .int .u8 r2], .int .i64 (c : Nat)]) ∧ Dk.Next W base F g s1 w') := Lib.hid fun W F hW => by
    have := save_any hW a e l ((a + 1) % 18446744073709551616) rfl wa we wl
    have hr' : saveR s ⟨(a + 1) % 18446744073709551616, e, l⟩ = ((⟨r0, r1, r2⟩, c), s1) := hr
    rw [hr'] at this
    exact this
  have HA := Lib.hid h
  have Q2 := Lib.hid q2
  have Q3 := Lib.hid q3
  have QH := Lib.hid qh
  clear h q2 q3 qh wf hr wa we wl
  go_enter Try.func70, Try.ntmps70
  go_upto_region 1 with fail
  refine wp_region_heldG [4, 8, 9] (fun st W => W.cell? ⟨B2, 0, none⟩ = some (.pointer (some ⟨g, 0, none⟩)) ∧ W.cell? ⟨B3, 0, none⟩ = some (.pointer (some ⟨hb, 0, none⟩)) ∧ W.cell? ⟨hb, 0, none⟩ = some (.int .u64 (a : Nat)) ∧ W.cell? ⟨hb, 1, none⟩ = some (.int .u64 (e : Nat)) ∧ W.cell? ⟨hb, 2, none⟩ = some (.int .u8 (l : Nat))) (by kernel_rfl) ?_
  change wpAnyG _ _ _ _ _ _ 11 _ _ (World.drew _)
  have hS : w.drew.cell? ⟨B2, 0, none⟩ = some (.pointer (some ⟨g, 0, none⟩)) ∧ w.drew.cell? ⟨B3, 0, none⟩ = some (.pointer (some ⟨hb, 0, none⟩)) ∧ w.drew.cell? ⟨hb, 0, none⟩ = some (.int .u64 (a : Nat)) ∧ w.drew.cell? ⟨hb, 1, none⟩ = some (.int .u64 (e : Nat)) ∧ w.drew.cell? ⟨hb, 2, none⟩ = some (.int .u8 (l : Nat)) := ⟨d2, d3, h0, h1, h2⟩
  refine g_take (i := 0) rfl rfl (by kernel_rfl) (by kernel_rfl) (by kernel_rfl) (by kernel_rfl) (by kernel_rfl) (fun _ _ _ h => h) hS (fun L W hL hW => by obtain ⟨e2, e3, e4, e5, e6⟩ := hW; go_simp; rfl) ?_
  refine g_take (i := 1) rfl rfl (by kernel_rfl) (by kernel_rfl) (by kernel_rfl) (by kernel_rfl) (by kernel_rfl) (fun _ _ _ h => h) hS (fun L W hL hW => by obtain ⟨e2, e3, e4, e5, e6⟩ := hW; go_simp; rfl) ?_
  refine g_take (i := 2) rfl rfl (by kernel_rfl) (by kernel_rfl) (by kernel_rfl) (by kernel_rfl) (by kernel_rfl) (fun _ _ _ h => h) hS (fun L W hL hW => by obtain ⟨e2, e3, e4, e5, e6⟩ := hW; go_simp; rfl) ?_
  refine g_take (i := 3) rfl rfl (by kernel_rfl) (by kernel_rfl) (by kernel_rfl) (by kernel_rfl) (by kernel_rfl) (fun _ _ _ h => h) hS (fun L W hL hW => by obtain ⟨e2, e3, e4, e5, e6⟩ := hW; go_simp; rfl) ?_
  have HR0 := Lib.hid True.intro
  clear d2 d3 h0 h1 h2
  refine g_two (i := 4) (j := 8) (by kernel_rfl) rfl rfl rfl rfl (fun K hK => ?_) (fun K hK => ?_)
  · go_simp
    refine Calls.mono (HSV.out _ _ HA.out.drew) ?_
    rintro en w1 ⟨rfl, F1, hA1, hf1, hs1⟩
    have q2 := Blk.fr (w := w.drew) Q2.out hf1 f2
    have q3 := Blk.fr (w := w.drew) Q3.out hf1 f3
    have qh := Blk.fr (w := w.drew) QH.out hf1 fh
    have hS1 : w1.cell? ⟨B2, 0, none⟩ = some (.pointer (some ⟨g, 0, none⟩)) ∧ w1.cell? ⟨B3, 0, none⟩ = some (.pointer (some ⟨hb, 0, none⟩)) ∧ w1.cell? ⟨hb, 0, none⟩ = some (.int .u64 (a : Nat)) ∧ w1.cell? ⟨hb, 1, none⟩ = some (.int .u64 (e : Nat)) ∧ w1.cell? ⟨hb, 2, none⟩ = some (.int .u8 (l : Nat)) := ⟨Blk.at_ q2 0 rfl, Blk.at_ q3 0 rfl, Blk.at_ qh 0 rfl, Blk.at_ qh 1 rfl, Blk.at_ qh 2 rfl⟩
    go_simp
    refine hK _ _ hS1 ?_
    clear hK K
    refine g_take (i := 5) rfl rfl (by kernel_rfl) (by kernel_rfl) (by kernel_rfl) (by kernel_rfl) (by kernel_rfl) (fun _ _ _ h => h) hS1 (fun L W hL hW => by go_simp; rfl) ?_
    refine g_take (i := 6) rfl rfl (by kernel_rfl) (by kernel_rfl) (by kernel_rfl) (by kernel_rfl) (by kernel_rfl) (fun _ _ _ h => h) hS1 (fun L W hL hW => by go_simp; rfl) ?_
    refine g_take (i := 7) rfl rfl (by kernel_rfl) (by kernel_rfl) (by kernel_rfl) (by kernel_rfl) (by kernel_rfl) (fun _ _ _ h => h) hS1 (fun L W hL hW => by go_simp; rfl) ?_
    have hB0 := (Below.refl w1.heap.size w1).alloc (Nat.le_refl _) (.cells #[.int .u64 0, .int .u64 0, .int .u8 0] 35)
    have hS2 : (w1.alloc (.cells #[.int .u64 0, .int .u64 0, .int .u8 0] 35)).cell? ⟨B2, 0, none⟩ = some (.pointer (some ⟨g, 0, none⟩)) ∧ (w1.alloc (.cells #[.int .u64 0, .int .u64 0, .int .u8 0] 35)).cell? ⟨B3, 0, none⟩ = some (.pointer (some ⟨hb, 0, none⟩)) ∧ (w1.alloc (.cells #[.int .u64 0, .int .u64 0, .int .u8 0] 35)).cell? ⟨hb, 0, none⟩ = some (.int .u64 (a : Nat)) ∧ (w1.alloc (.cells #[.int .u64 0, .int .u64 0, .int .u8 0] 35)).cell? ⟨hb, 1, none⟩ = some (.int .u64 (e : Nat)) ∧ (w1.alloc (.cells #[.int .u64 0, .int .u64 0, .int .u8 0] 35)).cell? ⟨hb, 2, none⟩ = some (.int .u8 (l : Nat)) := ⟨Blk.at_ (q2.below hB0 q2.lt) 0 rfl, Blk.at_ (q3.below hB0 q3.lt) 0 rfl, Blk.at_ (qh.below hB0 qh.lt) 0 rfl, Blk.at_ (qh.below hB0 qh.lt) 1 rfl, Blk.at_ (qh.below hB0 qh.lt) 2 rfl⟩
    refine g_one (i := 8) rfl rfl (by kernel_rfl) fun K hK => ?_
    go_simp
    refine hK _ _ hS2 ?_
    clear hK K
    have ZQ := Blk.new_ w1 35 #[.int .u64 (r0 : Nat), .int .u64 (r1 : Nat), .int .u8 (r2 : Nat)] rfl
    have hB := (Below.refl w1.heap.size w1).alloc (Nat.le_refl _) (.cells #[.int .u64 (r0 : Nat), .int .u64 (r1 : Nat), .int .u8 (r2 : Nat)] 35)
    have ZQ2 := q2.below hB q2.lt
    have ZQ3 := q3.below hB q3.lt
    have ZQH := qh.below hB qh.lt
    have ZA := hA1.below hB
    have hsz := hf1.size
    have ZF : Fr F w _ := (((Fr.refl F w).drew.trans hf1 (fun i hi => .inl hi)).trans (Fr.of_below hB F) (fun i hi => .inl hi))
    have ZS : ∀ k, F1 k → F k ∨ w.heap.size ≤ k := hs1
    have ZH : ¬ F1 hb := out_of (w := w) QH.out.lt fh hs1
    have hS3 : (w1.alloc (.cells #[.int .u64 (r0 : Nat), .int .u64 (r1 : Nat), .int .u8 (r2 : Nat)] 35)).cell? ⟨B2, 0, none⟩ = some (.pointer (some ⟨g, 0, none⟩)) ∧ (w1.alloc (.cells #[.int .u64 (r0 : Nat), .int .u64 (r1 : Nat), .int .u8 (r2 : Nat)] 35)).cell? ⟨B3, 0, none⟩ = some (.pointer (some ⟨hb, 0, none⟩)) ∧ (w1.alloc (.cells #[.int .u64 (r0 : Nat), .int .u64 (r1 : Nat), .int .u8 (r2 : Nat)] 35)).cell? ⟨hb, 0, none⟩ = some (.int .u64 (a : Nat)) ∧ (w1.alloc (.cells #[.int .u64 (r0 : Nat), .int .u64 (r1 : Nat), .int .u8 (r2 : Nat)] 35)).cell? ⟨hb, 1, none⟩ = some (.int .u64 (e : Nat)) ∧ (w1.alloc (.cells #[.int .u64 (r0 : Nat), .int .u64 (r1 : Nat), .int .u8 (r2 : Nat)] 35)).cell? ⟨hb, 2, none⟩ = some (.int .u8 (l : Nat)) := ⟨Blk.at_ ZQ2 0 rfl, Blk.at_ ZQ3 0 rfl, Blk.at_ ZQH 0 rfl, Blk.at_ ZQH 1 rfl, Blk.at_ ZQH 2 rfl⟩
    refine g_one (i := 9) rfl rfl (by kernel_rfl) fun K hK => ?_
    go_simp
    refine hK _ _ hS3 ?_
    clear hK K
    refine g_take (i := 10) rfl rfl (by kernel_rfl) (by kernel_rfl) (by kernel_rfl) (by kernel_rfl) (by kernel_rfl) (fun _ _ _ h => h) hS3 (fun L W hL hW => by go_simp; rfl) ?_
    refine wpAnyG_done (by kernel_rfl) ?_ _
    clear hS2 hS3 hB0 hB q2 q3 qh hA1 hf1 hs1 hsz Q2 Q3 QH HA
    -- behind the region: zb holds what was saved
    clear HSV hS1 hS
    generalize w1.alloc (.cells #[.int .u64 (r0 : Nat), .int .u64 (r1 : Nat), .int .u8 (r2 : Nat)] 35) = w5 at *
    generalize hzb : w1.heap.size = zb at *
    have HZB := Lib.hid hzb
    clear hzb
    have z0 := Blk.at_ ZQ 0 (v := .int .u64 (r0 : Nat)) rfl
    have z1 := Blk.at_ ZQ 1 (v := .int .u64 (r1 : Nat)) rfl
    have z2 := Blk.at_ ZQ 2 (v := .int .u8 (r2 : Nat)) rfl
    have d2 := Blk.at_ ZQ2 0 (v := .pointer (some ⟨g, 0, none⟩)) rfl
    have d3 := Blk.at_ ZQ3 0 (v := .pointer (some ⟨hb, 0, none⟩)) rfl
    have h0 := Blk.at_ ZQH 0 (v := .int .u64 (a : Nat)) rfl
    have h1 := Blk.at_ ZQH 1 (v := .int .u64 (e : Nat)) rfl
    have h2 := Blk.at_ ZQH 2 (v := .int .u8 (l : Nat)) rfl
    have zf := ZQH.frozen
    have HA5 := Lib.hid ZA
    have HF5 := Lib.hid ZF
    have HS5 := Lib.hid ZS
    have HH5 := Lib.hid ZH
    have HQ5 := Lib.hid ZQH
    clear ZQ ZQ2 ZQ3 ZQH ZA ZF ZS ZH
    by_cases hc : c = 0
    · subst hc
      have HR : Hid (saveD s ⟨a, e, l⟩ = (0, s1, ⟨r0, r1, r2⟩)) := Lib.hid (by rw [HV.out, if_pos rfl])
      clear HV HR0
      go_wp2_with fail
      go_ret
      rw [HR.out]
      exact ⟨rfl, F1, HA5.out.fr (fr3 (Fr.refl (fun k => k = hb) _) (.inl rfl) _ _ _) (fun k hk e => HH5.out (e ▸ hk)), set3 HQ5.out, fr3 (HF5.out.more fun i hi => .inl (.inl hi)) (.inl (.inr rfl)) _ _ _, HS5.out⟩
    · have HR : Hid (saveD s ⟨a, e, l⟩ = (c, s1, ⟨a, e, l⟩)) := Lib.hid (by rw [HV.out, if_neg hc])
      have u1 : ¬ (c : Int) = 0 := by omega
      clear HV HR0 hc
      go_wp2_with fail
      go_ret
      rw [HR.out]
      exact ⟨rfl, F1, HA5.out, HQ5.out, HF5.out.more fun i hi => .inl (.inl hi), HS5.out⟩
  · have hB := (Below.refl w.heap.size w).alloc (Nat.le_refl _) (.cells #[.int .u64 0, .int .u64 0, .int .u8 0] 35)
    have ZQ0 := Blk.new_ w 35 #[.int .u64 0, .int .u64 0, .int .u8 0] rfl
    have q2 := Q2.out.below hB Q2.out.lt
    have q3 := Q3.out.below hB Q3.out.lt
    have qh := QH.out.below hB QH.out.lt
    have hA0 := HA.out.below hB
    have hS2 : (w.alloc (.cells #[.int .u64 0, .int .u64 0, .int .u8 0] 35)).cell? ⟨B2, 0, none⟩ = some (.pointer (some ⟨g, 0, none⟩)) ∧ (w.alloc (.cells #[.int .u64 0, .int .u64 0, .int .u8 0] 35)).cell? ⟨B3, 0, none⟩ = some (.pointer (some ⟨hb, 0, none⟩)) ∧ (w.alloc (.cells #[.int .u64 0, .int .u64 0, .int .u8 0] 35)).cell? ⟨hb, 0, none⟩ = some (.int .u64 (a : Nat)) ∧ (w.alloc (.cells #[.int .u64 0, .int .u64 0, .int .u8 0] 35)).cell? ⟨hb, 1, none⟩ = some (.int .u64 (e : Nat)) ∧ (w.alloc (.cells #[.int .u64 0, .int .u64 0, .int .u8 0] 35)).cell? ⟨hb, 2, none⟩ = some (.int .u8 (l : Nat)) := ⟨Blk.at_ q2 0 rfl, Blk.at_ q3 0 rfl, Blk.at_ qh 0 rfl, Blk.at_ qh 1 rfl, Blk.at_ qh 2 rfl⟩
    go_simp
    refine hK _ _ hS2 ?_
    clear hK K hS
    generalize (w.alloc (.cells #[.int .u64 0, .int .u64 0, .int .u8 0] 35)) = w0 at *
    have hlz := ZQ0.lt
    refine g_one (i := 4) rfl rfl (by kernel_rfl) fun K hK => ?_
    go_simp
    refine Calls.mono (HSV.out _ _ hA0.drew) ?_
    rintro en w1 ⟨rfl, F1, hA1, hf1, hs1⟩
    have nz : ¬ F w.heap.size := fun e => by have := (HA.out.lt e).2; omega
    have n1 : ¬ F1 w.heap.size := fun e => (hs1 _ e).elim nz (fun h => by have : w0.heap.size ≤ w.heap.size := h; omega)
    have ZQ1 := Blk.fr (w := w0.drew) ZQ0 hf1 nz
    have q2' := Blk.fr (w := w0.drew) q2 hf1 f2
    have q3' := Blk.fr (w := w0.drew) q3 hf1 f3
    have qh' := Blk.fr (w := w0.drew) qh hf1 fh
    have hS1 : w1.cell? ⟨B2, 0, none⟩ = some (.pointer (some ⟨g, 0, none⟩)) ∧ w1.cell? ⟨B3, 0, none⟩ = some (.pointer (some ⟨hb, 0, none⟩)) ∧ w1.cell? ⟨hb, 0, none⟩ = some (.int .u64 (a : Nat)) ∧ w1.cell? ⟨hb, 1, none⟩ = some (.int .u64 (e : Nat)) ∧ w1.cell? ⟨hb, 2, none⟩ = some (.int .u8 (l : Nat)) := ⟨Blk.at_ q2' 0 rfl, Blk.at_ q3' 0 rfl, Blk.at_ qh' 0 rfl, Blk.at_ qh' 1 rfl, Blk.at_ qh' 2 rfl⟩
    go_simp
    refine hK _ _ hS1 ?_
    clear hK K
    refine g_take (i := 5) rfl rfl (by kernel_rfl) (by kernel_rfl) (by kernel_rfl) (by kernel_rfl) (by kernel_rfl) (fun _ _ _ h => h) hS1 (fun L W hL hW => by go_simp; rfl) ?_
    refine g_take (i := 6) rfl rfl (by kernel_rfl) (by kernel_rfl) (by kernel_rfl) (by kernel_rfl) (by kernel_rfl) (fun _ _ _ h => h) hS1 (fun L W hL hW => by go_simp; rfl) ?_
    refine g_take (i := 7) rfl rfl (by kernel_rfl) (by kernel_rfl) (by kernel_rfl) (by kernel_rfl) (by kernel_rfl) (fun _ _ _ h => h) hS1 (fun L W hL hW => by go_simp; rfl) ?_
    have hfz := fr3 (Fr.refl (fun k => k = w.heap.size) w1) (.inl rfl) (.int .u64 (r0 : Nat)) (.int .u64 (r1 : Nat)) (.int .u8 (r2 : Nat))
    have ZQ2 := q2'.fr hfz (Nat.ne_of_lt Q2.out.lt)
    have ZQ3 := q3'.fr hfz (Nat.ne_of_lt Q3.out.lt)
    have ZQH := qh'.fr hfz (Nat.ne_of_lt QH.out.lt)
    have ZA := hA1.fr hfz (fun k hk e => n1 (e ▸ hk))
    have ZF : Fr F w _ := fr3 (((Fr.of_below hB F).drew).trans hf1 (fun i hi => .inl hi)) (b := w.heap.size) (.inr (Nat.le_refl _)) (.int .u64 (r0 : Nat)) (.int .u64 (r1 : Nat)) (.int .u8 (r2 : Nat))
    have ZS : ∀ k, F1 k → F k ∨ w.heap.size ≤ k := fun k hk => (hs1 k hk).imp_right fun h => by have h' : w0.heap.size ≤ k := h; omega
    have ZH : ¬ F1 hb := out_of (w := w) QH.out.lt fh ZS
    have hS3 : (((w1.setCell ⟨w.heap.size, 0, none⟩ (.int .u64 (r0 : Nat))).setCell ⟨w.heap.size, 1, none⟩ (.int .u64 (r1 : Nat))).setCell ⟨w.heap.size, 2, none⟩ (.int .u8 (r2 : Nat))).cell? ⟨B2, 0, none⟩ = some (.pointer (some ⟨g, 0, none⟩)) ∧ (((w1.setCell ⟨w.heap.size, 0, none⟩ (.int .u64 (r0 : Nat))).setCell ⟨w.heap.size, 1, none⟩ (.int .u64 (r1 : Nat))).setCell ⟨w.heap.size, 2, none⟩ (.int .u8 (r2 : Nat))).cell? ⟨B3, 0, none⟩ = some (.pointer (some ⟨hb, 0, none⟩)) ∧ (((w1.setCell ⟨w.heap.size, 0, none⟩ (.int .u64 (r0 : Nat))).setCell ⟨w.heap.size, 1, none⟩ (.int .u64 (r1 : Nat))).setCell ⟨w.heap.size, 2, none⟩ (.int .u8 (r2 : Nat))).cell? ⟨hb, 0, none⟩ = some (.int .u64 (a : Nat)) ∧ (((w1.setCell ⟨w.heap.size, 0, none⟩ (.int .u64 (r0 : Nat))).setCell ⟨w.heap.size, 1, none⟩ (.int .u64 (r1 : Nat))).setCell ⟨w.heap.size, 2, none⟩ (.int .u8 (r2 : Nat))).cell? ⟨hb, 1, none⟩ = some (.int .u64 (e : Nat)) ∧ (((w1.setCell ⟨w.heap.size, 0, none⟩ (.int .u64 (r0 : Nat))).setCell ⟨w.heap.size, 1, none⟩ (.int .u64 (r1 : Nat))).setCell ⟨w.heap.size, 2, none⟩ (.int .u8 (r2 : Nat))).cell? ⟨hb, 2, none⟩ = some (.int .u8 (l : Nat)) := ⟨Blk.at_ ZQ2 0 rfl, Blk.at_ ZQ3 0 rfl, Blk.at_ ZQH 0 rfl, Blk.at_ ZQH 1 rfl, Blk.at_ ZQH 2 rfl⟩
    refine g_one (i := 9) rfl rfl (by kernel_rfl) fun K hK => ?_
    have zz0 := Blk.at_ ZQ1 0 rfl
    have zz1 := Blk.at_ ZQ1 1 rfl
    have zz2 := Blk.at_ ZQ1 2 rfl
    have zzf := ZQ1.frozen
    go_simp
    refine hK _ _ hS3 ?_
    clear hK K
    refine g_take (i := 10) rfl rfl (by kernel_rfl) (by kernel_rfl) (by kernel_rfl) (by kernel_rfl) (by kernel_rfl) (fun _ _ _ h => h) hS3 (fun L W hL hW => by go_simp; rfl) ?_
    refine wpAnyG_done (by kernel_rfl) ?_ _
    have ZQ := set3 (y0 := .int .u64 (r0 : Nat)) (y1 := .int .u64 (r1 : Nat)) (y2 := .int .u8 (r2 : Nat)) ZQ1
    clear hS2 hS3 zz0 zz1 zz2 zzf hfz hB q2' q3' qh' q2 q3 qh hA0 hA1 hf1 hs1 nz n1 Q2 Q3 QH HA ZQ0 ZQ1 hlz
    -- behind the region: zb holds what was saved
    clear HSV hS1
    generalize (((w1.setCell ⟨w.heap.size, 0, none⟩ (.int .u64 (r0 : Nat))).setCell ⟨w.heap.size, 1, none⟩ (.int .u64 (r1 : Nat))).setCell ⟨w.heap.size, 2, none⟩ (.int .u8 (r2 : Nat))) = w5 at *
    generalize hzb : w.heap.size = zb at *
    have HZB := Lib.hid hzb
    clear hzb
    have z0 := Blk.at_ ZQ 0 (v := .int .u64 (r0 : Nat)) rfl
    have z1 := Blk.at_ ZQ 1 (v := .int .u64 (r1 : Nat)) rfl
    have z2 := Blk.at_ ZQ 2 (v := .int .u8 (r2 : Nat)) rfl
    have d2 := Blk.at_ ZQ2 0 (v := .pointer (some ⟨g, 0, none⟩)) rfl
    have d3 := Blk.at_ ZQ3 0 (v := .pointer (some ⟨hb, 0, none⟩)) rfl
    have h0 := Blk.at_ ZQH 0 (v := .int .u64 (a : Nat)) rfl
    have h1 := Blk.at_ ZQH 1 (v := .int .u64 (e : Nat)) rfl
    have h2 := Blk.at_ ZQH 2 (v := .int .u8 (l : Nat)) rfl
    have zf := ZQH.frozen
    have HA5 := Lib.hid ZA
    have HF5 := Lib.hid ZF
    have HS5 := Lib.hid ZS
    have HH5 := Lib.hid ZH
    have HQ5 := Lib.hid ZQH
    clear ZQ ZQ2 ZQ3 ZQH ZA ZF ZS ZH
    by_cases hc : c = 0
    · subst hc
      have HR : Hid (saveD s ⟨a, e, l⟩ = (0, s1, ⟨r0, r1, r2⟩)) := Lib.hid (by rw [HV.out, if_pos rfl])
      clear HV HR0
      go_wp2_with fail
      go_ret
      rw [HR.out]
      exact ⟨rfl, F1, HA5.out.fr (fr3 (Fr.refl (fun k => k = hb) _) (.inl rfl) _ _ _) (fun k hk e => HH5.out (e ▸ hk)), set3 HQ5.out, fr3 (HF5.out.more fun i hi => .inl (.inl hi)) (.inl (.inr rfl)) _ _ _, fun k hk => by rw [HZB.out]; exact HS5.out k hk⟩
    · have HR : Hid (saveD s ⟨a, e, l⟩ = (c, s1, ⟨a, e, l⟩)) := Lib.hid (by rw [HV.out, if_neg hc])
      have u1 : ¬ (c : Int) = 0 := by omega
      clear HV HR0 hc
      go_wp2_with fail
      go_ret
      rw [HR.out]
      exact ⟨rfl, F1, HA5.out, HQ5.out, HF5.out.more fun i hi => .inl (.inl hi), fun k hk => by rw [HZB.out]; exact HS5.out k hk⟩
end
end Go.Proofs.Ytmkijkkddoamgaa.Jo
