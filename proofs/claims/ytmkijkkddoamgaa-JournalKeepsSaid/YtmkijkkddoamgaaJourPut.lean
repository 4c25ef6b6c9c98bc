/-
  The walks of put, and of what it makes.
-/
import Derived.Test.YtmkijkkddoamgaaJourOpen
namespace Go.Proofs.Ytmkijkkddoamgaa.Jo
set_option linter.unusedVariables false
open Go Go.RowKit Go.Shelf Go.Proofs Go.Proofs.Ytmkijkkddoamgaa Go.Proofs.Ytmkijkkddoamgaa.Wd Go.Proofs.Ytmkijkkddoamgaa.Dk Go.Proofs.Ytmkijkkddoamgaa.Hd Go.Proofs.Ytmkijkkddoamgaa.HdW

theorem put_makes (jb : Nat) (i : Int) (A : Option Addr) (n c : Nat) (w : World) : Calls Try.prog 35 #[.pointer (some ⟨jb, 0, none⟩), .int .i64 i, .slice A n c] w fun e w' =>
    e = .returned (.func (.func 55) #[] #[.pointer (some ⟨w.heap.size, 0, none⟩), .pointer (some ⟨w.heap.size + 1, 0, none⟩), .pointer (some ⟨w.heap.size + 1 + 1, 0, none⟩)]) ∧ Below w.heap.size w w' ∧ w'.heap.size = w.heap.size + 1 + 1 + 1 ∧
      Blk w' w.heap.size 27 #[.pointer (some ⟨jb, 0, none⟩)] ∧ Blk w' (w.heap.size + 1) 3 #[.int .i64 i] ∧ Blk w' (w.heap.size + 1 + 1) 23 #[.slice A n c] := by
  have z0 := ((Blk.new_ w 27 #[.pointer (some ⟨jb, 0, none⟩)] rfl).alloc (.cells #[.int .i64 i] 3)).alloc (.cells #[.slice A n c] 23)
  have z1 := (Blk.new_ (w.alloc (.cells #[.pointer (some ⟨jb, 0, none⟩)] 27)) 3 #[.int .i64 i] (n := w.heap.size + 1) (by simp)).alloc (.cells #[.slice A n c] 23)
  have z2 := Blk.new_ ((w.alloc (.cells #[.pointer (some ⟨jb, 0, none⟩)] 27)).alloc (.cells #[.int .i64 i] 3)) 23 #[.slice A n c] (n := w.heap.size + 1 + 1) (by simp)
  have hB : Below w.heap.size w (((w.alloc (.cells #[.pointer (some ⟨jb, 0, none⟩)] 27)).alloc (.cells #[.int .i64 i] 3)).alloc (.cells #[.slice A n c] 23)) := (((Below.refl _ w).alloc (Nat.le_refl _) _).alloc (by simp) _).alloc (by simp; omega) _
  have HZ := Lib.hid (And.intro hB (And.intro (show (((w.alloc (.cells #[.pointer (some ⟨jb, 0, none⟩)] 27)).alloc (.cells #[.int .i64 i] 3)).alloc (.cells #[.slice A n c] 23)).heap.size = w.heap.size + 1 + 1 + 1 by simp) (And.intro z0 (And.intro z1 z2))))
  clear z0 z1 z2 hB
  go_enter Try.func35, Try.ntmps35
  go_wp2_with fail
  go_ret
  exact ⟨rfl, HZ.out⟩
section
variable {w W W' : World} {base : Nat} {F F' : Nat → Prop} {g jb : Nat} {s s' : DS} {y : H}
theorem BF.next {b : Nat} {t : TypeId} {cs : Array Value} (q : BF w F b t cs) (hf : Fr F w W) (hs : ∀ k, F' k → F k ∨ w.heap.size ≤ k) : BF W F' b t cs := ⟨q.1.fr hf q.2, out_of q.1.lt q.2 hs⟩
set_option maxRecDepth 100000 in
theorem put11_any (h : At w base F g s) (bj : BF w F jb 48 (jcells g y)) {B3 B4 B5 : Nat} {i : Int} {A : Option Addr} {n c : Nat} {b : List UInt8} (hn : n = b.length) (hnc : n ≤ c) (hcm : c ≤ maxLen) (hI : Bytes w w.heap.size A b) (hAF : b ≠ [] → ∀ x o, A = some ⟨x, o, none⟩ → ¬ F x)
    (p3 : BF w F B3 27 #[ptr jb]) (p4 : BF w F B4 3 #[.int .i64 i]) (p5 : BF w F B5 23 #[.slice A n c]) :
    Calls Try.prog 56 #[ptr B3, ptr B4, ptr B5] w fun e w' => e = .returned (.int .i64 ((appD s i b).1 : Nat)) ∧ Dk.Next w base F g (appD s i b).2 w' := by
  have q3 := p3.1
  have q4 := p4.1
  have q5 := p5.1
  have qj := bj.1
  have d3 := Blk.at_ q3 0 (v := .pointer (some ⟨jb, 0, none⟩)) rfl
  have d4 := Blk.at_ q4 0 (v := .int .i64 i) rfl
  have d5 := Blk.at_ q5 0 (v := .slice A n c) rfl
  have dj := Blk.at_ qj 0 (v := .pointer (some ⟨g, 0, none⟩)) rfl
  have HAP := Lib.hid (append_any h.drew i hn hnc hcm (hI.below (Below.refl _ w).drew) hAF)
  obtain ⟨⟨d, s1⟩, hd⟩ : ∃ x, appD s i b = x := ⟨_, rfl⟩
  rw [hd] at HAP ⊢
  clear q3 q4 q5 qj hd h hn hI hAF hnc hcm
  show Calls Try.prog _ #[.pointer (some ⟨B3, 0, none⟩), .pointer (some ⟨B4, 0, none⟩), .pointer (some ⟨B5, 0, none⟩)] _ _
  go_enter Try.func56, Try.ntmps56
  go_upto_region 1 with fail
  refine wp_region_heldG [6] (fun st W => W.cell? ⟨B3, 0, none⟩ = some (.pointer (some ⟨jb, 0, none⟩)) ∧ W.cell? ⟨B4, 0, none⟩ = some (.int .i64 i) ∧ W.cell? ⟨B5, 0, none⟩ = some (.slice A n c) ∧ W.cell? ⟨jb, 0, none⟩ = some (.pointer (some ⟨g, 0, none⟩))) (by kernel_rfl) ?_
  change wpAnyG _ _ _ _ _ _ 8 _ _ (World.drew _)
  have hS : w.drew.cell? ⟨B3, 0, none⟩ = some (.pointer (some ⟨jb, 0, none⟩)) ∧ w.drew.cell? ⟨B4, 0, none⟩ = some (.int .i64 i) ∧ w.drew.cell? ⟨B5, 0, none⟩ = some (.slice A n c) ∧ w.drew.cell? ⟨jb, 0, none⟩ = some (.pointer (some ⟨g, 0, none⟩)) := ⟨d3, d4, d5, dj⟩
  refine g_take (i := 0) rfl rfl (by kernel_rfl) (by kernel_rfl) (by kernel_rfl) (by kernel_rfl) (by kernel_rfl) (fun _ _ _ h => h) hS (fun L W hL hW => by obtain ⟨e3, e4, e5, e6⟩ := hW; go_simp; rfl) ?_
  refine g_take (i := 1) rfl rfl (by kernel_rfl) (by kernel_rfl) (by kernel_rfl) (by kernel_rfl) (by kernel_rfl) (fun _ _ _ h => h) hS (fun L W hL hW => by obtain ⟨e3, e4, e5, e6⟩ := hW; go_simp; rfl) ?_
  refine g_take (i := 2) rfl rfl (by kernel_rfl) (by kernel_rfl) (by kernel_rfl) (by kernel_rfl) (by kernel_rfl) (fun _ _ _ h => h) hS (fun L W hL hW => by obtain ⟨e3, e4, e5, e6⟩ := hW; go_simp; rfl) ?_
  refine g_take (i := 3) rfl rfl (by kernel_rfl) (by kernel_rfl) (by kernel_rfl) (by kernel_rfl) (by kernel_rfl) (fun _ _ _ h => h) hS (fun L W hL hW => by obtain ⟨e3, e4, e5, e6⟩ := hW; go_simp; rfl) ?_
  refine g_take (i := 4) rfl rfl (by kernel_rfl) (by kernel_rfl) (by kernel_rfl) (by kernel_rfl) (by kernel_rfl) (fun _ _ _ h => h) hS (fun L W hL hW => by obtain ⟨e3, e4, e5, e6⟩ := hW; go_simp; rfl) ?_
  refine g_take (i := 5) rfl rfl (by kernel_rfl) (by kernel_rfl) (by kernel_rfl) (by kernel_rfl) (by kernel_rfl) (fun _ _ _ h => h) hS (fun L W hL hW => by obtain ⟨e3, e4, e5, e6⟩ := hW; go_simp; rfl) ?_
  refine g_one (i := 6) rfl rfl (by kernel_rfl) fun K hK => ?_
  go_simp
  refine Calls.mono HAP.out ?_
  rintro e w1 ⟨rfl, hN⟩
  have hS1 : w1.cell? ⟨B3, 0, none⟩ = some (.pointer (some ⟨jb, 0, none⟩)) ∧ w1.cell? ⟨B4, 0, none⟩ = some (.int .i64 i) ∧ w1.cell? ⟨B5, 0, none⟩ = some (.slice A n c) ∧ w1.cell? ⟨jb, 0, none⟩ = some (.pointer (some ⟨g, 0, none⟩)) := by
    obtain ⟨F2, -, h2, -⟩ := hN
    exact ⟨Blk.at_ (Blk.fr (w := w.drew) p3.1 h2 p3.2) 0 rfl, Blk.at_ (Blk.fr (w := w.drew) p4.1 h2 p4.2) 0 rfl, Blk.at_ (Blk.fr (w := w.drew) p5.1 h2 p5.2) 0 rfl, Blk.at_ (Blk.fr (w := w.drew) bj.1 h2 bj.2) 0 rfl⟩
  go_simp
  refine hK _ _ hS1 ?_
  clear hK K
  refine g_take (i := 7) rfl rfl (by kernel_rfl) (by kernel_rfl) (by kernel_rfl) (by kernel_rfl) (by kernel_rfl) (fun _ _ _ h => h) hS1 (fun L W hL hW => by go_simp; rfl) ?_
  refine wpAnyG_done (by kernel_rfl) ?_ _
  have HN : Hid (Dk.Next w base F g s1 w1) := Lib.hid (Next.trans (s' := s) (Fr.refl F w).drew (fun _ h => .inl h) hN)
  clear hN hS hS1 d3 d4 d5 dj
  go_wp2_with fail
  go_ret
  exact ⟨rfl, HN.out⟩
set_option maxRecDepth 100000 in
theorem put12_any (h : At w base F g s) (bj : BF w F jb 48 (jcells g y)) {B3 B4 : Nat} {i : Int}
    (p3 : BF w F B3 27 #[ptr jb]) (p4 : BF w F B4 3 #[.int .i64 i]) :
    Calls Try.prog 57 #[ptr B3, ptr B4] w fun e w' => e = .returned (.int .i64 ((syD s i).1 : Nat)) ∧ Dk.Next w base F g (syD s i).2 w' := by
  have q3 := p3.1
  have q4 := p4.1
  have qj := bj.1
  have d3 := Blk.at_ q3 0 (v := .pointer (some ⟨jb, 0, none⟩)) rfl
  have d4 := Blk.at_ q4 0 (v := .int .i64 i) rfl
  have dj := Blk.at_ qj 0 (v := .pointer (some ⟨g, 0, none⟩)) rfl
  have HAP := Lib.hid (sync_any h.drew i)
  obtain ⟨⟨d, s1⟩, hd⟩ : ∃ x, syD s i = x := ⟨_, rfl⟩
  rw [hd] at HAP ⊢
  clear q3 q4 qj hd h
  show Calls Try.prog _ #[.pointer (some ⟨B3, 0, none⟩), .pointer (some ⟨B4, 0, none⟩)] _ _
  go_enter Try.func57, Try.ntmps57
  go_upto_region 1 with fail
  refine wp_region_heldG [5] (fun st W => W.cell? ⟨B3, 0, none⟩ = some (.pointer (some ⟨jb, 0, none⟩)) ∧ W.cell? ⟨B4, 0, none⟩ = some (.int .i64 i) ∧ W.cell? ⟨jb, 0, none⟩ = some (.pointer (some ⟨g, 0, none⟩))) (by kernel_rfl) ?_
  change wpAnyG _ _ _ _ _ _ 7 _ _ (World.drew _)
  have hS : w.drew.cell? ⟨B3, 0, none⟩ = some (.pointer (some ⟨jb, 0, none⟩)) ∧ w.drew.cell? ⟨B4, 0, none⟩ = some (.int .i64 i) ∧ w.drew.cell? ⟨jb, 0, none⟩ = some (.pointer (some ⟨g, 0, none⟩)) := ⟨d3, d4, dj⟩
  refine g_take (i := 0) rfl rfl (by kernel_rfl) (by kernel_rfl) (by kernel_rfl) (by kernel_rfl) (by kernel_rfl) (fun _ _ _ h => h) hS (fun L W hL hW => by obtain ⟨e3, e4, e6⟩ := hW; go_simp; rfl) ?_
  refine g_take (i := 1) rfl rfl (by kernel_rfl) (by kernel_rfl) (by kernel_rfl) (by kernel_rfl) (by kernel_rfl) (fun _ _ _ h => h) hS (fun L W hL hW => by obtain ⟨e3, e4, e6⟩ := hW; go_simp; rfl) ?_
  refine g_take (i := 2) rfl rfl (by kernel_rfl) (by kernel_rfl) (by kernel_rfl) (by kernel_rfl) (by kernel_rfl) (fun _ _ _ h => h) hS (fun L W hL hW => by obtain ⟨e3, e4, e6⟩ := hW; go_simp; rfl) ?_
  refine g_take (i := 3) rfl rfl (by kernel_rfl) (by kernel_rfl) (by kernel_rfl) (by kernel_rfl) (by kernel_rfl) (fun _ _ _ h => h) hS (fun L W hL hW => by obtain ⟨e3, e4, e6⟩ := hW; go_simp; rfl) ?_
  refine g_take (i := 4) rfl rfl (by kernel_rfl) (by kernel_rfl) (by kernel_rfl) (by kernel_rfl) (by kernel_rfl) (fun _ _ _ h => h) hS (fun L W hL hW => by obtain ⟨e3, e4, e6⟩ := hW; go_simp; rfl) ?_
  refine g_one (i := 5) rfl rfl (by kernel_rfl) fun K hK => ?_
  go_simp
  refine Calls.mono HAP.out ?_
  rintro e w1 ⟨rfl, hN⟩
  have hS1 : w1.cell? ⟨B3, 0, none⟩ = some (.pointer (some ⟨jb, 0, none⟩)) ∧ w1.cell? ⟨B4, 0, none⟩ = some (.int .i64 i) ∧ w1.cell? ⟨jb, 0, none⟩ = some (.pointer (some ⟨g, 0, none⟩)) := by
    obtain ⟨F2, -, h2, -⟩ := hN
    exact ⟨Blk.at_ (Blk.fr (w := w.drew) p3.1 h2 p3.2) 0 rfl, Blk.at_ (Blk.fr (w := w.drew) p4.1 h2 p4.2) 0 rfl, Blk.at_ (Blk.fr (w := w.drew) bj.1 h2 bj.2) 0 rfl⟩
  go_simp
  refine hK _ _ hS1 ?_
  clear hK K
  refine g_take (i := 6) rfl rfl (by kernel_rfl) (by kernel_rfl) (by kernel_rfl) (by kernel_rfl) (by kernel_rfl) (fun _ _ _ h => h) hS1 (fun L W hL hW => by go_simp; rfl) ?_
  refine wpAnyG_done (by kernel_rfl) ?_ _
  have HN : Hid (Dk.Next w base F g s1 w1) := Lib.hid (Next.trans (s' := s) (Fr.refl F w).drew (fun _ h => .inl h) hN)
  clear hN hS hS1 d3 d4 dj
  go_wp2_with fail
  go_ret
  exact ⟨rfl, HN.out⟩
set_option maxRecDepth 100000 in
set_option maxHeartbeats 1000000 in
theorem put_runs (h : At w base F g s) (bj : BF w F jb 48 (jcells g y)) {B3 B4 B5 : Nat} {i : Int} {A : Option Addr} {n c : Nat} {b : List UInt8} (hn : n = b.length) (hnc : n ≤ c) (hcm : c ≤ maxLen) (hI : Bytes w w.heap.size A b) (hAF : b ≠ [] → ∀ x o, A = some ⟨x, o, none⟩ → ¬ F x)
    (p3 : BF w F B3 27 #[ptr jb]) (p4 : BF w F B4 3 #[.int .i64 i]) (p5 : BF w F B5 23 #[.slice A n c]) :
    Calls Try.prog 55 #[ptr B3, ptr B4, ptr B5] w fun e w' => e = .returned (.int .i64 ((putJ s i b).1 : Nat)) ∧ Dk.Next w base F g (putJ s i b).2 w' := by
  obtain ⟨⟨d1, s1⟩, hr1⟩ : ∃ r, appD s i b = r := ⟨_, rfl⟩
  obtain ⟨⟨d2, s2⟩, hr2⟩ : ∃ r, syD s1 i = r := ⟨_, rfl⟩
  have e1 : d1 ≠ 0 → putJ s i b = (d1, s1) := fun h0 => by
    unfold putJ
    rw [hr1, then_no (r := (d1, s1)) h0]
  have e2 : d1 = 0 → putJ s i b = (d2, s2) := fun h0 => by
    unfold putJ
    rw [hr1, then_ok (r := (d1, s1)) h0]
    exact hr2
  have qs := Blk.new_ w 51 #[.func (.func 56) #[] #[ptr B3, ptr B4, ptr B5], .func (.func 57) #[] #[ptr B3, ptr B4]] rfl
  have hB := (Below.refl w.heap.size w).alloc (Nat.le_refl _) (.cells #[.func (.func 56) #[] #[ptr B3, ptr B4, ptr B5], .func (.func 57) #[] #[ptr B3, ptr B4]] 51)
  have HR : Hid (Calls Try.prog 34 #[.slice (some ⟨w.heap.size, 0, none⟩) 2 2] (w.alloc (.cells #[.func (.func 56) #[] #[.pointer (some ⟨B3, 0, none⟩), .pointer (some ⟨B4, 0, none⟩), .pointer (some ⟨B5, 0, none⟩)], .func (.func 57) #[] #[.pointer (some ⟨B3, 0, none⟩), .pointer (some ⟨B4, 0, none⟩)]] 51)) fun e w' => e = .returned (.int .i64 ((putJ s i b).1 : Nat)) ∧ Dk.Next w base F g (putJ s i b).2 w') := Lib.hid (by
    have hfr := Fr.of_below hB F
    have hA := h.below hB
    have hI1 := hI.grow hB
    have ns : ¬ F w.heap.size := fun e => by have := (h.lt e).2; omega
    have p3' := p3.next hfr (F' := F) (fun _ h => .inl h)
    have p4' := p4.next hfr (F' := F) (fun _ h => .inl h)
    have p5' := p5.next hfr (F' := F) (fun _ h => .inl h)
    have bj' := bj.next hfr (F' := F) (fun _ h => .inl h)
    show Calls Try.prog _ _ (w.alloc (.cells #[.func (.func 56) #[] #[ptr B3, ptr B4, ptr B5], .func (.func 57) #[] #[ptr B3, ptr B4]] 51)) _
    generalize w.alloc (.cells #[.func (.func 56) #[] #[ptr B3, ptr B4, ptr B5], .func (.func 57) #[] #[ptr B3, ptr B4]] 51) = w1 at *
    have bs : BF w1 F w.heap.size 51 #[.func (.func 56) #[] #[ptr B3, ptr B4, ptr B5], .func (.func 57) #[] #[ptr B3, ptr B4]] := ⟨qs, ns⟩
    have hR := run_any 2 w.heap.size (by omega) (fun k => if k = 0 then 56 else 57) (fun k => if k = 0 then #[ptr B3, ptr B4, ptr B5] else #[ptr B3, ptr B4])
      (fun k W => (k = 0 → W = w1) ∧ (k = 1 → d1 = 0 ∧ Dk.Next w1 base F g s1 W) ∧ (k = 2 → d1 = 0 ∧ d2 = 0 ∧ Dk.Next w1 base F g s2 W))
      (fun k W => k = (putJ s i b).1 ∧ Dk.Next w1 base F g (putJ s i b).2 W)
      (fun k W hk hI => by
        rcases (by omega : k = 0 ∨ k = 1) with rfl | rfl
        · rw [hI.1 rfl]; exact Blk.at_ bs.1 0 rfl
        · obtain ⟨-, F', -, hf, hs⟩ := hI.2.1 rfl
          exact Blk.at_ (bs.next hf hs).1 1 rfl)
      (fun k hk => by
        rcases (by omega : k = 0 ∨ k = 1) with rfl | rfl
        · exact enters_of Try.func56 (by kernel_rfl) rfl
        · exact enters_of Try.func57 (by kernel_rfl) rfl)
      (fun k W hk hJ => by
        rcases (by omega : k = 0 ∨ k = 1) with rfl | rfl
        · obtain rfl := hJ.1 rfl
          have hS := put11_any hA bj' hn hnc hcm hI1 hAF p3' p4' p5'
          rw [hr1] at hS
          refine Calls.mono hS ?_
          rintro e W' ⟨rfl, hN⟩
          by_cases h0 : d1 = 0
          · subst h0
            exact .inl ⟨rfl, ⟨fun e => by simp at e, fun _ => ⟨rfl, hN⟩, fun e => by simp at e⟩⟩
          · exact .inr ⟨d1, h0, rfl, by rw [e1 h0], by rw [e1 h0]; exact hN⟩
        · obtain ⟨h0, F', hA', hf, hs⟩ := hJ.2.1 rfl
          have hS := put12_any hA' (bj'.next hf hs) (p3'.next hf hs) (p4'.next hf hs)
          rw [hr2] at hS
          refine Calls.mono hS ?_
          rintro e W' ⟨rfl, hN⟩
          have hN' := Next.trans (s' := s1) hf hs hN
          by_cases h2 : d2 = 0
          · subst h2
            exact .inl ⟨rfl, ⟨fun e => by simp at e, fun e => by simp at e, fun _ => ⟨h0, rfl, hN'⟩⟩⟩
          · exact .inr ⟨d2, h2, rfl, by rw [e2 h0], by rw [e2 h0]; exact hN'⟩)
      w1 ⟨fun _ => rfl, fun e => by simp at e, fun e => by simp at e⟩
    refine Calls.mono hR ?_
    rintro e w' (⟨rfl, hJ⟩ | ⟨k, hk, rfl, hc, hN⟩)
    · obtain ⟨h0, h2, hN⟩ := hJ.2.2 rfl
      rw [e2 h0]
      subst h2
      exact ⟨rfl, Next.trans (s' := s) hfr (fun _ h => .inl h) hN⟩
    · subst hc
      exact ⟨rfl, Next.trans (s' := s) hfr (fun _ h => .inl h) hN⟩)
  obtain ⟨⟨d, s9⟩, hd⟩ : ∃ x, putJ s i b = x := ⟨_, rfl⟩
  rw [hd] at HR ⊢
  clear h bj hn hnc hcm hI hAF p3 p4 p5 hr1 hr2 e1 e2 qs hB hd
  show Calls Try.prog _ #[.pointer (some ⟨B3, 0, none⟩), .pointer (some ⟨B4, 0, none⟩), .pointer (some ⟨B5, 0, none⟩)] _ _
  go_enter Try.func55, Try.ntmps55
  go_wp2_with fail
  refine Calls.mono HR.out ?_
  rintro e w1 ⟨rfl, hN⟩
  have HN := Lib.hid hN
  clear hN
  go_wp2_with fail
  go_ret
  exact ⟨rfl, HN.out⟩
end
end Go.Proofs.Ytmkijkkddoamgaa.Jo
