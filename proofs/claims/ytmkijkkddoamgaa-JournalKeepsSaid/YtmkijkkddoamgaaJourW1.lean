/-
  The walks of shorten and save, and of what they make.
-/
import Derived.Test.YtmkijkkddoamgaaJourMem
namespace Go.Proofs.Ytmkijkkddoamgaa.Jo
set_option linter.unusedVariables false
open Go Go.RowKit Go.Shelf Go.Proofs Go.Proofs.Ytmkijkkddoamgaa Go.Proofs.Ytmkijkkddoamgaa.Wd Go.Proofs.Ytmkijkkddoamgaa.Dk Go.Proofs.Ytmkijkkddoamgaa.Hd Go.Proofs.Ytmkijkkddoamgaa.HdW

theorem shorten_any (g : Nat) (i n : Int) (w : World) : Calls Try.prog 47 #[.pointer (some ⟨g, 0, none⟩), .int .i64 i, .int .i64 n] w fun e w' =>
    e = .returned (.func (.func 69) #[] #[.pointer (some ⟨w.heap.size, 0, none⟩), .pointer (some ⟨w.heap.size + 1, 0, none⟩), .pointer (some ⟨w.heap.size + 1 + 1, 0, none⟩)]) ∧ Below w.heap.size w w' ∧ w'.heap.size = w.heap.size + 1 + 1 + 1 ∧
      Blk w' w.heap.size 26 #[.pointer (some ⟨g, 0, none⟩)] ∧ Blk w' (w.heap.size + 1) 3 #[.int .i64 i] ∧ Blk w' (w.heap.size + 1 + 1) 3 #[.int .i64 n] := by
  have z0 := ((Blk.new_ w 26 #[.pointer (some ⟨g, 0, none⟩)] rfl).alloc (.cells #[.int .i64 i] 3)).alloc (.cells #[.int .i64 n] 3)
  have z1 := (Blk.new_ (w.alloc (.cells #[.pointer (some ⟨g, 0, none⟩)] 26)) 3 #[.int .i64 i] (n := w.heap.size + 1) (by simp)).alloc (.cells #[.int .i64 n] 3)
  have z2 := Blk.new_ ((w.alloc (.cells #[.pointer (some ⟨g, 0, none⟩)] 26)).alloc (.cells #[.int .i64 i] 3)) 3 #[.int .i64 n] (n := w.heap.size + 1 + 1) (by simp)
  have hB : Below w.heap.size w (((w.alloc (.cells #[.pointer (some ⟨g, 0, none⟩)] 26)).alloc (.cells #[.int .i64 i] 3)).alloc (.cells #[.int .i64 n] 3)) := (((Below.refl _ w).alloc (Nat.le_refl _) _).alloc (by simp) _).alloc (by simp; omega) _
  have HZ := Lib.hid (And.intro hB (And.intro (show (((w.alloc (.cells #[.pointer (some ⟨g, 0, none⟩)] 26)).alloc (.cells #[.int .i64 i] 3)).alloc (.cells #[.int .i64 n] 3)).heap.size = w.heap.size + 1 + 1 + 1 by simp) (And.intro z0 (And.intro z1 z2))))
  clear z0 z1 z2 hB
  go_enter Try.func47, Try.ntmps47
  go_wp2_with fail
  go_ret
  exact ⟨rfl, HZ.out⟩
section
variable {w : World} {base : Nat} {F : Nat → Prop} {g : Nat} {s : DS}
set_option maxRecDepth 100000 in
theorem short_any (h : At w base F g s) {B3 B4 B5 : Nat} {i n : Int} (q3 : Blk w B3 26 #[.pointer (some ⟨g, 0, none⟩)]) (q4 : Blk w B4 3 #[.int .i64 i]) (q5 : Blk w B5 3 #[.int .i64 n]) (f3 : ¬ F B3) (f4 : ¬ F B4) (f5 : ¬ F B5) :
    Calls Try.prog 69 #[.pointer (some ⟨B3, 0, none⟩), .pointer (some ⟨B4, 0, none⟩), .pointer (some ⟨B5, 0, none⟩)] w fun e w' => e = .returned (.int .i64 ((shortD s i n).1 : Nat)) ∧ Dk.Next w base F g (shortD s i n).2 w' := by
  have d3 := Blk.at_ q3 0 (v := .pointer (some ⟨g, 0, none⟩)) rfl
  have d4 := Blk.at_ q4 0 (v := .int .i64 i) rfl
  have d5 := Blk.at_ q5 0 (v := .int .i64 n) rfl
  have HA := Lib.hid h.drew
  have HRD := Lib.hid (read_any h.drew i)
  have l3 : Hid (B3 < w.heap.size) := Lib.hid q3.lt
  have l4 : Hid (B4 < w.heap.size) := Lib.hid q4.lt
  have l5 : Hid (B5 < w.heap.size) := Lib.hid q5.lt
  obtain ⟨b, hb⟩ : ∃ b, b = rd s i := ⟨_, rfl⟩
  obtain ⟨m, hm⟩ : ∃ m, m = b.length := ⟨_, rfl⟩
  have HS : Hid (shortD s i n = if (m : Int) ≤ n then (0, s) else trD s i n) := Lib.hid (by rw [hm, hb]; rfl)
  rw [← hb] at HRD
  have HM := Lib.hid hm
  clear h q3 q4 q5 hb hm
  go_enter Try.func69, Try.ntmps69
  go_upto_region 1 with fail
  refine wp_region_heldG [2] (fun st W => W.cell? ⟨B3, 0, none⟩ = some (.pointer (some ⟨g, 0, none⟩)) ∧ W.cell? ⟨B4, 0, none⟩ = some (.int .i64 i) ∧ W.cell? ⟨B5, 0, none⟩ = some (.int .i64 n)) (by kernel_rfl) ?_
  change wpAnyG _ _ _ _ _ _ 6 _ _ (World.drew _)
  have hS : w.drew.cell? ⟨B3, 0, none⟩ = some (.pointer (some ⟨g, 0, none⟩)) ∧ w.drew.cell? ⟨B4, 0, none⟩ = some (.int .i64 i) ∧ w.drew.cell? ⟨B5, 0, none⟩ = some (.int .i64 n) := ⟨d3, d4, d5⟩
  refine g_take (i := 0) rfl rfl (by kernel_rfl) (by kernel_rfl) (by kernel_rfl) (by kernel_rfl) (by kernel_rfl) (fun _ _ _ h => h) hS (fun L W hL hW => by obtain ⟨e3, e4, e5⟩ := hW; go_simp; rfl) ?_
  refine g_take (i := 1) rfl rfl (by kernel_rfl) (by kernel_rfl) (by kernel_rfl) (by kernel_rfl) (by kernel_rfl) (fun _ _ _ h => h) hS (fun L W hL hW => by obtain ⟨e3, e4, e5⟩ := hW; go_simp; rfl) ?_
  refine g_take (i := 4) rfl rfl (by kernel_rfl) (by kernel_rfl) (by kernel_rfl) (by kernel_rfl) (by kernel_rfl) (fun _ _ _ h => h) hS (fun L W hL hW => by obtain ⟨e3, e4, e5⟩ := hW; go_simp; rfl) ?_
  refine g_one (i := 2) rfl rfl (by kernel_rfl) fun K hK => ?_
  go_simp
  refine Calls.mono HRD.out ?_
  rintro e w1 ⟨v1, rfl, hown, hb1⟩
  obtain ⟨A, c, rfl, -, -, -⟩ := own_bytes hown
  clear hown
  rw [← HM.out]
  have hS1 : w1.cell? ⟨B3, 0, none⟩ = some (.pointer (some ⟨g, 0, none⟩)) ∧ w1.cell? ⟨B4, 0, none⟩ = some (.int .i64 i) ∧ w1.cell? ⟨B5, 0, none⟩ = some (.int .i64 n) :=
    ⟨(hb1.cell (p := ⟨B3, 0, none⟩) l3.out).trans d3, (hb1.cell (p := ⟨B4, 0, none⟩) l4.out).trans d4, (hb1.cell (p := ⟨B5, 0, none⟩) l5.out).trans d5⟩
  have HA1 := Lib.hid (HA.out.below hb1)
  have HF1 := Lib.hid ((Fr.refl F w).drew.trans (Fr.of_below hb1 F) (fun i hi => .inl hi))
  clear HRD hS hb1 d3 d4 d5 HM
  go_simp
  refine hK _ _ hS1 ?_
  clear hK K
  refine g_take (i := 3) rfl rfl (by kernel_rfl) (by kernel_rfl) (by kernel_rfl) (by kernel_rfl) (by kernel_rfl) (fun _ _ _ h => h) hS1 (fun L W hL hW => by go_simp; rfl) ?_
  refine g_take (i := 5) rfl rfl (by kernel_rfl) (by kernel_rfl) (by kernel_rfl) (by kernel_rfl) (by kernel_rfl) (fun _ _ _ h => h) hS1 (fun L W hL hW => by go_simp; rfl) ?_
  refine wpAnyG_done (by kernel_rfl) ?_ _
  obtain ⟨d3, d4, d5⟩ := hS1
  by_cases hle : (m : Int) ≤ n
  · have HR : Hid (shortD s i n = (0, s)) := Lib.hid (by rw [HS.out, if_pos hle])
    go_wp2_with fail
    go_ret
    rw [HR.out]
    exact ⟨rfl, F, HA1.out, HF1.out, fun _ h => .inl h⟩
  · have HR : Hid (shortD s i n = trD s i n) := Lib.hid (by rw [HS.out, if_neg hle])
    have HT := Lib.hid (trunc_any HA1.out i n)
    obtain ⟨⟨r, s1⟩, hr⟩ : ∃ r, trD s i n = r := ⟨_, rfl⟩
    rw [hr] at HR HT
    clear hr
    go_wp2_with fail
    refine Calls.mono HT.out ?_
    rintro e w2 ⟨rfl, hN⟩
    have HN := Lib.hid (Next.trans (s' := s) HF1.out (fun _ h => .inl h) hN)
    clear hN
    go_wp2_with fail
    go_ret
    rw [HR.out]
    exact ⟨rfl, HN.out⟩
end
theorem save_makes (g : Nat) (hb : Nat) (w : World) : Calls Try.prog 48 #[.pointer (some ⟨g, 0, none⟩), .pointer (some ⟨hb, 0, none⟩)] w fun e w' =>
    e = .returned (.func (.func 70) #[] #[.pointer (some ⟨w.heap.size, 0, none⟩), .pointer (some ⟨w.heap.size + 1, 0, none⟩)]) ∧ Below w.heap.size w w' ∧ w'.heap.size = w.heap.size + 1 + 1 ∧
      Blk w' w.heap.size 26 #[.pointer (some ⟨g, 0, none⟩)] ∧ Blk w' (w.heap.size + 1) 98 #[.pointer (some ⟨hb, 0, none⟩)] := by
  have z0 := (Blk.new_ w 26 #[.pointer (some ⟨g, 0, none⟩)] rfl).alloc (.cells #[.pointer (some ⟨hb, 0, none⟩)] 98)
  have z1 := Blk.new_ (w.alloc (.cells #[.pointer (some ⟨g, 0, none⟩)] 26)) 98 #[.pointer (some ⟨hb, 0, none⟩)] (n := w.heap.size + 1) (by simp)
  have hB : Below w.heap.size w ((w.alloc (.cells #[.pointer (some ⟨g, 0, none⟩)] 26)).alloc (.cells #[.pointer (some ⟨hb, 0, none⟩)] 98)) := ((Below.refl _ w).alloc (Nat.le_refl _) _).alloc (by simp) _
  have HZ := Lib.hid (And.intro hB (And.intro (show ((w.alloc (.cells #[.pointer (some ⟨g, 0, none⟩)] 26)).alloc (.cells #[.pointer (some ⟨hb, 0, none⟩)] 98)).heap.size = w.heap.size + 1 + 1 by simp) (And.intro z0 z1)))
  clear z0 z1 hB
  go_enter Try.func48, Try.ntmps48
  go_wp2_with fail
  go_ret
  exact ⟨rfl, HZ.out⟩
end Go.Proofs.Ytmkijkkddoamgaa.Jo
