/-
  The walks of same, begins, awake.
-/
import Derived.Test.YtgajgjijnpigoaaDiskWalks7
import Derived.Test.YtgajgjijnpigoaaDiskSync
namespace Go.Proofs.Ytgajgjijnpigoaa.Dk
set_option linter.unusedVariables false
open Go Go.RowKit Go.Shelf Go.Proofs Go.Proofs.Ytgajgjijnpigoaa Go.Proofs.Ytgajgjijnpigoaa.Wd

theorem same_any (A B : Option Addr) (c d : Nat) (l k : List UInt8) (n m : Nat) (hn : n = l.length) (hm : m = k.length) (w : World) (hI : Bytes w w.heap.size A l) (hJ : Bytes w w.heap.size B k) :
    Calls Try.prog 13 #[.slice A n c, .slice B m d] w fun e w' => e = .returned (.bool (l == k)) ∧ w = w' := by
  subst hn hm
  have k1 := run_convert_bytes (P := Try.prog) w 29 5 9 Try.underlying29 Try.underlying5 Try.underlying9 hI c rfl
  have k2 := run_convert_bytes (P := Try.prog) w 29 5 9 Try.underlying29 Try.underlying5 Try.underlying9 hJ d rfl
  go_enter Try.func13, Try.ntmps13
  go_wp2
  go_ret
  exact ⟨rfl, rfl⟩
/-- An own row of bytes, as a slice that is read. -/
theorem own_read {w : World} {base n : Nat} {v : Value} {l : List UInt8} (h : w.ownsRow base 5 1 v n (bs l)) : ∃ A c, v = .slice A l.length c ∧ l.length ≤ c ∧ c ≤ maxLen ∧ Bytes w w.heap.size A l := by
  obtain ⟨A, c, rfl, h1, h2, h3⟩ := own_bytes h
  subst h2
  exact ⟨A, c, rfl, h1, own_cap' h, h3⟩
theorem lit_read (w : World) (l : List UInt8) {cs : Array Value} (hc : cs.toList = bs l) : Bytes (w.alloc (.cells cs 5)) (w.alloc (.cells cs 5)).heap.size (some ⟨w.heap.size, 0, none⟩) l :=
  Bytes.blk (Blk.new_ w _ cs rfl) (by simp) l hc
def kA : Nat → Int := fun i => if i = 0 then 1 else 0
def kB : Nat → Int := fun i => if i < 2 then 9 else 0
def a0 : DS := newD 10
def a1 : DS := (appD a0 0 [1, 2, 3]).2
def a2 : DS := (syD a1 0).2
def a3 : DS := (appD a2 0 [4, 5]).2
def a4 : DS := crashD kA a3
def a5 : DS := fuseD 1 2 a4
def a6 : DS := (appD a5 1 [7]).2
def a7 : DS := (appD a6 1 [8, 9, 9]).2
def a8 : DS := crashD kB a7
def a9 : DS := (appD a8 0 [1, 1, 1, 1]).2
theorem e1 : (appD a0 0 [1, 2, 3]).1 = 0 := by decide
theorem e2 : (syD a1 0).1 = 0 := by decide
theorem e3 : (appD a2 0 [4, 5]).1 = 0 := by decide
theorem f3 : free a3 = 5 := by decide
theorem r4 : rd a4 0 = [1, 2, 3, 4] := by decide
theorem f4 : free a4 = 6 := by decide
theorem e6 : (appD a5 1 [7]).1 = 0 := by decide
theorem e7 : (appD a6 1 [8, 9, 9]).1 = 3 := by decide
theorem r7 : rd a7 1 = [] := by decide
theorem d7 : a7.dead = true := by decide
theorem r8 : rd a8 1 = [7, 8, 9] := by decide
theorem e9 : (appD a8 0 [1, 1, 1, 1]).1 = 5 := by decide
theorem f9 : free a9 = 3 := by decide

set_option maxRecDepth 100000 in
set_option maxHeartbeats 2000000 in
theorem awake_any (w : World) : Calls Try.prog 18 #[] w fun e w' => e = .returned (.bool true) ∧ Below w.heap.size w w' := by
  go_enter Try.func18, Try.ntmps18
  go_wp2_with fail
  refine Calls.mono (new_any 10 (by decide) w) ?_
  rintro e w0 ⟨rfl, hA, hB⟩
  obtain ⟨F, hFF⟩ : ∃ F : Nat → Prop, F = (fun j => j = w.heap.size) := ⟨_, rfl⟩
  rw [← hFF] at hA
  clear hFF
  obtain ⟨g, hg⟩ : ∃ g, g = w.heap.size := ⟨_, rfl⟩
  have hA : At w0 w.heap.size F g a0 := by rw [hg]; exact hA
  rw [← hg]
  clear hg
  go_wp2_with fail
  have hl := lit_read w0 [1, 2, 3] (cs := #[.int .u8 1, .int .u8 2, .int .u8 3]) rfl
  have hb := (Below.refl w0.heap.size w0).alloc (Nat.le_refl _) (.cells #[.int .u8 1, .int .u8 2, .int .u8 3] 5)
  have hx : ∀ x o, (some (⟨w0.heap.size, 0, none⟩ : Addr)) = some ⟨x, o, none⟩ → ¬ F x := fun x o e hf => by cases e; have := (hA.lt hf).2; omega
  have hA2 := hA.below hb
  have hB2 := hB.trans (hb.mono hB.size)
  generalize w0.alloc (.cells #[.int .u8 1, .int .u8 2, .int .u8 3] 5) = x1 at *
  generalize w0.heap.size = b1 at *
  refine Calls.mono (append_any hA2 0 (n := 3) (c := 3) (b := [1, 2, 3]) rfl (by decide) (by decide) hl (fun _ => hx)) ?_
  rintro e y1 ⟨rfl, F1, hA3, hfr, hF⟩
  rw [e1]
  have hB3 := hB2.trans (hfr.below hB2.size fun k hk => (hA2.lt hk).1)
  have hA3 : At y1 w.heap.size F1 g a1 := hA3
  clear hA hB hA2 hB2 hl hb hx hfr hF
  have hA := hA3
  have hB := hB3
  clear hA3 hB3
  go_wp2_with fail
  refine Calls.mono (sync_any hA 0) ?_
  rintro e y2 ⟨rfl, F2, hA3, hfr, hF⟩
  rw [e2]
  have hB3 := hB.trans (hfr.below hB.size fun k hk => (hA.lt hk).1)
  have hA3 : At y2 w.heap.size F2 g a2 := hA3
  clear hA hB hfr hF
  have hA := hA3
  have hB := hB3
  clear hA3 hB3
  go_wp2_with fail
  have hl := lit_read y2 [4, 5] (cs := #[.int .u8 4, .int .u8 5]) rfl
  have hb := (Below.refl y2.heap.size y2).alloc (Nat.le_refl _) (.cells #[.int .u8 4, .int .u8 5] 5)
  have hx : ∀ x o, (some (⟨y2.heap.size, 0, none⟩ : Addr)) = some ⟨x, o, none⟩ → ¬ F2 x := fun x o e hf => by cases e; have := (hA.lt hf).2; omega
  have hA2 := hA.below hb
  have hB2 := hB.trans (hb.mono hB.size)
  generalize y2.alloc (.cells #[.int .u8 4, .int .u8 5] 5) = x3 at *
  generalize y2.heap.size = b3 at *
  refine Calls.mono (append_any hA2 0 (n := 2) (c := 2) (b := [4, 5]) rfl (by decide) (by decide) hl (fun _ => hx)) ?_
  rintro e y3 ⟨rfl, F3, hA3, hfr, hF⟩
  rw [e3]
  have hB3 := hB2.trans (hfr.below hB2.size fun k hk => (hA2.lt hk).1)
  have hA3 : At y3 w.heap.size F3 g a3 := hA3
  clear hA hB hA2 hB2 hl hb hx hfr hF
  have hA := hA3
  have hB := hB3
  clear hA3 hB3
  go_wp2_with fail
  refine Calls.mono (free_any hA) ?_
  rintro e y4 ⟨rfl, hb⟩
  rw [f3]
  have hA3 := hA.below hb
  have hB3 := hB.trans (hb.mono hB.size)
  clear hA hB hb
  have hA := hA3
  have hB := hB3
  clear hA3 hB3
  go_wp2_with fail
  refine Calls.mono (crash_any hA kA (by intro i _; unfold kA; split <;> omega)) ?_
  rintro e y5 ⟨⟨v2, rfl⟩, F5, hA3, hfr, hF⟩
  have hB3 := hB.trans (hfr.below hB.size fun k hk => (hA.lt hk).1)
  have hA3 : At y5 w.heap.size F5 g a4 := hA3
  clear hA hB hfr hF
  have hA := hA3
  have hB := hB3
  clear hA3 hB3
  go_wp2_with fail
  refine Calls.mono (read_any hA 0) ?_
  rintro e y6 ⟨v2, rfl, hown, hb⟩
  rw [r4] at hown
  obtain ⟨A6, c6, rfl, -, -, hr2⟩ := own_read hown
  clear hown
  have hA3 := hA.below hb
  have hB3 := hB.trans (hb.mono hB.size)
  clear hA hB hb
  have hA := hA3
  have hB := hB3
  clear hA3 hB3
  go_wp2_with fail
  have hl := lit_read y6 [1, 2, 3, 4] (cs := #[.int .u8 1, .int .u8 2, .int .u8 3, .int .u8 4]) rfl
  have hb := (Below.refl y6.heap.size y6).alloc (Nat.le_refl _) (.cells #[.int .u8 1, .int .u8 2, .int .u8 3, .int .u8 4] 5)
  have hr3 := hr2.grow hb
  have hA3 := hA.below hb
  have hB3 := hB.trans (hb.mono hB.size)
  clear hA hB hb
  have hA := hA3
  have hB := hB3
  clear hA3 hB3
  generalize y6.alloc (.cells #[.int .u8 1, .int .u8 2, .int .u8 3, .int .u8 4] 5) = y7 at *
  generalize y6.heap.size = b7 at *
  refine Calls.mono (same_any _ _ _ _ [1, 2, 3, 4] [1, 2, 3, 4] _ _ rfl rfl y7 hr3 hl) ?_
  rintro e z7 ⟨rfl, rfl⟩
  rw [beq_self_eq_true]
  clear hl hr3 hr2
  go_wp2_with fail
  refine Calls.mono (free_any hA) ?_
  rintro e y8 ⟨rfl, hb⟩
  rw [f4]
  have hA3 := hA.below hb
  have hB3 := hB.trans (hb.mono hB.size)
  clear hA hB hb
  have hA := hA3
  have hB := hB3
  clear hA3 hB3
  go_wp2_with fail
  refine Calls.mono (fuse_any hA 1 2 (by decide) (by decide)) ?_
  rintro e y9 ⟨⟨v2, rfl⟩, F9, hA3, hfr, hF⟩
  have hB3 := hB.trans (hfr.below hB.size fun k hk => (hA.lt hk).1)
  have hA3 : At y9 w.heap.size F9 g a5 := hA3
  clear hA hB hfr hF
  have hA := hA3
  have hB := hB3
  clear hA3 hB3
  go_wp2_with fail
  have hl := lit_read y9 [7] (cs := #[.int .u8 7]) rfl
  have hb := (Below.refl y9.heap.size y9).alloc (Nat.le_refl _) (.cells #[.int .u8 7] 5)
  have hx : ∀ x o, (some (⟨y9.heap.size, 0, none⟩ : Addr)) = some ⟨x, o, none⟩ → ¬ F9 x := fun x o e hf => by cases e; have := (hA.lt hf).2; omega
  have hA2 := hA.below hb
  have hB2 := hB.trans (hb.mono hB.size)
  generalize y9.alloc (.cells #[.int .u8 7] 5) = x10 at *
  generalize y9.heap.size = b10 at *
  refine Calls.mono (append_any hA2 1 (n := 1) (c := 1) (b := [7]) rfl (by decide) (by decide) hl (fun _ => hx)) ?_
  rintro e y10 ⟨rfl, F10, hA3, hfr, hF⟩
  rw [e6]
  have hB3 := hB2.trans (hfr.below hB2.size fun k hk => (hA2.lt hk).1)
  have hA3 : At y10 w.heap.size F10 g a6 := hA3
  clear hA hB hA2 hB2 hl hb hx hfr hF
  have hA := hA3
  have hB := hB3
  clear hA3 hB3
  go_wp2_with fail
  have hl := lit_read y10 [8, 9, 9] (cs := #[.int .u8 8, .int .u8 9, .int .u8 9]) rfl
  have hb := (Below.refl y10.heap.size y10).alloc (Nat.le_refl _) (.cells #[.int .u8 8, .int .u8 9, .int .u8 9] 5)
  have hx : ∀ x o, (some (⟨y10.heap.size, 0, none⟩ : Addr)) = some ⟨x, o, none⟩ → ¬ F10 x := fun x o e hf => by cases e; have := (hA.lt hf).2; omega
  have hA2 := hA.below hb
  have hB2 := hB.trans (hb.mono hB.size)
  generalize y10.alloc (.cells #[.int .u8 8, .int .u8 9, .int .u8 9] 5) = x11 at *
  generalize y10.heap.size = b11 at *
  refine Calls.mono (append_any hA2 1 (n := 3) (c := 3) (b := [8, 9, 9]) rfl (by decide) (by decide) hl (fun _ => hx)) ?_
  rintro e y11 ⟨rfl, F11, hA3, hfr, hF⟩
  rw [e7]
  have hB3 := hB2.trans (hfr.below hB2.size fun k hk => (hA2.lt hk).1)
  have hA3 : At y11 w.heap.size F11 g a7 := hA3
  clear hA hB hA2 hB2 hl hb hx hfr hF
  have hA := hA3
  have hB := hB3
  clear hA3 hB3
  go_wp2_with fail
  refine Calls.mono (read_any hA 1) ?_
  rintro e y12 ⟨v2, rfl, hown, hb⟩
  rw [r7] at hown
  obtain ⟨A12, c12, rfl, -, -, hr2⟩ := own_read hown
  clear hown
  have hA3 := hA.below hb
  have hB3 := hB.trans (hb.mono hB.size)
  clear hA hB hb
  have hA := hA3
  have hB := hB3
  clear hA3 hB3
  go_wp2_with fail
  refine Calls.mono (dead_any hA) ?_
  rintro e w2 ⟨rfl, rfl⟩
  rw [d7]
  clear hr2
  go_wp2_with fail
  refine Calls.mono (crash_any hA kB (by intro i _; unfold kB; split <;> omega)) ?_
  rintro e y13 ⟨⟨v2, rfl⟩, F13, hA3, hfr, hF⟩
  have hB3 := hB.trans (hfr.below hB.size fun k hk => (hA.lt hk).1)
  have hA3 : At y13 w.heap.size F13 g a8 := hA3
  clear hA hB hfr hF
  have hA := hA3
  have hB := hB3
  clear hA3 hB3
  go_wp2_with fail
  refine Calls.mono (read_any hA 1) ?_
  rintro e y14 ⟨v2, rfl, hown, hb⟩
  rw [r8] at hown
  obtain ⟨A14, c14, rfl, -, -, hr2⟩ := own_read hown
  clear hown
  have hA3 := hA.below hb
  have hB3 := hB.trans (hb.mono hB.size)
  clear hA hB hb
  have hA := hA3
  have hB := hB3
  clear hA3 hB3
  go_wp2_with fail
  have hl := lit_read y14 [7, 8, 9] (cs := #[.int .u8 7, .int .u8 8, .int .u8 9]) rfl
  have hb := (Below.refl y14.heap.size y14).alloc (Nat.le_refl _) (.cells #[.int .u8 7, .int .u8 8, .int .u8 9] 5)
  have hr3 := hr2.grow hb
  have hA3 := hA.below hb
  have hB3 := hB.trans (hb.mono hB.size)
  clear hA hB hb
  have hA := hA3
  have hB := hB3
  clear hA3 hB3
  generalize y14.alloc (.cells #[.int .u8 7, .int .u8 8, .int .u8 9] 5) = y15 at *
  generalize y14.heap.size = b15 at *
  refine Calls.mono (same_any _ _ _ _ [7, 8, 9] [7, 8, 9] _ _ rfl rfl y15 hr3 hl) ?_
  rintro e z15 ⟨rfl, rfl⟩
  rw [beq_self_eq_true]
  clear hl hr3 hr2
  go_wp2_with fail
  have hl := lit_read y15 [1, 1, 1, 1] (cs := #[.int .u8 1, .int .u8 1, .int .u8 1, .int .u8 1]) rfl
  have hb := (Below.refl y15.heap.size y15).alloc (Nat.le_refl _) (.cells #[.int .u8 1, .int .u8 1, .int .u8 1, .int .u8 1] 5)
  have hx : ∀ x o, (some (⟨y15.heap.size, 0, none⟩ : Addr)) = some ⟨x, o, none⟩ → ¬ F13 x := fun x o e hf => by cases e; have := (hA.lt hf).2; omega
  have hA2 := hA.below hb
  have hB2 := hB.trans (hb.mono hB.size)
  generalize y15.alloc (.cells #[.int .u8 1, .int .u8 1, .int .u8 1, .int .u8 1] 5) = x16 at *
  generalize y15.heap.size = b16 at *
  refine Calls.mono (append_any hA2 0 (n := 4) (c := 4) (b := [1, 1, 1, 1]) rfl (by decide) (by decide) hl (fun _ => hx)) ?_
  rintro e y16 ⟨rfl, F16, hA3, hfr, hF⟩
  rw [e9]
  have hB3 := hB2.trans (hfr.below hB2.size fun k hk => (hA2.lt hk).1)
  have hA3 : At y16 w.heap.size F16 g a9 := hA3
  clear hA hB hA2 hB2 hl hb hx hfr hF
  have hA := hA3
  have hB := hB3
  clear hA3 hB3
  go_wp2_with fail
  refine Calls.mono (free_any hA) ?_
  rintro e y17 ⟨rfl, hb⟩
  rw [f9]
  have hA3 := hA.below hb
  have hB3 := hB.trans (hb.mono hB.size)
  clear hA hB hb
  have hA := hA3
  have hB := hB3
  clear hA3 hB3
  go_wp2_with fail
  go_ret
  exact ⟨rfl, hB⟩
end Go.Proofs.Ytgajgjijnpigoaa.Dk
