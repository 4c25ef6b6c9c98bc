/-
  The walks of Same, awake.
-/
import Derived.Test.YtpohefpiidlnjaaHeadWalks7
namespace Go.Proofs.Ytpohefpiidlnjaa.HdW
set_option linter.unusedVariables false
open Go Go.RowKit Go.Shelf Go.Proofs Go.Proofs.Ytpohefpiidlnjaa Go.Proofs.Ytpohefpiidlnjaa.Wd Go.Proofs.Ytpohefpiidlnjaa.Dk Go.Proofs.Ytpohefpiidlnjaa.Hd

theorem same_any (A B : Option Addr) (c d : Nat) (l k : List UInt8) (n m : Nat) (hn : n = l.length) (hm : m = k.length) (w : World) (hI : Bytes w w.heap.size A l) (hJ : Bytes w w.heap.size B k) :
    Calls Try.prog 13 #[.slice A n c, .slice B m d] w fun e w' => e = .returned (.bool (l == k)) ∧ w = w' := by
  subst hn hm
  have k1 := run_convert_bytes (P := Try.prog) w 25 5 9 Try.underlying25 Try.underlying5 Try.underlying9 hI c rfl
  have k2 := run_convert_bytes (P := Try.prog) w 25 5 9 Try.underlying25 Try.underlying5 Try.underlying9 hJ d rfl
  go_enter Try.func13, Try.ntmps13
  go_wp2
  go_ret
  exact ⟨rfl, rfl⟩
theorem lit_read (w : World) (l : List UInt8) {cs : Array Value} (hc : cs.toList = bs l) : Bytes (w.alloc (.cells cs 5)) (w.alloc (.cells cs 5)).heap.size (some ⟨w.heap.size, 0, none⟩) l :=
  Bytes.blk (Blk.new_ w _ cs rfl) (by simp) l hc
def b3 : List UInt8 := [3, 0, 0, 0, 0, 0, 0, 0, 1, 0, 0, 0, 0, 0, 0, 0, 1, 0, 0, 0, 0, 0, 0, 0, 3, 0, 0, 0, 0, 0, 0, 0]
def b2 : List UInt8 := Hd.bytes ⟨2, 0, 0⟩
theorem b3_eq : Hd.bytes ⟨3, 1, 1⟩ = b3 := by decide +kernel
theorem e3 : bytesR ⟨3, 1, 1⟩ = (b3, 0) := by unfold bytesR; rw [b3_eq]; rfl
theorem e2 : bytesR ⟨2, 0, 0⟩ = (b2, 0) := rfl
theorem p23 : Hd.pick b2 b3 = ⟨3, 1, 1⟩ := by decide +kernel
theorem p3n : Hd.pick b3 [] = none_ := by decide +kernel
theorem w3 : Wf ⟨3, 1, 1⟩ := ⟨by decide, by decide, by decide⟩
theorem w2 : Wf ⟨2, 0, 0⟩ := ⟨by decide, by decide, by decide⟩
def s0 : DS := newD 10
def s1 : DS := (saveR s0 ⟨1, 0, 0⟩).2
theorem l0 : loadR s0 = (none_, 50) := by decide +kernel
theorem v0 : (saveR s0 ⟨1, 0, 0⟩).1 = (⟨1, 0, 0⟩, 0) := by decide +kernel
theorem l1 : loadR s1 = (⟨1, 0, 0⟩, 0) := by decide +kernel
set_option maxRecDepth 100000 in
set_option maxHeartbeats 2000000 in
theorem awake_any (w : World) : Calls Try.prog 9 #[] w fun e w' => e = .returned (.bool true) ∧ Below w.heap.size w w' := by
  go_enter Try.func9, Try.ntmps9
  go_wp2_with fail
  have hb := bytes_any 3 1 1 w3 w
  rw [e3] at hb
  refine Calls.mono hb ?_
  rintro e x1 ⟨A3, c3, rfl, hl3, hm3, hJ3, hB, -⟩
  have z3 : b3.length = 32 := rfl
  rw [z3] at hl3 ⊢
  clear hb z3
  go_wp2_with fail
  have hb := bytes_any 2 0 0 w2 x1
  rw [e2] at hb
  refine Calls.mono hb ?_
  rintro e x2 ⟨A2, c2, rfl, hl2, hm2, hJ2, hB2, -⟩
  have z2 : b2.length = 32 := rfl
  rw [z2] at hl2 ⊢
  have hJ3' := hJ3.grow hB2
  have hB' := hB.trans (hB2.mono hB.size)
  clear hb z2 hJ3 hB hB2
  go_wp2_with fail
  have hl := lit_read x2 b3 (cs := #[.int .u8 3, .int .u8 0, .int .u8 0, .int .u8 0, .int .u8 0, .int .u8 0, .int .u8 0, .int .u8 0, .int .u8 1, .int .u8 0, .int .u8 0, .int .u8 0, .int .u8 0, .int .u8 0, .int .u8 0, .int .u8 0, .int .u8 1, .int .u8 0, .int .u8 0, .int .u8 0, .int .u8 0, .int .u8 0, .int .u8 0, .int .u8 0, .int .u8 3, .int .u8 0, .int .u8 0, .int .u8 0, .int .u8 0, .int .u8 0, .int .u8 0, .int .u8 0]) rfl
  have hb := (Below.refl x2.heap.size x2).alloc (Nat.le_refl _) (.cells #[.int .u8 3, .int .u8 0, .int .u8 0, .int .u8 0, .int .u8 0, .int .u8 0, .int .u8 0, .int .u8 0, .int .u8 1, .int .u8 0, .int .u8 0, .int .u8 0, .int .u8 0, .int .u8 0, .int .u8 0, .int .u8 0, .int .u8 1, .int .u8 0, .int .u8 0, .int .u8 0, .int .u8 0, .int .u8 0, .int .u8 0, .int .u8 0, .int .u8 3, .int .u8 0, .int .u8 0, .int .u8 0, .int .u8 0, .int .u8 0, .int .u8 0, .int .u8 0] 5)
  have hJ3 := hJ3'.grow hb
  have hJ2' := hJ2.grow hb
  have hB := hB'.trans (hb.mono hB'.size)
  generalize x2.alloc (.cells #[.int .u8 3, .int .u8 0, .int .u8 0, .int .u8 0, .int .u8 0, .int .u8 0, .int .u8 0, .int .u8 0, .int .u8 1, .int .u8 0, .int .u8 0, .int .u8 0, .int .u8 0, .int .u8 0, .int .u8 0, .int .u8 0, .int .u8 1, .int .u8 0, .int .u8 0, .int .u8 0, .int .u8 0, .int .u8 0, .int .u8 0, .int .u8 0, .int .u8 3, .int .u8 0, .int .u8 0, .int .u8 0, .int .u8 0, .int .u8 0, .int .u8 0, .int .u8 0] 5) = x3 at *
  generalize x2.heap.size = k2 at *
  refine Calls.mono (same_any _ _ _ _ b3 b3 _ _ rfl rfl x3 hJ3 hl) ?_
  rintro e y3 ⟨rfl, rfl⟩
  rw [beq_self_eq_true]
  clear hl hb hJ3' hJ2 hB'
  go_wp2_with fail
  have hp := pick_any A2 A3 c2 c3 32 32 b2 b3 rfl rfl hl2 hl3 hm2 hm3 x3 hJ2' hJ3
  rw [p23] at hp
  simp only [hv] at hp
  refine Calls.mono hp ?_
  rintro e x4 ⟨rfl, hb⟩
  have hJ3' := hJ3.grow hb
  have hB' := hB.trans (hb.mono hB.size)
  clear hp hb hJ3 hJ2' hB
  have hbx := (Below.refl x4.heap.size x4).alloc (Nat.le_refl _) (.cells #[.int .u64 3, .int .u64 1, .int .u8 1] 24)
  have q5 := Blk.new_ x4 24 #[.int .u64 3, .int .u64 1, .int .u8 1] rfl
  have hJ3 := hJ3'.grow hbx
  have hB := hB'.trans (hbx.mono hB'.size)
  clear hbx hJ3' hB'
  go_upto_region 6 with fail
  generalize x4.alloc (.cells #[.int .u64 3, .int .u64 1, .int .u8 1] 24) = x5 at *
  generalize x4.heap.size = g5 at *
  go_wp2_with fail
  have hp := pick_any A3 none c3 0 32 0 b3 [] rfl rfl hl3 (Nat.le_refl _) hm3 (by simp [maxLen]) x5 hJ3 Row.nil
  rw [p3n] at hp
  simp only [hv, none_] at hp
  refine Calls.mono hp ?_
  rintro e x6 ⟨rfl, hb⟩
  have r5 := q5.below hb q5.lt
  have hB' := hB.trans (hb.mono hB.size)
  clear hp hb hJ3 hB q5
  have hbx := (Below.refl x6.heap.size x6).alloc (Nat.le_refl _) (.cells #[.int .u64 0, .int .u64 0, .int .u8 0] 24)
  have q7 := Blk.new_ x6 24 #[.int .u64 0, .int .u64 0, .int .u8 0] rfl
  have q5 := r5.below hbx r5.lt
  have hB := hB'.trans (hbx.mono hB'.size)
  clear hbx hB' r5
  go_upto_region 7 with fail
  generalize x6.alloc (.cells #[.int .u64 0, .int .u64 0, .int .u8 0] 24) = x7 at *
  generalize x6.heap.size = g7 at *
  clear q7
  go_wp2_with fail
  refine Calls.mono (new_any 10 (by decide) x7) ?_
  rintro e x8 ⟨rfl, hA, hb⟩
  obtain ⟨F, hFF⟩ : ∃ F : Nat → Prop, F = (fun j => j = x7.heap.size) := ⟨_, rfl⟩
  have r5 := q5.below hb q5.lt
  have hn5 : ¬ F g5 := fun h => by rw [hFF] at h; exact Nat.lt_irrefl _ (h ▸ q5.lt)
  rw [← hFF] at hA
  have hB' := hB.trans (hb.mono hB.size)
  have hbs := hB.size
  obtain ⟨g, hg⟩ : ∃ g, g = x7.heap.size := ⟨_, rfl⟩
  rw [← hg] at hA ⊢
  have hA : At x8 g F g s0 := hA
  have hgb : w.heap.size ≤ g := by rw [hg]; exact hbs
  clear hFF hg hb hB q5 hbs
  go_wp2_with fail
  have hp := load_any hA
  rw [l0] at hp
  simp only [hv, none_] at hp
  refine Calls.mono hp ?_
  rintro e x9 ⟨rfl, F2, hA2, hf, hs⟩
  have q5 := r5.fr hf hn5
  have hm5 : ¬ F2 g5 := fun h => (hs _ h).elim hn5 (fun h => by have := r5.lt; omega)
  have hB := hB'.trans (hf.below hB'.size fun k hk => Nat.le_trans hgb (hA.lt hk).1)
  clear hp hA hf hs hB' r5 hn5
  have hbx := (Below.refl x9.heap.size x9).alloc (Nat.le_refl _) (.cells #[.int .u64 0, .int .u64 0, .int .u8 0] 24)
  have q11 := Blk.new_ x9 24 #[.int .u64 0, .int .u64 0, .int .u8 0] rfl
  have r5 := q5.below hbx q5.lt
  have hB' := hB.trans (hbx.mono hB.size)
  have hA := hA2.below hbx
  clear hbx hB q5 q11 hA2
  go_upto_region 9 with fail
  generalize x9.alloc (.cells #[.int .u64 0, .int .u64 0, .int .u8 0] 24) = x10 at *
  generalize x9.heap.size = g11 at *
  go_wp2_with fail
  have hp := save_any hA 0 0 0 1 (by decide) (by decide) (by decide) (by decide)
  rw [v0] at hp
  simp only [hv] at hp
  refine Calls.mono hp ?_
  rintro e x11 ⟨rfl, F3, hA2, hf, hs⟩
  have hA2 : At x11 g F3 g s1 := hA2
  have q5 := r5.fr hf hm5
  have hn5 : ¬ F3 g5 := fun h => (hs _ h).elim hm5 (fun h => by have := r5.lt; omega)
  have hB := hB'.trans (hf.below hB'.size fun k hk => Nat.le_trans hgb (hA.lt hk).1)
  clear hp hA hf hs hB' r5 hm5
  have hbx := (Below.refl x11.heap.size x11).alloc (Nat.le_refl _) (.cells #[.int .u64 1, .int .u64 0, .int .u8 0] 24)
  have q13 := Blk.new_ x11 24 #[.int .u64 1, .int .u64 0, .int .u8 0] rfl
  have r5 := q5.below hbx q5.lt
  have hB' := hB.trans (hbx.mono hB.size)
  have hA := hA2.below hbx
  have hm13 : ¬ F3 x11.heap.size := fun h => by have := (hA2.lt h).2; omega
  clear hbx hB q5 hA2
  go_upto_region 10 with fail
  generalize x11.alloc (.cells #[.int .u64 1, .int .u64 0, .int .u8 0] 24) = x12 at *
  generalize x11.heap.size = g13 at *
  go_wp2_with fail
  have hp := load_any hA
  rw [l1] at hp
  simp only [hv] at hp
  refine Calls.mono hp ?_
  rintro e x13 ⟨rfl, F4, hA2, hf, hs⟩
  have q5 := r5.fr hf hn5
  have r13 := q13.fr hf hm13
  have hB := hB'.trans (hf.below hB'.size fun k hk => Nat.le_trans hgb (hA.lt hk).1)
  clear hp hA hf hs hB' r5 hn5 hA2 hm13 q13
  have hbx := (Below.refl x13.heap.size x13).alloc (Nat.le_refl _) (.cells #[.int .u64 1, .int .u64 0, .int .u8 0] 24)
  have q15 := Blk.new_ x13 24 #[.int .u64 1, .int .u64 0, .int .u8 0] rfl
  have r5 := q5.below hbx q5.lt
  have q13 := r13.below hbx r13.lt
  have hB' := hB.trans (hbx.mono hB.size)
  clear hbx hB q5 r13
  go_upto_region 11 with fail
  generalize x13.alloc (.cells #[.int .u64 1, .int .u64 0, .int .u8 0] 24) = x14 at *
  generalize x13.heap.size = g15 at *
  have f50 := Blk.at_ r5 0 (v := .int .u64 3) rfl
  have f130 := Blk.at_ q13 0 (v := .int .u64 1) rfl
  have f131 := Blk.at_ q13 1 (v := .int .u64 0) rfl
  have f132 := Blk.at_ q13 2 (v := .int .u8 0) rfl
  have f150 := Blk.at_ q15 0 (v := .int .u64 1) rfl
  have f151 := Blk.at_ q15 1 (v := .int .u64 0) rfl
  have f152 := Blk.at_ q15 2 (v := .int .u8 0) rfl
  go_wp2_with fail
  go_ret
  exact ⟨rfl, hB'⟩
end Go.Proofs.Ytpohefpiidlnjaa.HdW
