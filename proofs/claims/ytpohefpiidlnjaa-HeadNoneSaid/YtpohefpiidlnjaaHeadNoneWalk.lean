/-
  The walk of HeadNone.
-/
import Derived.Test.YtpohefpiidlnjaaHeadAwake
namespace Go.Proofs.Ytpohefpiidlnjaa.HdW
set_option linter.unusedVariables false
open Go Go.RowKit Go.Shelf Go.Proofs Go.Proofs.Ytpohefpiidlnjaa Go.Proofs.Ytpohefpiidlnjaa.Wd Go.Proofs.Ytpohefpiidlnjaa.Dk Go.Proofs.Ytpohefpiidlnjaa.Hd

set_option maxRecDepth 100000 in
theorem zero_disk2 : ∃ z : Array Value, z[0]? = some (.bool false) ∧ ∀ w, (zeroValue 57).run Try.prog w = .ok (.agg z) w := by
  refine ⟨_, ?_, zero_disk⟩
  rfl
theorem saveR_dead {s : DS} {h : H} (hd : s.dead = true) (r : right h = true) : saveR s h = ((none_, 3), s) := by
  unfold saveR
  rw [if_neg (by rw [r]; simp), show wrD s (h.serial % 2 : Nat) (Hd.bytes h) = (3, s) by unfold wrD; rw [if_pos hd]]
  rfl
theorem loadR_dead {s : DS} (hd : s.dead = true) : loadR s = (none_, 3) := by unfold loadR; rw [if_pos hd]
def nd1 : DS := newD 5
def nd2 : DS := fuseD 0 0 nd1
def nd3 : DS := (shD nd2).2
theorem nd3_dead : nd3.dead = true := by decide
theorem nd_save : saveR nd1 ⟨0, 0, 0⟩ = ((none_, 50), nd1) := rfl
theorem nd_load : loadR nd1 = (none_, 50) := by decide +kernel
set_option maxRecDepth 100000 in
set_option maxHeartbeats 2000000 in
theorem none_walk (a0 e l0 : Nat) (wf : Wf ⟨a0, e, l0⟩) (w : World) :
    Calls Try.prog 6 #[.agg #[.int .u64 (a0 : Nat), .int .u64 (e : Nat), .int .u8 (l0 : Nat)]] w fun en w' => en = .returned (.bool true) ∧ Below w.heap.size w w' := by
  obtain ⟨a, ha⟩ : ∃ a, a = a0 % 1000 := ⟨_, rfl⟩
  obtain ⟨l, hl⟩ : ∃ l, l = l0 % 2 := ⟨_, rfl⟩
  obtain ⟨ws0, we, wl0⟩ : a0 < 18446744073709551616 ∧ e < 18446744073709551616 ∧ l0 < 256 := ⟨wf.serial, wf.epoch, wf.live⟩
  have t1 : (a0 : Int).tmod 1000 = (a : Int) := by rw [Int.tmod_eq_emod_of_nonneg (Int.natCast_nonneg _)]; omega
  have t2 : (l0 : Int).tmod 2 = (l : Int) := by rw [Int.tmod_eq_emod_of_nonneg (Int.natCast_nonneg _)]; omega
  have y1 : IntKind.u64.wrap (a : Int) = (a : Int) := by rw [IntKind.wrap_u64]; omega
  have y2 : IntKind.u8.wrap (l : Int) = (l : Int) := by rw [IntKind.wrap_u8]; omega
  have wa : a < 18446744073709551616 := by omega
  have wl : l < 256 := by omega
  obtain ⟨k, hk⟩ : ∃ k, k = (a + 1) % 18446744073709551616 := ⟨_, rfl⟩
  have hr : right ⟨k, e, l⟩ = true := by
    unfold right
    have h1 : 0 < k := by omega
    have h2 : l < 2 := by omega
    simp [h1, h2]
  have HKK := Lib.hid hk
  have q1 := Blk.new_ w 24 #[.int .u64 (a : Nat), .int .u64 (e : Nat), .int .u8 (l : Nat)] rfl
  have hB := (Below.refl w.heap.size w).alloc (Nat.le_refl _) (.cells #[.int .u64 (a : Nat), .int .u64 (e : Nat), .int .u8 (l : Nat)] 24)
  clear ha hl wf ws0 wl0 hk
  go_enter Try.func6, Try.ntmps6
  go_upto_region 2 with fail
  clear t1 t2 y1 y2
  generalize w.alloc (.cells #[.int .u64 (a : Nat), .int .u64 (e : Nat), .int .u8 (l : Nat)] 24) = w1 at *
  obtain ⟨g1, hg1⟩ : ∃ g, g = w.heap.size := ⟨_, rfl⟩
  rw [← hg1] at q1 ⊢
  have hg1b : w.heap.size ≤ g1 := by omega
  clear hg1
  go_wp2_with fail
  refine Calls.mono (new_any 5 (by decide) w1) ?_
  rintro en w2 ⟨rfl, hA, hb⟩
  obtain ⟨F, hFF⟩ : ∃ F : Nat → Prop, F = (fun j => j = w1.heap.size) := ⟨_, rfl⟩
  obtain ⟨gd, hgd⟩ : ∃ g, g = w1.heap.size := ⟨_, rfl⟩
  have n1 : ¬ F g1 := fun h => by rw [hFF] at h; exact Nat.lt_irrefl _ (h ▸ q1.lt)
  rw [← hFF, ← hgd] at hA
  rw [← hgd]
  have hgb : w.heap.size ≤ gd := by rw [hgd]; exact hB.size
  have q1' := q1.below hb q1.lt
  have hB' := hB.trans (hb.mono hB.size)
  have hA : At w2 gd F gd nd1 := hA
  clear hFF hgd hb hB q1
  go_wp2_with fail
  refine Calls.mono (fuse_any hA 0 0 (by decide) (by decide)) ?_
  rintro en w3 ⟨⟨v2, rfl⟩, F3, hA3, hfr, hF3⟩
  have q1 := q1'.fr hfr n1
  have n13 : ¬ F3 g1 := fun h => (hF3 _ h).elim n1 (fun h => by have := q1'.lt; omega)
  have hB := hB'.trans (hfr.below hB'.size fun k hk => Nat.le_trans hgb (hA.lt hk).1)
  have hA3 : At w3 gd F3 gd nd2 := hA3
  clear hA hfr hF3 n1 q1' hB'
  go_wp2_with fail
  refine Calls.mono (syncHead_any hA3) ?_
  rintro en w4 ⟨rfl, F4, hA4, hfr, hF4⟩
  have q1' := q1.fr hfr n13
  have n1 : ¬ F4 g1 := fun h => (hF4 _ h).elim n13 (fun h => by have := q1.lt; omega)
  have hB' := hB.trans (hfr.below hB.size fun k hk => Nat.le_trans hgb (hA3.lt hk).1)
  have hA4 : At w4 gd F4 gd nd3 := hA4
  clear hA3 hfr hF4 n13 q1 hB
  obtain ⟨z, hz0, hz⟩ := zero_disk2
  have hbx := ((Below.refl w4.heap.size w4).alloc (Nat.le_refl _) (.cells z 57)).alloc (by simp) (.cells #[.pointer none, .pointer (some ⟨w4.heap.size, 0, none⟩), .pointer (some ⟨gd, 0, none⟩)] 38)
  have qz := (Blk.new_ w4 57 z rfl).alloc (.cells #[.pointer none, .pointer (some ⟨w4.heap.size, 0, none⟩), .pointer (some ⟨gd, 0, none⟩)] 38)
  have q39 := Blk.new_ (w4.alloc (.cells z 57)) 38 #[.pointer none, .pointer (some ⟨w4.heap.size, 0, none⟩), .pointer (some ⟨gd, 0, none⟩)] (n := w4.heap.size + 1) (by simp)
  have q1 := q1'.below hbx q1'.lt
  have hA := hA4.below hbx
  have hB := hB'.trans (hbx.mono hB'.size)
  have nz : ¬ F4 w4.heap.size := fun h => by have := (hA4.lt h).2; omega
  have n39 : ¬ F4 (w4.heap.size + 1) := fun h => by have := (hA4.lt h).2; omega
  clear q1' hB' hA4 hbx
  go_wp2_with fail
  generalize (w4.alloc (.cells z 57)).alloc (.cells #[.pointer none, .pointer (some ⟨w4.heap.size, 0, none⟩), .pointer (some ⟨gd, 0, none⟩)] 38) = w5 at *
  have cz := Blk.at_ qz 0 hz0
  have ltz := qz.lt
  clear hz hz0 qz
  generalize w4.heap.size + 1 = g39 at *
  generalize w4.heap.size = gz at *
  go_loopw [41] (fun ix wr => ∃ (i : Nat) (F : Nat → Prop), (i = 0 ∧ ix = .int .i64 0 ∨ i = 1 ∧ ix = .int .i64 1 ∨ i = 2 ∧ ix = .int .i64 2 ∨ i = 3 ∧ ix = .int .i64 3) ∧ At wr gd F gd nd3 ∧ ¬ F g1 ∧ ¬ F gz ∧ ¬ F g39 ∧ Blk wr g1 24 #[.int .u64 (a : Nat), .int .u64 (e : Nat), .int .u8 (l : Nat)] ∧ Blk wr g39 38 #[.pointer none, .pointer (some ⟨gz, 0, none⟩), .pointer (some ⟨gd, 0, none⟩)] ∧ wr.cell? ⟨gz, 0, none⟩ = some (.bool false) ∧ gz < wr.heap.size ∧ Below w.heap.size w wr) (fun ix _ => 3 - (intOf ix).toNat)
  case atStart => exact ⟨0, F4, .inl ⟨rfl, rfl⟩, hA, n1, nz, n39, q1, q39, cz, ltz, hB⟩
  case round =>
    clear q1 q39 cz hB hA nz n39 n1 ltz
    obtain ⟨i, F, hi, hA, n1, nz, n39, q1, q39, cz, ltz, hB⟩ := hrel
    have hk := HKK.out
    rcases hi with ⟨rfl, rfl⟩ | ⟨rfl, rfl⟩ | ⟨rfl, rfl⟩ | ⟨rfl, rfl⟩
    · have f0 := Blk.at_ q1 0 (v := .int .u64 (a : Nat)) rfl
      have f1 := Blk.at_ q1 1 (v := .int .u64 (e : Nat)) rfl
      have f2 := Blk.at_ q1 2 (v := .int .u8 (l : Nat)) rfl
      have c39 := Blk.at_ q39 0 (v := .pointer none) rfl
      have i1 : (0 : Int) ≤ 0 := by omega
      have i2 : (0 : Int) < 3 := by omega
      have hN : Non wr none := .inl rfl
      have hS := save_non hN a e l k hk wa we wl
      rw [hr, if_pos rfl] at hS
      simp only [hv, none_] at hS
      go_wp2_with fail
      refine Calls.mono hS ?_
      clear f0 f1 f2 c39 i1 i2 hS
      rintro en y1 ⟨rfl, hb⟩
      have hN1 := hN.below hb
      have q1' := q1.below hb q1.lt
      have q39' := q39.below hb q39.lt
      have cz' := (hb.cell (p := ⟨gz, 0, none⟩) ltz).trans cz
      have ltz' := Nat.lt_of_lt_of_le ltz hb.size
      have hA' := hA.below hb
      have hB' := hB.trans (hb.mono hB.size)
      clear q1 q39 cz hA hB ltz hb
      have q1 := q1'
      have q39 := q39'
      have cz := cz'
      have hA := hA'
      have hB := hB'
      have ltz := ltz'
      clear q1' q39' cz' hA' hB' ltz'
      have q8 := Blk.new_ y1 24 #[.int .u64 0, .int .u64 0, .int .u8 0] rfl
      have hb := (Below.refl y1.heap.size y1).alloc (Nat.le_refl _) (.cells #[.int .u64 0, .int .u64 0, .int .u8 0] 24)
      have q1' := q1.below hb q1.lt
      have q39' := q39.below hb q39.lt
      have cz' := (hb.cell (p := ⟨gz, 0, none⟩) ltz).trans cz
      have ltz' := Nat.lt_of_lt_of_le ltz hb.size
      have hA' := hA.below hb
      have hB' := hB.trans (hb.mono hB.size)
      clear q1 q39 cz hA hB ltz hb
      have q1 := q1'
      have q39 := q39'
      have cz := cz'
      have hA := hA'
      have hB := hB'
      have ltz := ltz'
      clear q1' q39' cz' hA' hB' ltz'
      have hN := hN1.below ((Below.refl y1.heap.size y1).alloc (Nat.le_refl _) (.cells #[.int .u64 0, .int .u64 0, .int .u8 0] 24))
      clear hN1
      go_upto_region 14 with fail
      generalize y1.alloc (.cells #[.int .u64 0, .int .u64 0, .int .u8 0] 24) = y2 at *
      generalize y1.heap.size = g8 at *
      have hL := load_non hN
      simp only [hv, none_] at hL
      go_wp2_with fail
      refine Calls.mono hL ?_
      rintro en y3 ⟨rfl, hb⟩
      have q8' := q8.below hb q8.lt
      have q1' := q1.below hb q1.lt
      have q39' := q39.below hb q39.lt
      have cz' := (hb.cell (p := ⟨gz, 0, none⟩) ltz).trans cz
      have ltz' := Nat.lt_of_lt_of_le ltz hb.size
      have hA' := hA.below hb
      have hB' := hB.trans (hb.mono hB.size)
      clear q1 q39 cz hA hB ltz hb
      have q1 := q1'
      have q39 := q39'
      have cz := cz'
      have hA := hA'
      have hB := hB'
      have ltz := ltz'
      clear q1' q39' cz' hA' hB' ltz'
      clear q8 hL hN
      have q8'' := q8'.below ((Below.refl y3.heap.size y3).alloc (Nat.le_refl _) (.cells #[.int .u64 0, .int .u64 0, .int .u8 0] 24)) q8'.lt
      have q10 := Blk.new_ y3 24 #[.int .u64 0, .int .u64 0, .int .u8 0] rfl
      have hb := (Below.refl y3.heap.size y3).alloc (Nat.le_refl _) (.cells #[.int .u64 0, .int .u64 0, .int .u8 0] 24)
      have q1' := q1.below hb q1.lt
      have q39' := q39.below hb q39.lt
      have cz' := (hb.cell (p := ⟨gz, 0, none⟩) ltz).trans cz
      have ltz' := Nat.lt_of_lt_of_le ltz hb.size
      have hA' := hA.below hb
      have hB' := hB.trans (hb.mono hB.size)
      clear q1 q39 cz hA hB ltz hb
      have q1 := q1'
      have q39 := q39'
      have cz := cz'
      have hA := hA'
      have hB := hB'
      have ltz := ltz'
      clear q1' q39' cz' hA' hB' ltz'
      go_upto_region 15 with fail
      generalize y3.alloc (.cells #[.int .u64 0, .int .u64 0, .int .u8 0] 24) = y4 at *
      generalize y3.heap.size = g10 at *
      have z0 := Blk.at_ q8'' 0 (v := .int .u64 0) rfl
      have z1 := Blk.at_ q8'' 1 (v := .int .u64 0) rfl
      have z2 := Blk.at_ q8'' 2 (v := .int .u8 0) rfl
      have x0 := Blk.at_ q10 0 (v := .int .u64 0) rfl
      have x1 := Blk.at_ q10 1 (v := .int .u64 0) rfl
      have x2 := Blk.at_ q10 2 (v := .int .u8 0) rfl
      go_wp2_with fail
      go_roundw
      case rel => exact ⟨1, F, (.inr (.inl ⟨rfl, by go_num⟩)), hA, n1, nz, n39, q1, q39, cz, ltz, hB⟩
      case measure => simp [intOf]
    · have f0 := Blk.at_ q1 0 (v := .int .u64 (a : Nat)) rfl
      have f1 := Blk.at_ q1 1 (v := .int .u64 (e : Nat)) rfl
      have f2 := Blk.at_ q1 2 (v := .int .u8 (l : Nat)) rfl
      have c39 := Blk.at_ q39 1 (v := .pointer (some ⟨gz, 0, none⟩)) rfl
      have i1 : (0 : Int) ≤ 1 := by omega
      have i2 : (1 : Int) < 3 := by omega
      have hN : Non wr (some ⟨gz, 0, none⟩) := .inr ⟨_, rfl, cz⟩
      have hS := save_non hN a e l k hk wa we wl
      rw [hr, if_pos rfl] at hS
      simp only [hv, none_] at hS
      go_wp2_with fail
      refine Calls.mono hS ?_
      clear f0 f1 f2 c39 i1 i2 hS
      rintro en y1 ⟨rfl, hb⟩
      have hN1 := hN.below hb
      have q1' := q1.below hb q1.lt
      have q39' := q39.below hb q39.lt
      have cz' := (hb.cell (p := ⟨gz, 0, none⟩) ltz).trans cz
      have ltz' := Nat.lt_of_lt_of_le ltz hb.size
      have hA' := hA.below hb
      have hB' := hB.trans (hb.mono hB.size)
      clear q1 q39 cz hA hB ltz hb
      have q1 := q1'
      have q39 := q39'
      have cz := cz'
      have hA := hA'
      have hB := hB'
      have ltz := ltz'
      clear q1' q39' cz' hA' hB' ltz'
      have q8 := Blk.new_ y1 24 #[.int .u64 0, .int .u64 0, .int .u8 0] rfl
      have hb := (Below.refl y1.heap.size y1).alloc (Nat.le_refl _) (.cells #[.int .u64 0, .int .u64 0, .int .u8 0] 24)
      have q1' := q1.below hb q1.lt
      have q39' := q39.below hb q39.lt
      have cz' := (hb.cell (p := ⟨gz, 0, none⟩) ltz).trans cz
      have ltz' := Nat.lt_of_lt_of_le ltz hb.size
      have hA' := hA.below hb
      have hB' := hB.trans (hb.mono hB.size)
      clear q1 q39 cz hA hB ltz hb
      have q1 := q1'
      have q39 := q39'
      have cz := cz'
      have hA := hA'
      have hB := hB'
      have ltz := ltz'
      clear q1' q39' cz' hA' hB' ltz'
      have hN := hN1.below ((Below.refl y1.heap.size y1).alloc (Nat.le_refl _) (.cells #[.int .u64 0, .int .u64 0, .int .u8 0] 24))
      clear hN1
      go_upto_region 14 with fail
      generalize y1.alloc (.cells #[.int .u64 0, .int .u64 0, .int .u8 0] 24) = y2 at *
      generalize y1.heap.size = g8 at *
      have hL := load_non hN
      simp only [hv, none_] at hL
      go_wp2_with fail
      refine Calls.mono hL ?_
      rintro en y3 ⟨rfl, hb⟩
      have q8' := q8.below hb q8.lt
      have q1' := q1.below hb q1.lt
      have q39' := q39.below hb q39.lt
      have cz' := (hb.cell (p := ⟨gz, 0, none⟩) ltz).trans cz
      have ltz' := Nat.lt_of_lt_of_le ltz hb.size
      have hA' := hA.below hb
      have hB' := hB.trans (hb.mono hB.size)
      clear q1 q39 cz hA hB ltz hb
      have q1 := q1'
      have q39 := q39'
      have cz := cz'
      have hA := hA'
      have hB := hB'
      have ltz := ltz'
      clear q1' q39' cz' hA' hB' ltz'
      clear q8 hL hN
      have q8'' := q8'.below ((Below.refl y3.heap.size y3).alloc (Nat.le_refl _) (.cells #[.int .u64 0, .int .u64 0, .int .u8 0] 24)) q8'.lt
      have q10 := Blk.new_ y3 24 #[.int .u64 0, .int .u64 0, .int .u8 0] rfl
      have hb := (Below.refl y3.heap.size y3).alloc (Nat.le_refl _) (.cells #[.int .u64 0, .int .u64 0, .int .u8 0] 24)
      have q1' := q1.below hb q1.lt
      have q39' := q39.below hb q39.lt
      have cz' := (hb.cell (p := ⟨gz, 0, none⟩) ltz).trans cz
      have ltz' := Nat.lt_of_lt_of_le ltz hb.size
      have hA' := hA.below hb
      have hB' := hB.trans (hb.mono hB.size)
      clear q1 q39 cz hA hB ltz hb
      have q1 := q1'
      have q39 := q39'
      have cz := cz'
      have hA := hA'
      have hB := hB'
      have ltz := ltz'
      clear q1' q39' cz' hA' hB' ltz'
      go_upto_region 15 with fail
      generalize y3.alloc (.cells #[.int .u64 0, .int .u64 0, .int .u8 0] 24) = y4 at *
      generalize y3.heap.size = g10 at *
      have z0 := Blk.at_ q8'' 0 (v := .int .u64 0) rfl
      have z1 := Blk.at_ q8'' 1 (v := .int .u64 0) rfl
      have z2 := Blk.at_ q8'' 2 (v := .int .u8 0) rfl
      have x0 := Blk.at_ q10 0 (v := .int .u64 0) rfl
      have x1 := Blk.at_ q10 1 (v := .int .u64 0) rfl
      have x2 := Blk.at_ q10 2 (v := .int .u8 0) rfl
      go_wp2_with fail
      go_roundw
      case rel => exact ⟨2, F, (.inr (.inr (.inl ⟨rfl, by go_num⟩))), hA, n1, nz, n39, q1, q39, cz, ltz, hB⟩
      case measure => simp [intOf]
    · have f0 := Blk.at_ q1 0 (v := .int .u64 (a : Nat)) rfl
      have f1 := Blk.at_ q1 1 (v := .int .u64 (e : Nat)) rfl
      have f2 := Blk.at_ q1 2 (v := .int .u8 (l : Nat)) rfl
      have c39 := Blk.at_ q39 2 (v := .pointer (some ⟨gd, 0, none⟩)) rfl
      have i1 : (0 : Int) ≤ 2 := by omega
      have i2 : (2 : Int) < 3 := by omega
      have hS := save_any hA a e l k hk wa we wl
      rw [saveR_dead nd3_dead hr] at hS
      simp only [hv, none_] at hS
      go_wp2_with fail
      refine Calls.mono hS ?_
      clear f0 f1 f2 c39 i1 i2 hS
      rintro en y1 ⟨rfl, F9, hA9, hfr, hF9⟩
      have q1' := q1.fr hfr n1
      have q39' := q39.fr hfr n39
      have cz' := (World.cell?_of_block (a := ⟨gz, 0, none⟩) (hfr.block gz ltz nz)).trans cz
      have ltz' := Nat.lt_of_lt_of_le ltz hfr.size
      have m1 : ¬ F9 g1 := fun h => (hF9 _ h).elim n1 (fun h => by have := q1.lt; omega)
      have m39 : ¬ F9 g39 := fun h => (hF9 _ h).elim n39 (fun h => by have := q39.lt; omega)
      have mz : ¬ F9 gz := fun h => (hF9 _ h).elim nz (fun h => by omega)
      have hA' := hA9
      have hB' := hB.trans (hfr.below hB.size fun k hk => Nat.le_trans hgb (hA.lt hk).1)
      clear q1 q39 cz hA hB ltz hfr hF9 n1 n39 nz hA9
      have q1 := q1'
      have q39 := q39'
      have cz := cz'
      have hA : At y1 gd F9 gd nd3 := hA'
      have hB := hB'
      have ltz := ltz'
      have n1 := m1
      have n39 := m39
      have nz := mz
      clear q1' q39' cz' hA' hB' ltz' m1 m39 mz
      have hAy := hA
      have q8 := Blk.new_ y1 24 #[.int .u64 0, .int .u64 0, .int .u8 0] rfl
      have hb := (Below.refl y1.heap.size y1).alloc (Nat.le_refl _) (.cells #[.int .u64 0, .int .u64 0, .int .u8 0] 24)
      have q1' := q1.below hb q1.lt
      have q39' := q39.below hb q39.lt
      have cz' := (hb.cell (p := ⟨gz, 0, none⟩) ltz).trans cz
      have ltz' := Nat.lt_of_lt_of_le ltz hb.size
      have hA' := hA.below hb
      have hB' := hB.trans (hb.mono hB.size)
      clear q1 q39 cz hA hB ltz hb
      have q1 := q1'
      have q39 := q39'
      have cz := cz'
      have hA := hA'
      have hB := hB'
      have ltz := ltz'
      clear q1' q39' cz' hA' hB' ltz'
      have n8a : ¬ F9 y1.heap.size := fun h => by have := (hAy.lt h).2; omega
      clear hAy
      go_upto_region 14 with fail
      generalize y1.alloc (.cells #[.int .u64 0, .int .u64 0, .int .u8 0] 24) = y2 at *
      generalize y1.heap.size = g8 at *
      have hL := load_any hA
      rw [loadR_dead nd3_dead] at hL
      simp only [hv, none_] at hL
      have n8 : ¬ F9 g8 := fun h => n8a h
      go_wp2_with fail
      refine Calls.mono hL ?_
      rintro en y3 ⟨rfl, F8, hA8, hfr, hF8⟩
      have q1' := q1.fr hfr n1
      have q39' := q39.fr hfr n39
      have cz' := (World.cell?_of_block (a := ⟨gz, 0, none⟩) (hfr.block gz ltz nz)).trans cz
      have ltz' := Nat.lt_of_lt_of_le ltz hfr.size
      have m1 : ¬ F8 g1 := fun h => (hF8 _ h).elim n1 (fun h => by have := q1.lt; omega)
      have m39 : ¬ F8 g39 := fun h => (hF8 _ h).elim n39 (fun h => by have := q39.lt; omega)
      have mz : ¬ F8 gz := fun h => (hF8 _ h).elim nz (fun h => by omega)
      have q8' := q8.fr hfr n8
      have hA' := hA8
      have hB' := hB.trans (hfr.below hB.size fun k hk => Nat.le_trans hgb (hA.lt hk).1)
      clear q1 q39 cz hA hB ltz hfr hF8 n1 n39 nz hA8
      have q1 := q1'
      have q39 := q39'
      have cz := cz'
      have hA : At y3 gd F8 gd nd3 := hA'
      have hB := hB'
      have ltz := ltz'
      have n1 := m1
      have n39 := m39
      have nz := mz
      clear q1' q39' cz' hA' hB' ltz' m1 m39 mz
      clear q8 hL n8 n8a
      have q8'' := q8'.below ((Below.refl y3.heap.size y3).alloc (Nat.le_refl _) (.cells #[.int .u64 0, .int .u64 0, .int .u8 0] 24)) q8'.lt
      have q10 := Blk.new_ y3 24 #[.int .u64 0, .int .u64 0, .int .u8 0] rfl
      have hb := (Below.refl y3.heap.size y3).alloc (Nat.le_refl _) (.cells #[.int .u64 0, .int .u64 0, .int .u8 0] 24)
      have q1' := q1.below hb q1.lt
      have q39' := q39.below hb q39.lt
      have cz' := (hb.cell (p := ⟨gz, 0, none⟩) ltz).trans cz
      have ltz' := Nat.lt_of_lt_of_le ltz hb.size
      have hA' := hA.below hb
      have hB' := hB.trans (hb.mono hB.size)
      clear q1 q39 cz hA hB ltz hb
      have q1 := q1'
      have q39 := q39'
      have cz := cz'
      have hA := hA'
      have hB := hB'
      have ltz := ltz'
      clear q1' q39' cz' hA' hB' ltz'
      go_upto_region 15 with fail
      generalize y3.alloc (.cells #[.int .u64 0, .int .u64 0, .int .u8 0] 24) = y4 at *
      generalize y3.heap.size = g10 at *
      have z0 := Blk.at_ q8'' 0 (v := .int .u64 0) rfl
      have z1 := Blk.at_ q8'' 1 (v := .int .u64 0) rfl
      have z2 := Blk.at_ q8'' 2 (v := .int .u8 0) rfl
      have x0 := Blk.at_ q10 0 (v := .int .u64 0) rfl
      have x1 := Blk.at_ q10 1 (v := .int .u64 0) rfl
      have x2 := Blk.at_ q10 2 (v := .int .u8 0) rfl
      go_wp2_with fail
      go_roundw
      case rel => exact ⟨3, F8, (.inr (.inr (.inr ⟨rfl, by go_num⟩))), hA, n1, nz, n39, q1, q39, cz, ltz, hB⟩
      case measure => simp [intOf]
    · clear q1 q39 cz hA nz n39 n1 ltz hk
      go_wp2_with fail
      refine Calls.mono (new_any 5 (by decide) wr) ?_
      rintro en x2 ⟨rfl, hA, hb⟩
      obtain ⟨F, hFF⟩ : ∃ F : Nat → Prop, F = (fun j => j = wr.heap.size) := ⟨_, rfl⟩
      obtain ⟨g, hg⟩ : ∃ g, g = wr.heap.size := ⟨_, rfl⟩
      rw [← hFF, ← hg] at hA
      rw [← hg]
      have hgb : w.heap.size ≤ g := by rw [hg]; exact hB.size
      have hB2 := hB.trans (hb.mono hB.size)
      have hA : At x2 g F g nd1 := hA
      clear hFF hg hb hB
      have hS := save_any hA 18446744073709551615 0 0 0 (by decide) (by decide) (by decide) (by decide)
      rw [nd_save] at hS
      simp only [hv, none_] at hS
      go_wp2_with fail
      refine Calls.mono hS ?_
      rintro en x3 ⟨rfl, F3, hA3, hfr, hF3⟩
      have hB3 := hB2.trans (hfr.below hB2.size fun k hk => Nat.le_trans hgb (hA.lt hk).1)
      have hA3 : At x3 g F3 g nd1 := hA3
      have hb := (Below.refl x3.heap.size x3).alloc (Nat.le_refl _) (.cells #[.int .u64 0, .int .u64 0, .int .u8 0] 24)
      have hA4 := hA3.below hb
      have hB4 := hB3.trans (hb.mono hB3.size)
      clear hA hfr hF3 hB2 hB3 hA3 hb hS
      go_upto_region 20 with fail
      generalize x3.alloc (.cells #[.int .u64 0, .int .u64 0, .int .u8 0] 24) = x4 at *
      have hL := load_any hA4
      rw [nd_load] at hL
      simp only [hv, none_] at hL
      go_wp2_with fail
      refine Calls.mono hL ?_
      rintro en x5 ⟨rfl, F5, hA5, hfr, hF5⟩
      have hB5 := hB4.trans (hfr.below hB4.size fun k hk => Nat.le_trans hgb (hA4.lt hk).1)
      have hb := (Below.refl x5.heap.size x5).alloc (Nat.le_refl _) (.cells #[.int .u64 0, .int .u64 0, .int .u8 0] 24)
      have hB6 := hB5.trans (hb.mono hB5.size)
      clear hB4 hB5 hb hL hA4 hfr hF5 hA5
      go_upto_region 21 with fail
      generalize x5.alloc (.cells #[.int .u64 0, .int .u64 0, .int .u8 0] 24) = x6 at *
      go_wp2_with fail
      refine Calls.mono (awake_any x6) ?_
      rintro en wz ⟨rfl, hb⟩
      have hB7 := hB6.trans (hb.mono hB6.size)
      go_wp2_with fail
      go_ret
      exact ⟨rfl, hB7⟩
end Go.Proofs.Ytpohefpiidlnjaa.HdW
