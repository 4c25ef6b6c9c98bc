/-
  The walk of DiskSlots.
-/
import Derived.Test.YtgajgjijnpigoaaDiskMore
namespace Go.Proofs.Ytgajgjijnpigoaa.Dk
set_option linter.unusedVariables false
open Go Go.RowKit Go.Shelf Go.Proofs Go.Proofs.Ytgajgjijnpigoaa Go.Proofs.Ytgajgjijnpigoaa.Wd

theorem made_bytes (n : Nat) : madeCells #[Value.int .u8 0] n = (bs (List.replicate n 0)).toArray := by
  apply Array.ext
  · simp [madeCells, bs]
  · intro i h1 h2
    simp [madeCells, bs, Nat.mod_one]
set_option maxRecDepth 100000 in
set_option maxHeartbeats 4000000 in
theorem slots_walk (a b : List UInt8) (ha : a.length = 32) (hb : b.length = 32) (slot : Nat) (hslot : slot < 256) (sync : Bool) (keep : Nat → Int) (hkp : ∀ i, i < 4 → -9223372036854775808 ≤ keep i ∧ keep i ≤ 9223372036854775807) (w : World) :
    Calls Try.prog 6 #[.agg (bs a).toArray, .agg (bs b).toArray, .int .u8 slot, .bool sync, .agg #[.int .i64 (keep 0), .int .i64 (keep 1), .int .i64 (keep 2), .int .i64 (keep 3)]] w fun e w' => e = .returned (.bool true) ∧ Below w.heap.size w w' := by
  have HKP := Lib.hid hkp
  obtain ⟨k, hk⟩ : ∃ k, k = slot % 2 := ⟨_, rfl⟩
  have hk2 : k < 2 := by omega
  obtain ⟨s1, s2, s3, s4, s5, c1, r1, c2, c3, r3, c4, c4', c5, c6, h5, r5, r6, r7⟩ := slots_law hk2 ha hb sync keep
  have C1 := Lib.hid c1
  have R1 := Lib.hid r1
  have C2 := Lib.hid c2
  have C3 := Lib.hid c3
  have R3 := Lib.hid r3
  have C4 := Lib.hid c4
  have C4F := Lib.hid c4'
  have C5 := Lib.hid c5
  have C6 := Lib.hid c6
  have HS5 := Lib.hid h5
  have R5 := Lib.hid r5
  have R6 := Lib.hid r6
  have R7 := Lib.hid r7
  have hla : (bs a).length = 32 := by rw [bs_length, ha]
  have hlb : (bs b).length = 32 := by rw [bs_length, hb]
  obtain ⟨base, hbase⟩ : ∃ b, b = w.heap.size + 3 := ⟨_, rfl⟩
  have hKa := ((Blk.new_ w 45 (bs a).toArray rfl).alloc (.cells (bs b).toArray 45)).alloc (.cells #[.int .i64 (keep 0), .int .i64 (keep 1), .int .i64 (keep 2), .int .i64 (keep 3)] 24)
  have hKb := (Blk.new_ (w.alloc (.cells (bs a).toArray 45)) 45 (bs b).toArray (n := w.heap.size + 1) (by simp)).alloc (.cells #[.int .i64 (keep 0), .int .i64 (keep 1), .int .i64 (keep 2), .int .i64 (keep 3)] 24)
  have hKk := Blk.new_ ((w.alloc (.cells (bs a).toArray 45)).alloc (.cells (bs b).toArray 45)) 24 #[.int .i64 (keep 0), .int .i64 (keep 1), .int .i64 (keep 2), .int .i64 (keep 3)] (n := w.heap.size + 1 + 1) (by simp)
  have hB0 := (((Below.refl w.heap.size w).alloc (Nat.le_refl _) (.cells (bs a).toArray 45)).alloc (by simp) (.cells (bs b).toArray 45)).alloc (by simp; omega) (.cells #[.int .i64 (keep 0), .int .i64 (keep 1), .int .i64 (keep 2), .int .i64 (keep 3)] 24)
  have hsz : (((w.alloc (.cells (bs a).toArray 45)).alloc (.cells (bs b).toArray 45)).alloc (.cells #[.int .i64 (keep 0), .int .i64 (keep 1), .int .i64 (keep 2), .int .i64 (keep 3)] 24)).heap.size = base := by simp [hbase]
  have hbw : w.heap.size + 3 ≤ base := by omega
  have hslk : (slot : Int).tmod 2 = (k : Int) := by rw [Int.tmod_eq_emod_of_nonneg (Int.natCast_nonneg _)]; omega
  have hwk : IntKind.u8.wrap (k : Int) = (k : Int) := IntWalk.u8_in _ (by omega)
  have k0 : (0 : Int) ≤ (k : Int) := by omega
  have k1 : (k : Int) < 2 := by omega
  clear hbase hkp c1 r1 c2 c3 r3 c4 c4' c5 c6 h5 r5 r6 r7 hk
  go_enter Try.func6, Try.ntmps6
  go_upto_region 1 with fail
  generalize ((w.alloc (.cells (bs a).toArray 45)).alloc (.cells (bs b).toArray 45)).alloc (.cells #[.int .i64 (keep 0), .int .i64 (keep 1), .int .i64 (keep 2), .int .i64 (keep 3)] 24) = w2 at *
  have HIA : Hid (32 = a.length ∧ ∀ W, Below base w2 W → Bytes W base (some ⟨w.heap.size, 0, none⟩) a) := Lib.hid ⟨ha.symm, fun W hW => Bytes.blk (hKa.below hW (by omega)) (by omega) a rfl⟩
  have HIB : Hid (32 = b.length ∧ ∀ W, Below base w2 W → Bytes W base (some ⟨w.heap.size + 1, 0, none⟩) b) := Lib.hid ⟨hb.symm, fun W hW => Bytes.blk (hKb.below hW (by omega)) (by omega) b rfl⟩
  have HIC : Hid (31 = (b.take 31).length ∧ ∀ W, Below base w2 W → Bytes W base (some ⟨w.heap.size + 1, 0, none⟩) (b.take 31)) := Lib.hid ⟨by rw [List.length_take, hb]; rfl, fun W hW => (HIB.out.2 W hW).head 31⟩
  have HKK := Lib.hid hKk
  clear hKa hKb hKk
  go_wp2_with fail
  refine Calls.mono (new_any 0 (by decide) w2) ?_
  rintro e w0 ⟨rfl, hA, hB⟩
  rw [hsz] at hA hB
  obtain ⟨g, hg⟩ : ∃ g, g = w2.heap.size := ⟨_, rfl⟩
  obtain ⟨F0, hF0⟩ : ∃ F : Nat → Prop, F = (fun j => j = g) := ⟨_, rfl⟩
  have hA : At w0 base F0 g (newD 0) := by rw [hF0, hg, hsz]; exact hA
  rw [← hg]
  have hbz : base ≤ w0.heap.size := by rw [← hsz]; exact hB.size
  clear hg hF0
  go_upto_region 3 with fail
  clear hslk
  refine wp_region_heldG [] (fun _ _ => True) (by kernel_rfl) ?_
  change wpAnyG _ _ _ _ _ _ 37 _ _ (World.drew _)
  have hb := (Below.refl w0.heap.size w0).drew
  have hA3 := hA.below hb
  have hB3 := hB.trans (hb.mono (by have := hB.size; omega))
  clear hA hB hb
  have hA := hA3
  have hB := hB3
  clear hA3 hB3
  generalize w0.drew = u0 at *
  -- take0 take1 take2 take3G take4G take5G one6G take7G take8 take9 take10G take11G take13G one12G one14G take15G take16 take17 take18G one19G take20G take21 take22 take23G take24G take25G one26G take27G take28 take29 take30G take31G take33G one32G one34G take35G take36 done
  refine g_take (i := 0) rfl rfl (by kernel_rfl) (by kernel_rfl) (by kernel_rfl) (by kernel_rfl) (by kernel_rfl) (fun _ _ _ h => h) trivial (fun L W hL hW => by go_simp; rfl) ?_
  refine g_take (i := 1) rfl rfl (by kernel_rfl) (by kernel_rfl) (by kernel_rfl) (by kernel_rfl) (by kernel_rfl) (fun _ _ _ h => h) trivial (fun L W hL hW => by go_simp; rfl) ?_
  refine g_take (i := 2) rfl rfl (by kernel_rfl) (by kernel_rfl) (by kernel_rfl) (by kernel_rfl) (by kernel_rfl) (fun _ _ _ h => h) trivial (fun L W hL hW => by go_simp; rfl) ?_
  refine g_takeG (i := 3) rfl (by simp only [Region.wanted, yielded]; go_simp) (by kernel_rfl) (by kernel_rfl) (by kernel_rfl) (by kernel_rfl) (by kernel_rfl) (fun _ _ _ h => h) trivial (fun L W hL hW => by go_simp; rfl) ?_
  refine g_takeG (i := 4) rfl (by simp only [Region.wanted, yielded]; go_simp) (by kernel_rfl) (by kernel_rfl) (by kernel_rfl) (by kernel_rfl) (by kernel_rfl) (fun _ _ _ h => h) trivial (fun L W hL hW => by go_simp; rfl) ?_
  refine g_takeG (i := 5) rfl (by simp only [Region.wanted, yielded]; go_simp) (by kernel_rfl) (by kernel_rfl) (by kernel_rfl) (by kernel_rfl) (by kernel_rfl) (fun _ _ _ h => h) trivial (fun L W hL hW => by go_simp; rfl) ?_
  refine g_one (i := 6) rfl (by simp only [Region.wanted, yielded]; go_simp) (by kernel_rfl) fun K hK => ?_
  go_simp
  refine Calls.mono (write_any hA (k : Int) (n := 32) (c := 32) (b := a) HIA.out.1 ((HIA.out.2 _ hB).more (by have := hB.size; omega)) (of_args (HIA.out.2 _ hB) hA (by omega))) ?_
  rintro e y1 ⟨rfl, F1, hA3, hfr, hF⟩
  rw [C1.out] at hA3
  rw [C1.out]
  have hB3 := hB.trans (hfr.below (by have := hB.size; omega) fun k hk => (hA.lt hk).1)
  clear hA hB hfr hF
  have hA := hA3
  have hB := hB3
  clear hA3 hB3
  refine hK _ _ trivial ?_
  clear hK K
  refine g_takeG (i := 7) rfl (by simp only [Region.wanted, yielded]; go_simp) (by kernel_rfl) (by kernel_rfl) (by kernel_rfl) (by kernel_rfl) (by kernel_rfl) (fun _ _ _ h => h) trivial (fun L W hL hW => by go_simp; rfl) ?_
  refine g_take (i := 8) rfl rfl (by kernel_rfl) (by kernel_rfl) (by kernel_rfl) (by kernel_rfl) (by kernel_rfl) (fun _ _ _ h => h) trivial (fun L W hL hW => by go_simp; rfl) ?_
  refine g_take (i := 9) rfl rfl (by kernel_rfl) (by kernel_rfl) (by kernel_rfl) (by kernel_rfl) (by kernel_rfl) (fun _ _ _ h => h) trivial (fun L W hL hW => by go_simp; rfl) ?_
  refine g_takeG (i := 10) rfl (by simp only [Region.wanted, yielded]; go_simp) (by kernel_rfl) (by kernel_rfl) (by kernel_rfl) (by kernel_rfl) (by kernel_rfl) (fun _ _ _ h => h) trivial (fun L W hL hW => by go_simp; rfl) ?_
  refine g_takeG (i := 11) rfl (by simp only [Region.wanted, yielded]; go_simp) (by kernel_rfl) (by kernel_rfl) (by kernel_rfl) (by kernel_rfl) (by kernel_rfl) (fun _ _ _ h => h) trivial (fun L W hL hW => by go_simp; rfl) ?_
  refine g_takeG (i := 13) rfl (by simp only [Region.wanted, yielded]; go_simp) (by kernel_rfl) (by kernel_rfl) (by kernel_rfl) (by kernel_rfl) (by kernel_rfl) (fun _ _ _ h => h) trivial (fun L W hL hW => by go_simp; rfl) ?_
  refine g_one (i := 12) rfl (by simp only [Region.wanted, yielded]; go_simp) (by kernel_rfl) fun K hK => ?_
  go_simp
  refine Calls.mono (head_any hA (k : Int)) ?_
  rintro e y2 ⟨Ah2, ch2, rfl, -, -, hr, hb, -⟩
  rw [R1.out] at hr
  rw [R1.out, ← HIA.out.1]
  have hA3 := hA.below hb
  have hB3 := hB.trans (hb.mono (by have := hB.size; omega))
  clear hA hB hb
  have hA := hA3
  have hB := hB3
  clear hA3 hB3
  have hr3 := hr.more (Nat.le_refl _)
  clear hr
  refine hK _ _ trivial ?_
  clear hK K
  refine g_one (i := 14) rfl (by simp only [Region.wanted, yielded]; go_simp) (by kernel_rfl) fun K hK => ?_
  go_simp
  refine Calls.mono (same_any _ _ _ _ a a _ _ HIA.out.1 HIA.out.1 _ hr3 ((HIA.out.2 _ hB).more (by have := hB.size; omega))) ?_
  rintro e y3 ⟨rfl, rfl⟩
  rw [beq_self_eq_true]
  clear hr3
  refine hK _ _ trivial ?_
  clear hK K
  refine g_takeG (i := 15) rfl (by simp only [Region.wanted, yielded]; go_simp) (by kernel_rfl) (by kernel_rfl) (by kernel_rfl) (by kernel_rfl) (by kernel_rfl) (fun _ _ _ h => h) trivial (fun L W hL hW => by go_simp; rfl) ?_
  refine g_take (i := 16) rfl rfl (by kernel_rfl) (by kernel_rfl) (by kernel_rfl) (by kernel_rfl) (by kernel_rfl) (fun _ _ _ h => h) trivial (fun L W hL hW => by go_simp; rfl) ?_
  refine g_take (i := 17) rfl rfl (by kernel_rfl) (by kernel_rfl) (by kernel_rfl) (by kernel_rfl) (by kernel_rfl) (fun _ _ _ h => h) trivial (fun L W hL hW => by go_simp; rfl) ?_
  refine g_takeG (i := 18) rfl (by simp only [Region.wanted, yielded]; go_simp) (by kernel_rfl) (by kernel_rfl) (by kernel_rfl) (by kernel_rfl) (by kernel_rfl) (fun _ _ _ h => h) trivial (fun L W hL hW => by go_simp; rfl) ?_
  refine g_one (i := 19) rfl (by simp only [Region.wanted, yielded]; go_simp) (by kernel_rfl) fun K hK => ?_
  go_simp
  refine Calls.mono (syncHead_any hA) ?_
  rintro e y4 ⟨rfl, F4, hA3, hfr, hF⟩
  rw [C2.out] at hA3
  rw [C2.out]
  have hB3 := hB.trans (hfr.below (by have := hB.size; omega) fun k hk => (hA.lt hk).1)
  clear hA hB hfr hF
  have hA := hA3
  have hB := hB3
  clear hA3 hB3
  refine hK _ _ trivial ?_
  clear hK K
  refine g_takeG (i := 20) rfl (by simp only [Region.wanted, yielded]; go_simp) (by kernel_rfl) (by kernel_rfl) (by kernel_rfl) (by kernel_rfl) (by kernel_rfl) (fun _ _ _ h => h) trivial (fun L W hL hW => by go_simp; rfl) ?_
  refine g_take (i := 21) rfl rfl (by kernel_rfl) (by kernel_rfl) (by kernel_rfl) (by kernel_rfl) (by kernel_rfl) (fun _ _ _ h => h) trivial (fun L W hL hW => by go_simp; rfl) ?_
  refine g_take (i := 22) rfl rfl (by kernel_rfl) (by kernel_rfl) (by kernel_rfl) (by kernel_rfl) (by kernel_rfl) (fun _ _ _ h => h) trivial (fun L W hL hW => by go_simp; rfl) ?_
  refine g_takeG (i := 23) rfl (by simp only [Region.wanted, yielded]; go_simp) (by kernel_rfl) (by kernel_rfl) (by kernel_rfl) (by kernel_rfl) (by kernel_rfl) (fun _ _ _ h => h) trivial (fun L W hL hW => by go_simp; rfl) ?_
  refine g_takeG (i := 24) rfl (by simp only [Region.wanted, yielded]; go_simp) (by kernel_rfl) (by kernel_rfl) (by kernel_rfl) (by kernel_rfl) (by kernel_rfl) (fun _ _ _ h => h) trivial (fun L W hL hW => by go_simp; rfl) ?_
  refine g_takeG (i := 25) rfl (by simp only [Region.wanted, yielded]; go_simp) (by kernel_rfl) (by kernel_rfl) (by kernel_rfl) (by kernel_rfl) (by kernel_rfl) (fun _ _ _ h => h) trivial (fun L W hL hW => by go_simp; rfl) ?_
  refine g_one (i := 26) rfl (by simp only [Region.wanted, yielded]; go_simp) (by kernel_rfl) fun K hK => ?_
  go_simp
  refine Calls.mono (write_any hA (k : Int) (n := 32) (c := 32) (b := b) HIB.out.1 ((HIB.out.2 _ hB).more (by have := hB.size; omega)) (of_args (HIB.out.2 _ hB) hA (by omega))) ?_
  rintro e y5 ⟨rfl, F5, hA3, hfr, hF⟩
  rw [C3.out] at hA3
  rw [C3.out]
  have hB3 := hB.trans (hfr.below (by have := hB.size; omega) fun k hk => (hA.lt hk).1)
  clear hA hB hfr hF
  have hA := hA3
  have hB := hB3
  clear hA3 hB3
  refine hK _ _ trivial ?_
  clear hK K
  refine g_takeG (i := 27) rfl (by simp only [Region.wanted, yielded]; go_simp) (by kernel_rfl) (by kernel_rfl) (by kernel_rfl) (by kernel_rfl) (by kernel_rfl) (fun _ _ _ h => h) trivial (fun L W hL hW => by go_simp; rfl) ?_
  refine g_take (i := 28) rfl rfl (by kernel_rfl) (by kernel_rfl) (by kernel_rfl) (by kernel_rfl) (by kernel_rfl) (fun _ _ _ h => h) trivial (fun L W hL hW => by go_simp; rfl) ?_
  refine g_take (i := 29) rfl rfl (by kernel_rfl) (by kernel_rfl) (by kernel_rfl) (by kernel_rfl) (by kernel_rfl) (fun _ _ _ h => h) trivial (fun L W hL hW => by go_simp; rfl) ?_
  refine g_takeG (i := 30) rfl (by simp only [Region.wanted, yielded]; go_simp) (by kernel_rfl) (by kernel_rfl) (by kernel_rfl) (by kernel_rfl) (by kernel_rfl) (fun _ _ _ h => h) trivial (fun L W hL hW => by go_simp; rfl) ?_
  refine g_takeG (i := 31) rfl (by simp only [Region.wanted, yielded]; go_simp) (by kernel_rfl) (by kernel_rfl) (by kernel_rfl) (by kernel_rfl) (by kernel_rfl) (fun _ _ _ h => h) trivial (fun L W hL hW => by go_simp; rfl) ?_
  refine g_takeG (i := 33) rfl (by simp only [Region.wanted, yielded]; go_simp) (by kernel_rfl) (by kernel_rfl) (by kernel_rfl) (by kernel_rfl) (by kernel_rfl) (fun _ _ _ h => h) trivial (fun L W hL hW => by go_simp; rfl) ?_
  refine g_one (i := 32) rfl (by simp only [Region.wanted, yielded]; go_simp) (by kernel_rfl) fun K hK => ?_
  go_simp
  refine Calls.mono (head_any hA (k : Int)) ?_
  rintro e y6 ⟨Ah6, ch6, rfl, -, -, hr, hb, -⟩
  rw [R3.out] at hr
  rw [R3.out, ← HIB.out.1]
  have hA3 := hA.below hb
  have hB3 := hB.trans (hb.mono (by have := hB.size; omega))
  clear hA hB hb
  have hA := hA3
  have hB := hB3
  clear hA3 hB3
  have hr3 := hr.more (Nat.le_refl _)
  clear hr
  refine hK _ _ trivial ?_
  clear hK K
  refine g_one (i := 34) rfl (by simp only [Region.wanted, yielded]; go_simp) (by kernel_rfl) fun K hK => ?_
  go_simp
  refine Calls.mono (same_any _ _ _ _ b b _ _ HIB.out.1 HIB.out.1 _ hr3 ((HIB.out.2 _ hB).more (by have := hB.size; omega))) ?_
  rintro e y7 ⟨rfl, rfl⟩
  rw [beq_self_eq_true]
  clear hr3
  refine hK _ _ trivial ?_
  clear hK K
  refine g_takeG (i := 35) rfl (by simp only [Region.wanted, yielded]; go_simp) (by kernel_rfl) (by kernel_rfl) (by kernel_rfl) (by kernel_rfl) (by kernel_rfl) (fun _ _ _ h => h) trivial (fun L W hL hW => by go_simp; rfl) ?_
  refine g_take (i := 36) rfl rfl (by kernel_rfl) (by kernel_rfl) (by kernel_rfl) (by kernel_rfl) (by kernel_rfl) (fun _ _ _ h => h) trivial (fun L W hL hW => by go_simp; rfl) ?_
  refine wpAnyG_done (by kernel_rfl) ?_ _
  go_simp
  go_upto_region 5 with fail
  go_cut [65] (fun v wx => v = .bool false ∧ ∃ F', At wx base F' g s4 ∧ Below base w2 wx)
  case first =>
    cases sync
    · have e4 := C4F.out rfl
      go_wp2_with fail
      go_meet
      exact ⟨rfl, _, by rw [e4]; exact hA, hB⟩
    · have E4 := Lib.hid (C4.out rfl)
      go_wp2_with fail
      refine Calls.mono (syncHead_any hA) ?_
      rintro e y8 ⟨rfl, F8, hA3, hfr, hF⟩
      rw [E4.out] at hA3
      rw [E4.out]
      have hB3 := hB.trans (hfr.below (by have := hB.size; omega) fun k hk => (hA.lt hk).1)
      clear hA hB hfr hF
      have hA := hA3
      have hB := hB3
      clear hA3 hB3
      go_wp2_with fail
      go_meet
      exact ⟨rfl, _, hA, hB⟩
  case rest =>
  clear hA hB
  obtain ⟨rfl, F4, hA, hB⟩ := hcut
  go_wp2_with fail
  refine Calls.mono (write_any hA (k : Int) (n := 31) (c := 32) (b := b.take 31) HIC.out.1 ((HIC.out.2 _ hB).more (by have := hB.size; omega)) (of_args (HIC.out.2 _ hB) hA (by omega))) ?_
  rintro e y9 ⟨rfl, F9, hA3, hfr, hF⟩
  rw [C5.out] at hA3
  rw [C5.out]
  have hB3 := hB.trans (hfr.below (by have := hB.size; omega) fun k hk => (hA.lt hk).1)
  clear hA hB hfr hF
  have hA := hA3
  have hB := hB3
  clear hA3 hB3
  go_wp2_with fail
  refine Calls.mono (write_any hA (2) (n := 32) (c := 32) (b := b) HIB.out.1 ((HIB.out.2 _ hB).more (by have := hB.size; omega)) (of_args (HIB.out.2 _ hB) hA (by omega))) ?_
  rintro e y10 ⟨rfl, F10, hA3, hfr, hF⟩
  rw [C6.out] at hA3
  rw [C6.out]
  have hB3 := hB.trans (hfr.below (by have := hB.size; omega) fun k hk => (hA.lt hk).1)
  clear hA hB hfr hF
  have hA := hA3
  have hB := hB3
  clear hA3 hB3
  have hzk := HKK.out.below hB (by omega)
  go_wp2_with (refine wpList_load_row rfl 24 (.tmp 9) rfl (w.heap.size + 1 + 1) rfl 24 _ _ _ hzk.out Try.underlying24 rfl (by kernel_rfl) ?_)
  refine Calls.mono (crash_any hA keep HKP.out) ?_
  rintro e yc ⟨⟨vc, rfl⟩, Fc, hA3, hfr, hF⟩
  rw [← HS5.out] at hA3
  clear hzk
  have hB3 := hB.trans (hfr.below (by have := hB.size; omega) fun k hk => (hA.lt hk).1)
  clear hA hB hfr hF
  have hA := hA3
  have hB := hB3
  clear hA3 hB3
  have hzk := HKK.out.below hB (by omega)
  have hkv := HKP.out (2 + k) (by omega)
  obtain ⟨kv, hkeq⟩ : ∃ x, x = keep (2 + k) := ⟨_, rfl⟩
  have g3 : yc.cell? ⟨w.heap.size + 1 + 1, 2 + k, none⟩ = some (.int .i64 kv) := by
    rw [hkeq]
    rcases (by omega : k = 0 ∨ k = 1) with rfl | rfl
    · exact Blk.at_ hzk 2 rfl
    · exact Blk.at_ hzk 3 rfl
  rw [← hkeq] at hkv
  obtain ⟨M, hM⟩ : ∃ M, M = slotM keep k := ⟨_, rfl⟩
  have hMv : M = min kv.toNat 32 := by rw [hM, hkeq]; rfl
  obtain ⟨N, hN⟩ : ∃ N, N = if sync then 32 else slotM keep k := ⟨_, rfl⟩
  rw [← hN] at R5
  rw [← hM] at hN
  have hN32 : N ≤ 32 := by rw [hN]; split <;> omega
  have y0 : IntKind.i64.wrap (2 + (k : Int)) = 2 + (k : Int) := IntWalk.i64_in _ (by omega)
  have yT : (2 + (k : Int)).toNat = 2 + k := by omega
  have j3 : (0 : Int) ≤ 2 + (k : Int) := by omega
  have j4 : 2 + (k : Int) < 4 := by omega
  have HNN := Lib.hid hN
  clear hkeq hM hzk hN
  go_upto_region 10 with fail
  go_cut [14] (fun v wx => v = .int .i64 (M : Int) ∧ wx = yc)
  case first =>
    clear hA hB
    by_cases hk0 : kv < 0
    · obtain rfl : M = 0 := by omega
      clear hMv hkv
      simp only [Int.cast_ofNat_Int] at *
      go_wp2_with fail
      go_meet
      exact ⟨rfl, rfl⟩
    · obtain ⟨kp, rfl⟩ : ∃ kp : Nat, kv = kp := ⟨kv.toNat, by omega⟩
      rw [Int.toNat_natCast] at hMv
      have u0 : ¬ (kp : Int) < 0 := by omega
      by_cases hqk : 32 < kp
      · have u1 : (32 : Int) < (kp : Int) := by omega
        obtain rfl : M = 32 := by omega
        clear hMv hkv hk0 hqk
        simp only [Int.cast_ofNat_Int] at *
        go_wp2_with fail
        go_meet
        exact ⟨rfl, rfl⟩
      · have u1 : ¬ (32 : Int) < (kp : Int) := by omega
        obtain rfl : M = kp := by omega
        clear hMv hkv hk0 hqk
        go_wp2_with fail
        go_meet
        exact ⟨rfl, rfl⟩
  case rest =>
  obtain ⟨rfl, rfl⟩ := hcut
  clear g3 y0 yT j3 j4 hkv hMv
  go_upto_if 86 with fail
  go_cut [14] (fun v wx => v = .int .i64 (N : Int) ∧ wx = wc)
  case first =>
    have hN := HNN.out
    clear hA hB
    cases sync
    · obtain rfl : N = M := by rw [hN]; rfl
      clear hN
      go_wp2_with fail
      go_meet
      exact ⟨rfl, rfl⟩
    · obtain rfl : N = 32 := by rw [hN]; rfl
      clear hN
      simp only [Int.cast_ofNat_Int] at *
      go_wp2_with fail
      go_meet
      exact ⟨rfl, rfl⟩
  case rest =>
  obtain ⟨rfl, rfl⟩ := hcut
  have j5 : (0 : Int) ≤ (N : Int) := by omega
  have j6 : (N : Int) ≤ 32 := by omega
  obtain ⟨i0, hi0, hz0, hz1, hz2⟩ := info_parts infoU8
  go_upto_region 13 with fail
  refine wp_region_heldG [] (fun _ _ => True) (by kernel_rfl) ?_
  change wpAnyG _ _ _ _ _ _ 8 _ _ (World.drew _)
  have hb := (Below.refl wc.heap.size wc).drew
  have hA3 := hA.below hb
  have hB3 := hB.trans (hb.mono (by have := hB.size; omega))
  clear hA hB hb
  have hA := hA3
  have hB := hB3
  clear hA3 hB3
  generalize wc.drew = u1 at *
  have hYB := (Below.refl u1.heap.size u1).alloc (Nat.le_refl _) (.cells #[] 5)
  have hBa := hB.trans (hYB.mono (by have := hB.size; omega))
  have hbN := ((HIB.out.2 _ hBa).head N)
  -- take1 take2 take4 take5 one0 one3 one6 take7 done
  refine g_take (i := 1) rfl rfl (by kernel_rfl) (by kernel_rfl) (by kernel_rfl) (by kernel_rfl) (by kernel_rfl) (fun _ _ _ h => h) trivial (fun L W hL hW => by go_simp; rfl) ?_
  refine g_take (i := 2) rfl rfl (by kernel_rfl) (by kernel_rfl) (by kernel_rfl) (by kernel_rfl) (by kernel_rfl) (fun _ _ _ h => h) trivial (fun L W hL hW => by go_simp; rfl) ?_
  refine g_take (i := 4) rfl rfl (by kernel_rfl) (by kernel_rfl) (by kernel_rfl) (by kernel_rfl) (by kernel_rfl) (fun _ _ _ h => h) trivial (fun L W hL hW => by go_simp; rfl) ?_
  refine g_take (i := 5) rfl rfl (by kernel_rfl) (by kernel_rfl) (by kernel_rfl) (by kernel_rfl) (by kernel_rfl) (fun _ _ _ h => h) trivial (fun L W hL hW => by go_simp; rfl) ?_
  refine g_one (i := 0) rfl rfl (by kernel_rfl) fun K hK => ?_
  go_simp
  refine hK _ _ trivial ?_
  clear hK K
  refine g_one (i := 3) rfl rfl (by kernel_rfl) fun K hK => ?_
  refine wp_append_row _ (.tmp 87) (.tmp 89) _ rfl u1.heap.size 5 i0 _ 1 Try.underlying29 hi0 hz0 hz1 hz2 rfl _ 0 [] rfl (own_empty _ _ (Nat.le_refl _)) base (some ⟨w.heap.size + 1, 0, none⟩) N 32 (bs (b.take N)) rfl (by rw [bs_length, List.length_take, ← HIB.out.1]; omega) hbN (bs_one _) (by unfold maxLen; omega) (by omega) (by simp) ?_
  intro v90 u2 ho hgr0 _ _
  have hgr : (u1.alloc (.cells #[] 5)).grownBy u2 (some u1.heap.size) := hgr0
  clear hgr0
  refine hK _ _ trivial ?_
  clear hK K
  refine g_one (i := 6) rfl rfl (by kernel_rfl) fun K hK => ?_
  have hU2 : Below u1.heap.size u1 u2 := hYB.grown hgr (by simp) (fun k e => by cases e; exact Nat.le_refl _)
  have hba := HIA.out.2 _ (hB.trans (hU2.mono (by have := hB.size; omega)))
  refine wp_append_row _ (.tmp 90) (.tmp 92) _ rfl u1.heap.size 5 i0 _ 1 Try.underlying29 hi0 hz0 hz1 hz2 rfl v90 _ _ rfl ho base _ _ _ (bs (a.drop N)) rfl (by rw [bs_length, List.length_drop, ← HIA.out.1]) ?_ (bs_one _) (by unfold maxLen; omega) (by omega) hU2.size ?_
  · split
    · intro j hj
      rw [bs_length, List.length_drop, ← HIA.out.1] at hj
      omega
    · have h := hba.part N 32
      rw [Nat.zero_add, List.take_of_length_le (by rw [← HIA.out.1]; exact Nat.le_refl _)] at h
      exact h
  intro v93 u3 ho3 hgr3 _ _
  have hU3 : Below u1.heap.size u1 u3 := hU2.grown hgr3 hU2.size (fun j hj => (own_row ho hj).1)
  have ho3 : u3.ownsRow u1.heap.size 5 1 v93 32 (bs (b.take N ++ a.drop N)) := by
    rw [bs_append]
    have e32 : 0 + N + (32 - N) = 32 := by omega
    rw [e32] at ho3
    exact ho3
  obtain ⟨A93, c93, rfl, -, h32, hr93⟩ := own_bytes ho3
  have HW : Hid (32 = (b.take N ++ a.drop N).length) := Lib.hid h32
  clear h32
  have hA3 := hA.below hU3
  have hB3 := hB.trans (hU3.mono (by have := hB.size; omega))
  clear hA hB hYB hBa hbN hU2 hU3 hba ho hgr ho3 hgr3
  have hA := hA3
  have hB := hB3
  clear hA3 hB3
  refine hK _ _ trivial ?_
  clear hK K
  refine g_take (i := 7) rfl rfl (by kernel_rfl) (by kernel_rfl) (by kernel_rfl) (by kernel_rfl) (by kernel_rfl) (fun _ _ _ h => h) trivial (fun L W hL hW => by go_simp; rfl) ?_
  refine wpAnyG_done (by kernel_rfl) ?_ _
  go_simp
  clear j5 j6
  generalize b.take N ++ a.drop N = wt at *
  obtain ⟨k', hk'⟩ : ∃ k', k' = 1 - k := ⟨_, rfl⟩
  have y7 : IntKind.i64.wrap (1 - (k : Int)) = (k' : Int) := by rw [show 1 - (k : Int) = k' by omega]; exact IntWalk.i64_in _ (by omega)
  rw [← hk'] at R6
  obtain ⟨zs, hzs⟩ : ∃ z : List UInt8, z = List.replicate 32 0 := ⟨_, rfl⟩
  obtain ⟨j0, hj0, hy0, hy1, hy2⟩ := info_parts infoU8
  have hmk : ∀ W, (Instr.makeSlice 29 (.int .i64 32) (.int .i64 32)).run Try.prog W = .ok (.slice (some ⟨W.heap.size, 0, none⟩) 32 32) (W.alloc (.cells (bs zs).toArray 5)) := fun W => by
    have h := run_make (P := Try.prog) W 29 5 j0 (.int .u8 0) Try.underlying29 hj0 hy0 .i64 .i64 32 32 (by omega) (Int.le_refl _) (by rw [hy2]; omega) (by omega)
    rw [show (32 : Int).toNat = 32 from rfl, hy1, Nat.mul_one] at h
    rw [hzs, h, ← made_bytes]
    rfl
  have HZ : Hid (32 = zs.length) := Lib.hid (by rw [hzs, List.length_replicate])
  rw [← hzs] at R6
  clear hzs hk'
  go_upto_region 14 with fail
  refine wp_region_heldG [] (fun _ _ => True) (by kernel_rfl) ?_
  change wpAnyG _ _ _ _ _ _ 23 _ _ (World.drew _)
  have hb := (Below.refl u3.heap.size u3).drew
  have hr933 := hr93.grow hb
  have hA3 := hA.below hb
  have hB3 := hB.trans (hb.mono (by have := hB.size; omega))
  clear hA hB hb
  have hA := hA3
  have hB := hB3
  clear hA3 hB3
  generalize u3.drew = u4 at *
  -- take0 take1 take3 one2 one4 take5 take6G take7G take8G
  refine g_take (i := 0) rfl rfl (by kernel_rfl) (by kernel_rfl) (by kernel_rfl) (by kernel_rfl) (by kernel_rfl) (fun _ _ _ h => h) trivial (fun L W hL hW => by go_simp; rfl) ?_
  refine g_take (i := 1) rfl rfl (by kernel_rfl) (by kernel_rfl) (by kernel_rfl) (by kernel_rfl) (by kernel_rfl) (fun _ _ _ h => h) trivial (fun L W hL hW => by go_simp; rfl) ?_
  refine g_take (i := 3) rfl rfl (by kernel_rfl) (by kernel_rfl) (by kernel_rfl) (by kernel_rfl) (by kernel_rfl) (fun _ _ _ h => h) trivial (fun L W hL hW => by go_simp; rfl) ?_
  refine g_one (i := 2) rfl rfl (by kernel_rfl) fun K hK => ?_
  go_simp
  refine Calls.mono (head_any hA (k : Int)) ?_
  rintro e u5 ⟨Au5, cu5, rfl, -, -, hr, hb, -⟩
  rw [R5.out] at hr
  rw [R5.out, ← HW.out]
  have hr9333 := hr933.grow hb
  clear hr933
  have hr933 := hr9333
  clear hr9333
  have hA3 := hA.below hb
  have hB3 := hB.trans (hb.mono (by have := hB.size; omega))
  clear hA hB hb
  have hA := hA3
  have hB := hB3
  clear hA3 hB3
  have hr3 := hr.more (Nat.le_refl _)
  clear hr
  refine hK _ _ trivial ?_
  clear hK K
  refine g_one (i := 4) rfl rfl (by kernel_rfl) fun K hK => ?_
  go_simp
  refine Calls.mono (same_any _ _ _ _ wt wt _ _ HW.out HW.out _ hr3 hr933) ?_
  rintro e u6 ⟨rfl, rfl⟩
  rw [beq_self_eq_true]
  clear hr3 hr933
  refine hK _ _ trivial ?_
  clear hK K
  refine g_take (i := 5) rfl rfl (by kernel_rfl) (by kernel_rfl) (by kernel_rfl) (by kernel_rfl) (by kernel_rfl) (fun _ _ _ h => h) trivial (fun L W hL hW => by go_simp; rfl) ?_
  refine g_takeG (i := 6) rfl (by simp only [Region.wanted, yielded]; go_simp) (by kernel_rfl) (by kernel_rfl) (by kernel_rfl) (by kernel_rfl) (by kernel_rfl) (fun _ _ _ h => h) trivial (fun L W hL hW => by go_simp; rfl) ?_
  refine g_takeG (i := 7) rfl (by simp only [Region.wanted, yielded]; go_simp) (by kernel_rfl) (by kernel_rfl) (by kernel_rfl) (by kernel_rfl) (by kernel_rfl) (fun _ _ _ h => h) trivial (fun L W hL hW => by go_simp; rfl) ?_
  refine g_takeG (i := 8) rfl (by simp only [Region.wanted, yielded]; go_simp) (by kernel_rfl) (by kernel_rfl) (by kernel_rfl) (by kernel_rfl) (by kernel_rfl) (fun _ _ _ h => h) trivial (fun L W hL hW => by go_simp; rfl) ?_
  refine g_two (i := 9) (j := 10) (by kernel_rfl) rfl (by simp only [Region.wanted, yielded]; go_simp) rfl (by simp only [Region.wanted, yielded]; go_simp) (fun K hK => ?_) (fun K hK => ?_)
  · go_simp
    refine Calls.mono (head_any hA (k' : Int)) ?_
    rintro e u7 ⟨Au7, cu7, rfl, -, -, hr, hb, -⟩
    rw [R6.out] at hr
    rw [R6.out, ← HZ.out]
    have hA3 := hA.below hb
    have hB3 := hB.trans (hb.mono (by have := hB.size; omega))
    clear hA hB hb
    have hA := hA3
    have hB := hB3
    clear hA3 hB3
    refine hK _ _ trivial ?_
    clear hK K
    -- one10G
    refine g_one (i := 10) rfl (by simp only [Region.wanted, yielded]; go_simp) (by kernel_rfl) fun K hK => ?_
    have hb := (Below.refl u7.heap.size u7).alloc (Nat.le_refl _) (.cells (bs zs).toArray 5)
    have hz := Bytes.blk (Blk.new_ u7 5 (bs zs).toArray rfl) (by simp) zs rfl (B := (u7.alloc (.cells (bs zs).toArray 5)).heap.size)
    have hr3 := hr.grow hb
    clear hr
    have hr := hr3
    clear hr3
    have hA3 := hA.below hb
    have hB3 := hB.trans (hb.mono (by have := hB.size; omega))
    clear hA hB hb
    have hA := hA3
    have hB := hB3
    clear hA3 hB3
    go_simp
    refine hK _ _ trivial ?_
    clear hK K
    generalize u7.alloc (.cells (bs zs).toArray 5) = u8 at *
    -- one11G take12 take13 take14G one15G take16G take17G take18 take19 one20G take21 take22 done
    refine g_one (i := 11) rfl (by simp only [Region.wanted, yielded]; go_simp) (by kernel_rfl) fun K hK => ?_
    go_simp
    refine Calls.mono (same_any _ _ _ _ zs zs _ _ HZ.out HZ.out _ hr hz) ?_
    rintro e u9 ⟨rfl, rfl⟩
    rw [beq_self_eq_true]
    clear hr hz
    refine hK _ _ trivial ?_
    clear hK K
    refine g_take (i := 12) rfl rfl (by kernel_rfl) (by kernel_rfl) (by kernel_rfl) (by kernel_rfl) (by kernel_rfl) (fun _ _ _ h => h) trivial (fun L W hL hW => by go_simp; rfl) ?_
    refine g_take (i := 13) rfl rfl (by kernel_rfl) (by kernel_rfl) (by kernel_rfl) (by kernel_rfl) (by kernel_rfl) (fun _ _ _ h => h) trivial (fun L W hL hW => by go_simp; rfl) ?_
    refine g_takeG (i := 14) rfl (by simp only [Region.wanted, yielded]; go_simp) (by kernel_rfl) (by kernel_rfl) (by kernel_rfl) (by kernel_rfl) (by kernel_rfl) (fun _ _ _ h => h) trivial (fun L W hL hW => by go_simp; rfl) ?_
    refine g_one (i := 15) rfl (by simp only [Region.wanted, yielded]; go_simp) (by kernel_rfl) fun K hK => ?_
    go_simp
    refine Calls.mono (head_any hA (2 : Int)) ?_
    rintro e u10 ⟨A10, c10, rfl, -, -, -, hb, -⟩
    rw [R7.out]
    simp only [List.length_nil]
    have hA3 := hA.below hb
    have hB3 := hB.trans (hb.mono (by have := hB.size; omega))
    clear hA hB hb
    have hA := hA3
    have hB := hB3
    clear hA3 hB3
    refine hK _ _ trivial ?_
    clear hK K
    refine g_takeG (i := 16) rfl (by simp only [Region.wanted, yielded]; go_simp) (by kernel_rfl) (by kernel_rfl) (by kernel_rfl) (by kernel_rfl) (by kernel_rfl) (fun _ _ _ h => h) trivial (fun L W hL hW => by go_simp; rfl) ?_
    refine g_takeG (i := 17) rfl (by simp only [Region.wanted, yielded]; go_simp) (by kernel_rfl) (by kernel_rfl) (by kernel_rfl) (by kernel_rfl) (by kernel_rfl) (fun _ _ _ h => h) trivial (fun L W hL hW => by go_simp; rfl) ?_
    refine g_take (i := 18) rfl rfl (by kernel_rfl) (by kernel_rfl) (by kernel_rfl) (by kernel_rfl) (by kernel_rfl) (fun _ _ _ h => h) trivial (fun L W hL hW => by go_simp; rfl) ?_
    refine g_take (i := 19) rfl rfl (by kernel_rfl) (by kernel_rfl) (by kernel_rfl) (by kernel_rfl) (by kernel_rfl) (fun _ _ _ h => h) trivial (fun L W hL hW => by go_simp; rfl) ?_
    refine g_one (i := 20) rfl (by simp only [Region.wanted, yielded]; go_simp) (by kernel_rfl) fun K hK => ?_
    go_simp
    refine Calls.mono (awake_any _) ?_
    rintro e u11 ⟨rfl, hb⟩
    have hBF := hB0.trans ((hB.trans (hb.mono (by have := hB.size; omega))).mono (by omega))
    refine hK _ _ trivial ?_
    clear hK K
    refine g_take (i := 21) rfl rfl (by kernel_rfl) (by kernel_rfl) (by kernel_rfl) (by kernel_rfl) (by kernel_rfl) (fun _ _ _ h => h) trivial (fun L W hL hW => by go_simp; rfl) ?_
    refine g_take (i := 22) rfl rfl (by kernel_rfl) (by kernel_rfl) (by kernel_rfl) (by kernel_rfl) (by kernel_rfl) (fun _ _ _ h => h) trivial (fun L W hL hW => by go_simp; rfl) ?_
    refine wpAnyG_done (by kernel_rfl) ?_ _
    go_simp
    go_wp2_with fail
    all_goals (go_ret; exact ⟨rfl, hBF⟩)
  · have hb := (Below.refl u5.heap.size u5).alloc (Nat.le_refl _) (.cells (bs zs).toArray 5)
    have hz := Bytes.blk (Blk.new_ u5 5 (bs zs).toArray rfl) (by simp) zs rfl (B := (u5.alloc (.cells (bs zs).toArray 5)).heap.size)
    have hA3 := hA.below hb
    have hB3 := hB.trans (hb.mono (by have := hB.size; omega))
    clear hA hB hb
    have hA := hA3
    have hB := hB3
    clear hA3 hB3
    go_simp
    refine hK _ _ trivial ?_
    clear hK K
    generalize u5.alloc (.cells (bs zs).toArray 5) = u7 at *
    -- one9G
    refine g_one (i := 9) rfl (by simp only [Region.wanted, yielded]; go_simp) (by kernel_rfl) fun K hK => ?_
    go_simp
    refine Calls.mono (head_any hA (k' : Int)) ?_
    rintro e u8 ⟨Au8, cu8, rfl, -, -, hr, hb, -⟩
    rw [R6.out] at hr
    rw [R6.out, ← HZ.out]
    have hz3 := hz.grow hb
    clear hz
    have hz := hz3
    clear hz3
    have hA3 := hA.below hb
    have hB3 := hB.trans (hb.mono (by have := hB.size; omega))
    clear hA hB hb
    have hA := hA3
    have hB := hB3
    clear hA3 hB3
    refine hK _ _ trivial ?_
    clear hK K
    -- one11G take12 take13 take14G one15G take16G take17G take18 take19 one20G take21 take22 done
    refine g_one (i := 11) rfl (by simp only [Region.wanted, yielded]; go_simp) (by kernel_rfl) fun K hK => ?_
    go_simp
    refine Calls.mono (same_any _ _ _ _ zs zs _ _ HZ.out HZ.out _ hr hz) ?_
    rintro e u9 ⟨rfl, rfl⟩
    rw [beq_self_eq_true]
    clear hr hz
    refine hK _ _ trivial ?_
    clear hK K
    refine g_take (i := 12) rfl rfl (by kernel_rfl) (by kernel_rfl) (by kernel_rfl) (by kernel_rfl) (by kernel_rfl) (fun _ _ _ h => h) trivial (fun L W hL hW => by go_simp; rfl) ?_
    refine g_take (i := 13) rfl rfl (by kernel_rfl) (by kernel_rfl) (by kernel_rfl) (by kernel_rfl) (by kernel_rfl) (fun _ _ _ h => h) trivial (fun L W hL hW => by go_simp; rfl) ?_
    refine g_takeG (i := 14) rfl (by simp only [Region.wanted, yielded]; go_simp) (by kernel_rfl) (by kernel_rfl) (by kernel_rfl) (by kernel_rfl) (by kernel_rfl) (fun _ _ _ h => h) trivial (fun L W hL hW => by go_simp; rfl) ?_
    refine g_one (i := 15) rfl (by simp only [Region.wanted, yielded]; go_simp) (by kernel_rfl) fun K hK => ?_
    go_simp
    refine Calls.mono (head_any hA (2 : Int)) ?_
    rintro e u10 ⟨A10, c10, rfl, -, -, -, hb, -⟩
    rw [R7.out]
    simp only [List.length_nil]
    have hA3 := hA.below hb
    have hB3 := hB.trans (hb.mono (by have := hB.size; omega))
    clear hA hB hb
    have hA := hA3
    have hB := hB3
    clear hA3 hB3
    refine hK _ _ trivial ?_
    clear hK K
    refine g_takeG (i := 16) rfl (by simp only [Region.wanted, yielded]; go_simp) (by kernel_rfl) (by kernel_rfl) (by kernel_rfl) (by kernel_rfl) (by kernel_rfl) (fun _ _ _ h => h) trivial (fun L W hL hW => by go_simp; rfl) ?_
    refine g_takeG (i := 17) rfl (by simp only [Region.wanted, yielded]; go_simp) (by kernel_rfl) (by kernel_rfl) (by kernel_rfl) (by kernel_rfl) (by kernel_rfl) (fun _ _ _ h => h) trivial (fun L W hL hW => by go_simp; rfl) ?_
    refine g_take (i := 18) rfl rfl (by kernel_rfl) (by kernel_rfl) (by kernel_rfl) (by kernel_rfl) (by kernel_rfl) (fun _ _ _ h => h) trivial (fun L W hL hW => by go_simp; rfl) ?_
    refine g_take (i := 19) rfl rfl (by kernel_rfl) (by kernel_rfl) (by kernel_rfl) (by kernel_rfl) (by kernel_rfl) (fun _ _ _ h => h) trivial (fun L W hL hW => by go_simp; rfl) ?_
    refine g_one (i := 20) rfl (by simp only [Region.wanted, yielded]; go_simp) (by kernel_rfl) fun K hK => ?_
    go_simp
    refine Calls.mono (awake_any _) ?_
    rintro e u11 ⟨rfl, hb⟩
    have hBF := hB0.trans ((hB.trans (hb.mono (by have := hB.size; omega))).mono (by omega))
    refine hK _ _ trivial ?_
    clear hK K
    refine g_take (i := 21) rfl rfl (by kernel_rfl) (by kernel_rfl) (by kernel_rfl) (by kernel_rfl) (by kernel_rfl) (fun _ _ _ h => h) trivial (fun L W hL hW => by go_simp; rfl) ?_
    refine g_take (i := 22) rfl rfl (by kernel_rfl) (by kernel_rfl) (by kernel_rfl) (by kernel_rfl) (by kernel_rfl) (fun _ _ _ h => h) trivial (fun L W hL hW => by go_simp; rfl) ?_
    refine wpAnyG_done (by kernel_rfl) ?_ _
    go_simp
    go_wp2_with fail
    all_goals (go_ret; exact ⟨rfl, hBF⟩)
end Go.Proofs.Ytgajgjijnpigoaa.Dk
