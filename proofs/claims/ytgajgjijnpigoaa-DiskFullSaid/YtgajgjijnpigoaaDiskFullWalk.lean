/-
  The walk of DiskFull.
-/
import Derived.Test.YtgajgjijnpigoaaDiskArg
import Derived.Test.YtgajgjijnpigoaaDiskCutWalk
namespace Go.Proofs.Ytgajgjijnpigoaa.Dk
set_option linter.unusedVariables false
open Go Go.RowKit Go.Shelf Go.Proofs Go.Proofs.Ytgajgjijnpigoaa Go.Proofs.Ytgajgjijnpigoaa.Wd

theorem made_bytes (n : Nat) : madeCells #[Value.int .u8 0] n = (bs (List.replicate n 0)).toArray := by
  apply Array.ext
  · simp [madeCells, bs]
  · intro i h1 h2
    simp [madeCells, bs, Nat.mod_one]
set_option maxRecDepth 100000 in
set_option maxHeartbeats 4000000 in
theorem full_walk (cp : Nat) (hcp : cp < 65536) (A : Option Addr) (c : Nat) (l : List Nat) (n : Nat) (hn : n = l.length) (hnc : n ≤ c) (hcm : c ≤ maxLen) (hl : ∀ x ∈ l, x < 65536) (w : World) (hI : Row w w.heap.size A (wv l)) :
    Calls Try.prog 4 #[.int .u16 cp, .slice A n c] w fun e w' => e = .returned (.bool true) ∧ Below w.heap.size w w' := by
  unfold maxLen at hcm
  obtain ⟨j0, hj0, hy0, hy1, hy2⟩ := info_parts infoU8
  obtain ⟨c0, hc0⟩ : ∃ c0, c0 = cp % 301 := ⟨_, rfl⟩
  have t0 : (cp : Int).tmod 301 = (c0 : Int) := by rw [Int.tmod_eq_emod_of_nonneg (Int.natCast_nonneg _)]; omega
  have wa : wrap64 (c0 : Int) = c0 := IntWalk.wrap64_in _ (by omega)
  obtain ⟨m, hm⟩ : ∃ m, m = min n 80 := ⟨_, rfl⟩
  have hcb : c0 ≤ 300 := by omega
  have HMM := Lib.hid hm
  have hmc : (m : Int) ≤ (c : Int) := by omega
  have hm80 : m ≤ 80 := by omega
  have hmn : m ≤ n := by omega
  have HNL := Lib.hid hn
  clear hm hc0
  have HL := Lib.hid hl
  clear hn hl
  go_enter Try.func4, Try.ntmps4
  go_wp2_with fail
  refine Calls.mono (new_any c0 (by omega) w) ?_
  rintro e w0 ⟨rfl, hA, hB⟩
  have P0 := Pl.new_ c0
  obtain ⟨s0, hs0⟩ : ∃ s0, s0 = newD c0 := ⟨_, rfl⟩
  rw [← hs0] at hA P0
  obtain ⟨g, hg⟩ : ∃ g, g = w.heap.size := ⟨_, rfl⟩
  obtain ⟨F0, hF0⟩ : ∃ F : Nat → Prop, F = (fun j => j = w.heap.size) := ⟨_, rfl⟩
  have hA : At w0 w.heap.size F0 g s0 := by rw [hF0, hg]; exact hA
  rw [← hg]
  clear hg hF0 hs0 t0 wa
  have hz8 := Blk.new_ w0 41 #[.int .i64 ((0 : Nat) : Int), .int .i64 ((0 : Nat) : Int)] (n := w0.heap.size) rfl
  have hb8 := (Below.refl w0.heap.size w0).alloc (Nat.le_refl _) (.cells #[.int .i64 ((0 : Nat) : Int), .int .i64 ((0 : Nat) : Int)] 41)
  have hA1 := hA.below hb8
  have hB1 := hB.trans (hb8.mono hB.size)
  have hG1 : ¬ F0 w0.heap.size := fun e => by have := (hA.lt e).2; omega
  have hg8 : w.heap.size ≤ w0.heap.size := hB.size
  clear hA hB hb8
  go_upto_region 6 with fail
  simp only [Int.cast_ofNat_Int] at *
  generalize w0.alloc (.cells #[.int .i64 0, .int .i64 0] 41) = w1 at *
  generalize w0.heap.size = g8 at *
  go_cut [29, 30, 31] (fun v29 v30 v31 wx => v29 = .slice A m c ∧ v30 = .int .i64 (m : Int) ∧ v31 = .int .i64 0 ∧ wx = w1)
  case first =>
    have hm := HMM.out
    by_cases h80 : 80 < n
    · obtain rfl : m = 80 := by omega
      have u1 : (80 : Int) < (n : Int) := by omega
      clear hm
      simp only [Int.cast_ofNat_Int] at *
      go_wp2_with fail
      go_meet
      exact ⟨rfl, rfl, rfl, rfl⟩
    · obtain rfl : m = n := by omega
      have u1 : ¬ (80 : Int) < (m : Int) := by omega
      clear hm
      go_wp2_with fail
      go_meet
      exact ⟨rfl, rfl, rfl, rfl⟩
  case rest =>
  obtain ⟨rfl, rfl, rfl, rfl⟩ := hcut
  go_wp2_with fail
  go_loopw [31] (fun ix wr => ∃ (i : Nat) (s : DS) (al : Nat → List UInt8) (sf : Nat → Nat) (F : Nat → Prop) (n0 n1 : Nat), i ≤ m ∧ ix = .int .i64 i ∧ At wr w.heap.size F g s ∧ Pl s c0 al sf ∧ Blk wr g8 41 #[.int .i64 (n0 : Int), .int .i64 (n1 : Int)] ∧ ¬ F g8 ∧ Below w.heap.size w wr ∧ RowKit.Hid (n0 = (al 0).length) ∧ RowKit.Hid (n1 = (al 1).length)) (fun ix _ => m - (intOf ix).toNat)
  case atStart => exact ⟨0, s0, _, _, F0, 0, 0, Nat.zero_le _, rfl, hA1, P0, hz8, hG1, hB1, Lib.hid rfl, Lib.hid rfl⟩
  case round =>
    obtain ⟨i, s, al, sf, F, n0, n1, hi, rfl, hA, hP, hZ, hG, hB, HN0, HN1⟩ := hrel
    clear hz8 hA1 hB1 hG1 P0
    by_cases hlt : i < m
    · have hil : i < l.length := by have := HNL.out; omega
      obtain ⟨b1, o1, rfl, hb1, hc1⟩ := hI i (by simp [wv]; exact hil)
      have hcx : wr.cell? ⟨b1, o1 + i, none⟩ = some (.int .u16 (l[i] : Nat)) := ((hB.cell (p := ⟨b1, _, none⟩) hb1).trans hc1).trans (by simp [wv])
      have hx := HL.out l[i] (List.getElem_mem hil)
      generalize l[i] = x at *
      obtain ⟨k, hk⟩ : ∃ k, k = x % 2 := ⟨_, rfl⟩
      obtain ⟨p, hp⟩ : ∃ p, p = x / 2 := ⟨_, rfl⟩
      obtain ⟨q, hq⟩ : ∃ q, q = p % 64 := ⟨_, rfl⟩
      have hk2 : k < 2 := by omega
      have hlk : ∀ j, j < 2 → #[Value.int .i64 (n0 : Int), .int .i64 (n1 : Int)][j]? = some (.int .i64 ((al j).length : Int)) := fun j hj => by
        rcases (by omega : j = 0 ∨ j = 1) with rfl | rfl
        · rw [← HN0.out]; rfl
        · rw [← HN1.out]; rfl
      obtain ⟨L, hL⟩ : ∃ L, L = (al k).length := ⟨_, rfl⟩
      have hcl : wr.cell? ⟨g8, k, none⟩ = some (.int .i64 (L : Int)) := Blk.at_ hZ k (by rw [hL]; exact hlk k hk2)
      have k1 : (0 : Int) ≤ (k : Int) := by omega
      have k2 : (k : Int) < 2 := by omega
      have hcp1 := hA.ok.cap
      have hrm : n0 + n1 ≤ c0 := by have h0 := hA.ok.room; have h1 := hP.all 0 (by omega); have h2 := hP.all 1 (by omega); have h3 := hP.cap; rw [h1, h2, h3, ← HN0.out, ← HN1.out] at h0; exact h0
      have hLc : L ≤ 1048576 := by rcases (by omega : k = 0 ∨ k = 1) with rfl | rfl; rw [hL, ← HN0.out]; have := hP.cap; omega; rw [hL, ← HN1.out]; have := hP.cap; omega
      have t1 : (x : Int).tmod 2 = (k : Int) := by rw [Int.tmod_eq_emod_of_nonneg (Int.natCast_nonneg _)]; omega
      have t2 : (x : Int).tdiv 2 = (p : Int) := by rw [Int.tdiv_eq_ediv_of_nonneg (Int.natCast_nonneg _)]; omega
      have t3 : (p : Int).tmod 64 = (q : Int) := by rw [Int.tmod_eq_emod_of_nonneg (Int.natCast_nonneg _)]; omega
      have t4 : IntKind.u16.wrap (p : Int) = (p : Int) := IntWalk.u16_in _ (by omega)
      have i1 : (0 : Int) ≤ (i : Int) := by omega
      have i2 : (i : Int) < (m : Int) := by omega
      have hq64 : q < 64 := by omega
      clear hc1 hk hq hp
      have HLK := Lib.hid hlk
      clear hlk
      go_upto_if 43 with fail
      clear t1 t2 t3 t4 hcx
      go_cut [] (fun wx => ∃ (s' : DS) (al' : Nat → List UInt8) (sf' : Nat → Nat) (F' : Nat → Prop) (n0 n1 : Nat), At wx w.heap.size F' g s' ∧ Pl s' c0 al' sf' ∧ Blk wx g8 41 #[.int .i64 (n0 : Int), .int .i64 (n1 : Int)] ∧ ¬ F' g8 ∧ Below w.heap.size w wx ∧ RowKit.Hid (n0 = (al' 0).length) ∧ RowKit.Hid (n1 = (al' 1).length))
      case first =>
        by_cases h4 : 16384 ≤ x
        · have u0 : (16384 : Int) ≤ (x : Int) := by omega
          clear h4 hx
          go_wp2_with fail
          refine Calls.mono (trunc_any hA (k : Int) (q : Int)) ?_
          rintro e w2 ⟨rfl, F2, hA2, hfr, hF⟩
          have hG2 : ¬ F2 g8 := fun e => by rcases hF g8 e with h | h; exact hG h; have := hZ.lt; omega
          have hZ2 := hZ.fr hfr hG
          have hB2 := hB.trans (hfr.below hB.size fun k hk => (hA.lt hk).1)
          have hcl2 : w2.cell? ⟨g8, k, none⟩ = some (.int .i64 (L : Int)) := Blk.at_ hZ2 k (by rw [hL]; exact HLK.out k hk2)
          clear hcl
          by_cases hq : q ≤ L
          · have T := hP.trunc hk2 (n := q) (by omega)
            have u1 : (q : Int) ≤ (L : Int) := by omega
            rw [T.1]
            have hfs : Fr (fun j => j = g8) w2 (w2.setCell ⟨g8, k, none⟩ (.int .i64 (q : Int))) := Fr.setCell (F := fun j => j = g8) (p := ⟨g8, k, none⟩) (Fr.refl _ w2) (.inl rfl) _
            have hA3 := hA2.fr hfs (fun j hj e => hG2 (e ▸ hj))
            have hB3 := hB2.trans (hfs.below hB2.size fun k hk => by cases hk; exact hg8)
            have hZ3 := hZ2.set_ k (.int .i64 (q : Int))
            have hfz2 := hZ2.frozen k
            have hlen : ((al k).take q).length = q := by rw [List.length_take]; omega
            clear hL hq hA hB hZ hP hA2 hB2 hfr hF hfs
            go_wp2_with fail
            go_meet
            rcases (by omega : k = 0 ∨ k = 1) with rfl | rfl
            · exact ⟨_, _, _, F2, q, n1, hA3, T.2, hZ3, hG2, hB3, Lib.hid (by rw [upd_eq]; exact hlen.symm), Lib.hid (by rw [upd_ne (by omega)]; exact HN1.out)⟩
            · exact ⟨_, _, _, F2, n0, q, hA3, T.2, hZ3, hG2, hB3, Lib.hid (by rw [upd_ne (by omega)]; exact HN0.out), Lib.hid (by rw [upd_eq]; exact hlen.symm)⟩
          · have T := hP.trunc_bad hk2 (n := q) (by omega)
            have u1 : ¬ (q : Int) ≤ (L : Int) := by omega
            rw [T] at hA2
            rw [T]
            clear hL hq hA hB hZ T hfr hF
            go_wp2_with fail
            go_meet
            exact ⟨s, al, sf, F2, n0, n1, hA2, hP, hZ2, hG2, hB2, HN0, HN1⟩
        · have u0 : ¬ (16384 : Int) ≤ (x : Int) := by omega
          clear h4 hx
          have q1 : (0 : Int) ≤ (q : Int) := by omega
          have hW1 := hA.below ((Below.refl _ wr).alloc (Nat.le_refl _) (.cells (bs (List.replicate q 0)).toArray 5))
          have hW2 := hB.trans ((Below.refl _ wr).alloc hB.size (.cells (bs (List.replicate q 0)).toArray 5))
          have hW3 := hZ.alloc (.cells (bs (List.replicate q 0)).toArray 5)
          have hW4 := Blk.new_ wr 5 (bs (List.replicate q 0)).toArray (n := wr.heap.size) rfl
          have hmk : (Instr.makeSlice 29 (.int .i64 (q : Int)) (.int .i64 (q : Int))).run Try.prog wr = .ok (.slice (some ⟨wr.heap.size, 0, none⟩) q q) (wr.alloc (.cells (bs (List.replicate q 0)).toArray 5)) := by
            have h := run_make (P := Try.prog) wr 29 5 j0 (.int .u8 0) Try.underlying29 hj0 hy0 .i64 .i64 (q : Int) (q : Int) (by omega) (Int.le_refl _) (by rw [hy2]; omega) (by omega)
            rw [Int.toNat_natCast, hy1, Nat.mul_one] at h
            rw [h, ← made_bytes]; rfl
          go_wp2_with fail
          generalize wr.alloc (.cells (bs (List.replicate q 0)).toArray 5) = w1 at *
          have hI0 : Bytes w1 w1.heap.size (some ⟨wr.heap.size, 0, none⟩) (List.replicate q 0) := fun j hj => ⟨wr.heap.size, 0, rfl, hW4.lt, by rw [hW4.cell]; simp⟩
          have hAF : (List.replicate q (0 : UInt8)) ≠ [] → ∀ x o, (some ⟨wr.heap.size, 0, none⟩ : Option Addr) = some ⟨x, o, none⟩ → ¬ F x := fun _ x o e hx => by
            cases e
            have := (hA.lt hx).2
            omega
          refine Calls.mono (append_any hW1 (k : Int) (b := List.replicate q 0) (by simp) (Nat.le_refl _) (by unfold maxLen; omega) hI0 hAF) ?_
          rintro e w2 ⟨rfl, F2, hA2, hfr, hF⟩
          have hG2 : ¬ F2 g8 := fun e => by rcases hF g8 e with h | h; exact hG h; have := hW3.lt; omega
          have hZ2 := hW3.fr hfr hG
          have hB2 := hW2.trans (hfr.below hW2.size fun k hk => (hA.lt hk).1)
          have hcl2 : w2.cell? ⟨g8, k, none⟩ = some (.int .i64 (L : Int)) := Blk.at_ hZ2 k (by rw [hL]; exact HLK.out k hk2)
          have hcl0 : w2.cell? ⟨g8, 0, none⟩ = some (.int .i64 (n0 : Int)) := Blk.at_ hZ2 0 rfl
          have hcl1 : w2.cell? ⟨g8, 1, none⟩ = some (.int .i64 (n1 : Int)) := Blk.at_ hZ2 1 rfl
          clear hmk hI0 hAF hW1 hW2 hW3 hW4 hcl hA hB hZ
          obtain ⟨t, ht⟩ : ∃ t, t = n0 + n1 := ⟨_, rfl⟩
          obtain ⟨r, hr⟩ : ∃ r, r = t + q := ⟨_, rfl⟩
          have e0 : (al 0).length = n0 := HN0.out.symm
          have e1 : (al 1).length = n1 := HN1.out.symm
          by_cases hq : r ≤ c0
          · have T := hP.append hk2 (b := List.replicate q 0) (by rw [List.length_replicate, e0, e1]; omega)
            obtain ⟨L2, hL2⟩ : ∃ L2, L2 = L + q := ⟨_, rfl⟩
            have hlen : (al k ++ List.replicate q 0).length = L2 := by rw [List.length_append, List.length_replicate]; omega
            have u1 : (r : Int) ≤ (c0 : Int) := by omega
            have y5 : IntKind.i64.wrap ((n0 : Int) + n1) = (t : Int) := by rw [show (n0 : Int) + n1 = t by omega]; exact IntWalk.i64_in _ (by omega)
            have y6 : IntKind.i64.wrap ((t : Int) + q) = (r : Int) := by rw [show (t : Int) + q = r by omega]; exact IntWalk.i64_in _ (by omega)
            have y7 : IntKind.i64.wrap ((L : Int) + q) = (L2 : Int) := by rw [show (L : Int) + q = L2 by omega]; exact IntWalk.i64_in _ (by omega)
            rw [T.1]
            have hfz2 := hZ2.frozen k
            have hfs : Fr (fun j => j = g8) w2 (w2.setCell ⟨g8, k, none⟩ (.int .i64 (L2 : Int))) := Fr.setCell (F := fun j => j = g8) (p := ⟨g8, k, none⟩) (Fr.refl _ w2) (.inl rfl) _
            have hA3 := hA2.fr hfs (fun j hj e => hG2 (e ▸ hj))
            have hB3 := hB2.trans (hfs.below hB2.size fun k hk => by cases hk; exact hg8)
            have hZ3 := hZ2.set_ k (.int .i64 (L2 : Int))
            clear hL hq hP hA2 hB2 hfr hF hfs ht hr hL2 e0 e1
            go_wp2_with fail
            go_meet
            rcases (by omega : k = 0 ∨ k = 1) with rfl | rfl
            · exact ⟨_, _, _, F2, L2, n1, hA3, T.2, hZ3, hG2, hB3, Lib.hid (by rw [upd_eq]; exact hlen.symm), Lib.hid (by rw [upd_ne (by omega)]; exact HN1.out)⟩
            · exact ⟨_, _, _, F2, n0, L2, hA3, T.2, hZ3, hG2, hB3, Lib.hid (by rw [upd_ne (by omega)]; exact HN0.out), Lib.hid (by rw [upd_eq]; exact hlen.symm)⟩
          · have T := hP.full hk2 (b := List.replicate q 0) (by rw [List.length_replicate, e0, e1]; omega)
            have u1 : ¬ (r : Int) ≤ (c0 : Int) := by omega
            have y5 : IntKind.i64.wrap ((n0 : Int) + n1) = (t : Int) := by rw [show (n0 : Int) + n1 = t by omega]; exact IntWalk.i64_in _ (by omega)
            have y6 : IntKind.i64.wrap ((t : Int) + q) = (r : Int) := by rw [show (t : Int) + q = r by omega]; exact IntWalk.i64_in _ (by omega)
            rw [T] at hA2
            rw [T]
            clear hL hq T hfr hF ht hr e0 e1
            go_wp2_with fail
            go_meet
            exact ⟨s, al, sf, F2, n0, n1, hA2, hP, hZ2, hG2, hB2, HN0, HN1⟩
      case rest =>
      clear hA hP hZ hB HN0 HN1 hcl k1 k2 hcp1 hrm hLc hL
      obtain ⟨s', al', sf', F', n0, n1, hA, hP, hZ, hG', hB, HN0, HN1⟩ := hcut
      have hlen0 := hA.ok.room
      have hcap := hA.ok.cap
      have r0 : rd s' 0 = al' 0 := hP.rd (i := 0) (by omega)
      have r1 : rd s' 1 = al' 1 := hP.rd (i := 1) (by omega)
      have hroom : n0 + n1 ≤ c0 := by have h1 := hP.all 0 (by omega); have h2 := hP.all 1 (by omega); have h3 := hP.cap; rw [h1, h2, h3, ← HN0.out, ← HN1.out] at hlen0; exact hlen0
      have rF : ((free s' : Nat) : Int) = (c0 : Int) - n0 - n1 := by rw [hP.free, ← HN0.out, ← HN1.out]; omega
      have y8 : IntKind.i64.wrap ((c0 : Int) - n0) = (c0 : Int) - n0 := IntWalk.i64_in _ (by omega)
      have y9 : IntKind.i64.wrap ((c0 : Int) - n0 - n1) = (c0 : Int) - n0 - n1 := IntWalk.i64_in _ (by omega)
      clear hlen0 hcap
      go_wp2_with fail
      refine wp_region_heldG [] (fun _ W => W.cell? ⟨g8, 0, none⟩ = some (.int .i64 (n0 : Int)) ∧ W.cell? ⟨g8, 1, none⟩ = some (.int .i64 (n1 : Int))) (by kernel_rfl) ?_
      change wpAnyG _ _ _ _ _ _ 26 _ _ (World.drew _)
      have hA3 := hA.drew
      have hB3 := hB.drew
      have hZ3 := hZ.drew
      generalize wc.drew = u9 at *
      have hS : u9.cell? ⟨g8, 0, none⟩ = some (.int .i64 (n0 : Int)) ∧ u9.cell? ⟨g8, 1, none⟩ = some (.int .i64 (n1 : Int)) := ⟨Blk.at_ hZ3 0 rfl, Blk.at_ hZ3 1 rfl⟩
      clear hA hB hZ
      have hA := hA3
      have hB := hB3
      have hZ := hZ3
      clear hA3 hB3 hZ3
      -- take0 take3 take4 one1 take2 take5 take6 take7G take10G take11G one8G take9G take12G take13 take14 take15G take17G take18G take19G take20G take21G take22G take23G one16G take24G take25 done
      refine g_take (i := 0) rfl rfl (by kernel_rfl) (by kernel_rfl) (by kernel_rfl) (by kernel_rfl) (by kernel_rfl) (fun _ _ _ h => h) hS (fun L W hL hW => by go_simp; rfl) ?_
      refine g_take (i := 3) rfl rfl (by kernel_rfl) (by kernel_rfl) (by kernel_rfl) (by kernel_rfl) (by kernel_rfl) (fun _ _ _ h => h) hS (fun L W hL hW => by go_simp; rfl) ?_
      refine g_take (i := 4) rfl rfl (by kernel_rfl) (by kernel_rfl) (by kernel_rfl) (by kernel_rfl) (by kernel_rfl) (fun _ _ _ h => h) hS (fun L W hL hW => by have q1 := hW.1; have q2 := hW.2; go_simp; rfl) ?_
      refine g_one (i := 1) rfl rfl (by kernel_rfl) fun K hK => ?_
      go_simp
      refine Calls.mono (read_any hA 0) ?_
      rintro e q1 ⟨v1, rfl, hown, hb⟩
      rw [r0] at hown
      obtain ⟨Ar1, cr1, rfl, -, -, -⟩ := own_read hown
      rw [← HN0.out]
      clear hown
      have hA3 := hA.below hb
      have hB3 := hB.trans (hb.mono hB.size)
      have hZ3 := hZ.below hb hZ.lt
      have hS3 : q1.cell? ⟨g8, 0, none⟩ = some (.int .i64 (n0 : Int)) ∧ q1.cell? ⟨g8, 1, none⟩ = some (.int .i64 (n1 : Int)) := ⟨Blk.at_ hZ3 0 rfl, Blk.at_ hZ3 1 rfl⟩
      clear hA hB hZ hb
      have hA := hA3
      have hB := hB3
      have hZ := hZ3
      clear hA3 hB3 hZ3
      refine hK _ _ hS3 ?_
      clear hK K hS
      have hS := hS3
      clear hS3
      refine g_take (i := 2) rfl rfl (by kernel_rfl) (by kernel_rfl) (by kernel_rfl) (by kernel_rfl) (by kernel_rfl) (fun _ _ _ h => h) hS (fun L W hL hW => by go_simp; rfl) ?_
      refine g_take (i := 5) rfl rfl (by kernel_rfl) (by kernel_rfl) (by kernel_rfl) (by kernel_rfl) (by kernel_rfl) (fun _ _ _ h => h) hS (fun L W hL hW => by go_simp; rfl) ?_
      refine g_take (i := 6) rfl rfl (by kernel_rfl) (by kernel_rfl) (by kernel_rfl) (by kernel_rfl) (by kernel_rfl) (fun _ _ _ h => h) hS (fun L W hL hW => by go_simp; rfl) ?_
      refine g_takeG (i := 7) rfl (by simp only [Region.wanted, yielded]; go_simp) (by kernel_rfl) (by kernel_rfl) (by kernel_rfl) (by kernel_rfl) (by kernel_rfl) (fun _ _ _ h => h) hS (fun L W hL hW => by go_simp; rfl) ?_
      refine g_takeG (i := 10) rfl (by simp only [Region.wanted, yielded]; go_simp) (by kernel_rfl) (by kernel_rfl) (by kernel_rfl) (by kernel_rfl) (by kernel_rfl) (fun _ _ _ h => h) hS (fun L W hL hW => by go_simp; rfl) ?_
      refine g_takeG (i := 11) rfl (by simp only [Region.wanted, yielded]; go_simp) (by kernel_rfl) (by kernel_rfl) (by kernel_rfl) (by kernel_rfl) (by kernel_rfl) (fun _ _ _ h => h) hS (fun L W hL hW => by have q1 := hW.1; have q2 := hW.2; go_simp; rfl) ?_
      refine g_one (i := 8) rfl (by simp only [Region.wanted, yielded]; go_simp) (by kernel_rfl) fun K hK => ?_
      go_simp
      refine Calls.mono (read_any hA 1) ?_
      rintro e q2 ⟨v2, rfl, hown, hb⟩
      rw [r1] at hown
      obtain ⟨Ar2, cr2, rfl, -, -, -⟩ := own_read hown
      rw [← HN1.out]
      clear hown
      have hA3 := hA.below hb
      have hB3 := hB.trans (hb.mono hB.size)
      have hZ3 := hZ.below hb hZ.lt
      have hS3 : q2.cell? ⟨g8, 0, none⟩ = some (.int .i64 (n0 : Int)) ∧ q2.cell? ⟨g8, 1, none⟩ = some (.int .i64 (n1 : Int)) := ⟨Blk.at_ hZ3 0 rfl, Blk.at_ hZ3 1 rfl⟩
      clear hA hB hZ hb
      have hA := hA3
      have hB := hB3
      have hZ := hZ3
      clear hA3 hB3 hZ3
      refine hK _ _ hS3 ?_
      clear hK K hS
      have hS := hS3
      clear hS3
      refine g_takeG (i := 9) rfl (by simp only [Region.wanted, yielded]; go_simp) (by kernel_rfl) (by kernel_rfl) (by kernel_rfl) (by kernel_rfl) (by kernel_rfl) (fun _ _ _ h => h) hS (fun L W hL hW => by go_simp; rfl) ?_
      refine g_takeG (i := 12) rfl (by simp only [Region.wanted, yielded]; go_simp) (by kernel_rfl) (by kernel_rfl) (by kernel_rfl) (by kernel_rfl) (by kernel_rfl) (fun _ _ _ h => h) hS (fun L W hL hW => by go_simp; rfl) ?_
      refine g_take (i := 13) rfl rfl (by kernel_rfl) (by kernel_rfl) (by kernel_rfl) (by kernel_rfl) (by kernel_rfl) (fun _ _ _ h => h) hS (fun L W hL hW => by go_simp; rfl) ?_
      refine g_take (i := 14) rfl rfl (by kernel_rfl) (by kernel_rfl) (by kernel_rfl) (by kernel_rfl) (by kernel_rfl) (fun _ _ _ h => h) hS (fun L W hL hW => by go_simp; rfl) ?_
      refine g_takeG (i := 15) rfl (by simp only [Region.wanted, yielded]; go_simp) (by kernel_rfl) (by kernel_rfl) (by kernel_rfl) (by kernel_rfl) (by kernel_rfl) (fun _ _ _ h => h) hS (fun L W hL hW => by go_simp; rfl) ?_
      refine g_takeG (i := 17) rfl (by simp only [Region.wanted, yielded]; go_simp) (by kernel_rfl) (by kernel_rfl) (by kernel_rfl) (by kernel_rfl) (by kernel_rfl) (fun _ _ _ h => h) hS (fun L W hL hW => by go_simp; rfl) ?_
      refine g_takeG (i := 18) rfl (by simp only [Region.wanted, yielded]; go_simp) (by kernel_rfl) (by kernel_rfl) (by kernel_rfl) (by kernel_rfl) (by kernel_rfl) (fun _ _ _ h => h) hS (fun L W hL hW => by go_simp; rfl) ?_
      refine g_takeG (i := 19) rfl (by simp only [Region.wanted, yielded]; go_simp) (by kernel_rfl) (by kernel_rfl) (by kernel_rfl) (by kernel_rfl) (by kernel_rfl) (fun _ _ _ h => h) hS (fun L W hL hW => by have q1 := hW.1; have q2 := hW.2; go_simp; rfl) ?_
      refine g_takeG (i := 20) rfl (by simp only [Region.wanted, yielded]; go_simp) (by kernel_rfl) (by kernel_rfl) (by kernel_rfl) (by kernel_rfl) (by kernel_rfl) (fun _ _ _ h => h) hS (fun L W hL hW => by go_simp; rfl) ?_
      refine g_takeG (i := 21) rfl (by simp only [Region.wanted, yielded]; go_simp) (by kernel_rfl) (by kernel_rfl) (by kernel_rfl) (by kernel_rfl) (by kernel_rfl) (fun _ _ _ h => h) hS (fun L W hL hW => by go_simp; rfl) ?_
      refine g_takeG (i := 22) rfl (by simp only [Region.wanted, yielded]; go_simp) (by kernel_rfl) (by kernel_rfl) (by kernel_rfl) (by kernel_rfl) (by kernel_rfl) (fun _ _ _ h => h) hS (fun L W hL hW => by have q1 := hW.1; have q2 := hW.2; go_simp; rfl) ?_
      refine g_takeG (i := 23) rfl (by simp only [Region.wanted, yielded]; go_simp) (by kernel_rfl) (by kernel_rfl) (by kernel_rfl) (by kernel_rfl) (by kernel_rfl) (fun _ _ _ h => h) hS (fun L W hL hW => by go_simp; rfl) ?_
      refine g_one (i := 16) rfl (by simp only [Region.wanted, yielded]; go_simp) (by kernel_rfl) fun K hK => ?_
      go_simp
      refine Calls.mono (free_any hA) ?_
      rintro e q3 ⟨rfl, hb⟩
      rw [rF]
      have hA3 := hA.below hb
      have hB3 := hB.trans (hb.mono hB.size)
      have hZ3 := hZ.below hb hZ.lt
      have hS3 : q3.cell? ⟨g8, 0, none⟩ = some (.int .i64 (n0 : Int)) ∧ q3.cell? ⟨g8, 1, none⟩ = some (.int .i64 (n1 : Int)) := ⟨Blk.at_ hZ3 0 rfl, Blk.at_ hZ3 1 rfl⟩
      clear hA hB hZ hb
      have hA := hA3
      have hB := hB3
      have hZ := hZ3
      clear hA3 hB3 hZ3
      refine hK _ _ hS3 ?_
      clear hK K hS
      have hS := hS3
      clear hS3
      refine g_takeG (i := 24) rfl (by simp only [Region.wanted, yielded]; go_simp) (by kernel_rfl) (by kernel_rfl) (by kernel_rfl) (by kernel_rfl) (by kernel_rfl) (fun _ _ _ h => h) hS (fun L W hL hW => by go_simp; rfl) ?_
      refine g_take (i := 25) rfl rfl (by kernel_rfl) (by kernel_rfl) (by kernel_rfl) (by kernel_rfl) (by kernel_rfl) (fun _ _ _ h => h) hS (fun L W hL hW => by go_simp; rfl) ?_
      refine wpAnyG_done (by kernel_rfl) ?_ _
      go_simp
      have HPX := Lib.hid hP
      clear hP r0 r1 rF y8 y9 hS
      go_wp2_with fail
      go_roundw
      case rel => exact ⟨i + 1, s', al', sf', F', n0, n1, by omega, by go_num, hA, HPX.out, hZ, hG', hB, HN0, HN1⟩
      case measure => simp [intOf]; omega
    · have u2 : ¬ (i : Int) < (m : Int) := by omega
      go_wp2_with fail
      refine Calls.mono (awake_any _) ?_
      rintro e y99 ⟨rfl, hb⟩
      have hBF := hB.trans (hb.mono hB.size)
      go_wp2_with fail
      go_ret
      exact ⟨rfl, hBF⟩
end Go.Proofs.Ytgajgjijnpigoaa.Dk
