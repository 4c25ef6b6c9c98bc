/-
  The walk of DiskFuse.
-/
import Derived.Test.YtgajgjijnpigoaaDiskPf
namespace Go.Proofs.Ytgajgjijnpigoaa.Dk
set_option linter.unusedVariables false
open Go Go.RowKit Go.Shelf Go.Proofs Go.Proofs.Ytgajgjijnpigoaa Go.Proofs.Ytgajgjijnpigoaa.Wd

theorem made_bytes2 (n : Nat) : madeCells #[Value.int .u8 0] n = (bs (List.replicate n 0)).toArray := by
  apply Array.ext
  · simp [madeCells, bs]
  · intro i h1 h2
    simp [madeCells, bs, Nat.mod_one]
theorem make_run (n : Nat) (hn : n ≤ 100000) (W : World) : (Instr.makeSlice 29 (.int .i64 (n : Int)) (.int .i64 (n : Int))).run Try.prog W = .ok (.slice (some ⟨W.heap.size, 0, none⟩) n n) (W.alloc (.cells (bs (List.replicate n 0)).toArray 5)) := by
  obtain ⟨j0, hj0, hy0, hy1, hy2⟩ := info_parts infoU8
  have h := run_make (P := Try.prog) W 29 5 j0 (.int .u8 0) Try.underlying29 hj0 hy0 .i64 .i64 (n : Int) (n : Int) (by omega) (Int.le_refl _) (by rw [hy2]; omega) (by omega)
  rw [Int.toNat_natCast, hy1, Nat.mul_one] at h
  rw [h, ← made_bytes2]; rfl
theorem new_out {W : World} {b : Nat} {F : Nat → Prop} {g : Nat} {s : DS} (hA : At W b F g s) {k : Nat} (hk : k = W.heap.size) : ∀ x o, (some (⟨k, 0, none⟩ : Addr)) = some ⟨x, o, none⟩ → ¬ F x := fun x o e hf => by cases e; have := (hA.lt hf).2; omega
theorem mod_fact (a n : Nat) (hn : 0 < n) (ha : a < 256) (h256 : n < 256) : ∃ i : Nat, (a : Int).tmod (n : Int) = (i : Int) ∧ IntKind.u8.wrap (i : Int) = (i : Int) ∧ i < n := by
  have hlt := Nat.mod_lt a hn
  exact ⟨a % n, by rw [Int.tmod_eq_emod_of_nonneg (Int.natCast_nonneg _)]; rfl, IntWalk.u8_in _ (by omega), hlt⟩
theorem fresh_form {W : World} {base n : Nat} {v : Value} {l : List UInt8} (hn : n = l.length) (h : W.ownsRow base 5 1 v n (bs l)) : (v = .slice none 0 0 ∧ l = []) ∨ ∃ g c, v = .slice (some ⟨g, 0, none⟩) n c ∧ n ≤ c ∧ c ≤ maxLen ∧ Bytes W W.heap.size (some ⟨g, 0, none⟩) l := by
  subst hn
  have hh := h
  rcases h.2 with ⟨rfl, h0⟩ | ⟨g, cap, cur, rfl, h2⟩
  · left
    obtain ⟨A, c, e, h1, h2, h3⟩ := own_read hh
    injection e with e1 e2 e3
    exact ⟨rfl, List.eq_nil_of_length_eq_zero e2.symm⟩
  · right
    obtain ⟨A, c, e, h1, h2, h3⟩ := own_read hh
    injection e with e1 e2 e3
    subst e1
    subst e3
    exact ⟨_, _, rfl, h1, h2, h3⟩
set_option maxRecDepth 100000 in
set_option maxHeartbeats 4000000 in
theorem fuse_walk (a0 a1 a2 : Nat) (h0 : a0 < 256) (h1 : a1 < 256) (h2 : a2 < 256) (last : Bool) (w : World) :
    Calls Try.prog 8 #[.int .u8 a0, .int .u8 a1, .int .u8 a2, .bool last] w fun e w' => e = .returned (.bool true) ∧ Below w.heap.size w w' := by
  obtain ⟨n, t0, u0, hn⟩ := mod_fact a0 21 (by omega) h0 (by omega)
  obtain ⟨k, t1, u1, hk⟩ := mod_fact a1 51 (by omega) h1 (by omega)
  obtain ⟨z, t2, u2, hz⟩ := mod_fact a2 31 (by omega) h2 (by omega)
  simp only [Int.cast_ofNat_Int] at t0 t1 t2
  clear h0 h1 h2
  go_enter Try.func8, Try.ntmps8
  go_upto_region 2 with fail
  clear t0 t1 t2 u0 u1 u2
  go_wp2_with fail
  refine Calls.mono (new_any 2000 (by decide) w) ?_
  rintro e w0 ⟨rfl, hA, hB⟩
  have P0 := Pf.new_ 2000
  obtain ⟨s0, hs0⟩ : ∃ s0, s0 = newD 2000 := ⟨_, rfl⟩
  rw [← hs0] at hA P0
  obtain ⟨g, hg⟩ : ∃ g, g = w.heap.size := ⟨_, rfl⟩
  obtain ⟨F0, hF0⟩ : ∃ F : Nat → Prop, F = (fun j => j = g) := ⟨_, rfl⟩
  have hA : At w0 w.heap.size F0 g s0 := by rw [hF0, hg]; exact hA
  rw [← hg]
  clear hg hF0 hs0
  go_wp2_with fail
  refine Calls.mono (fuse_any hA (n : Int) (k : Int) (by omega) (by omega)) ?_
  rintro e y1 ⟨⟨v1, rfl⟩, F1, hA3, hfr, hF⟩
  have P1 := P0.lit n k
  obtain ⟨s1, hs1⟩ : ∃ s1, s1 = fuseD (n : Int) (k : Int) s0 := ⟨_, rfl⟩
  rw [← hs1] at hA3 P1
  clear hs1 P0
  have hB3 := hB.trans (hfr.below hB.size fun k hk => (hA.lt hk).1)
  clear hA hB
  have hA := hA3
  have hB := hB3
  clear hA3 hB3
  clear hfr hF
  go_wp2_with fail
  go_loopw [39] (fun ix wr => ∃ (i : Nat) (s : DS) (F : Nat → Prop) (al : Nat → List UInt8), i ≤ n ∧ ix = .int .i64 i ∧ At wr w.heap.size F g s ∧ Pf s 2000 al (some (n - i, k)) false ∧ (al 0).length = (i + 1) / 2 ∧ (al 1).length = i / 2 ∧ Below w.heap.size w wr) (fun ix _ => n - (intOf ix).toNat)
  case atStart => exact ⟨0, s1, F1, _, Nat.zero_le _, rfl, hA, P1, rfl, rfl, hB⟩
  case round =>
    clear hA P1 hB
    obtain ⟨i, s, F, al, hi, rfl, hA, hP, hl0, hl1, hB⟩ := hrel
    by_cases hlt : i < n
    · have i1 : (0 : Int) ≤ (i : Int) := by omega
      have i2 : (i : Int) < (n : Int) := by omega
      have i3 : IntKind.u8.wrap (i : Int) = (i : Int) := IntWalk.u8_in _ (by omega)
      obtain ⟨r, hr⟩ : ∃ r, r = i % 2 := ⟨_, rfl⟩
      have hr2 : r < 2 := by omega
      have i4 : (i : Int).tmod 2 = (r : Int) := by rw [Int.tmod_eq_emod_of_nonneg (Int.natCast_nonneg _)]; omega
      have E1 := Lib.hid (hP.app_arg [])
      have E2 := Lib.hid hP.tr_arg
      have E3 := Lib.hid (hP.full (i := 0) (by omega) (b := List.replicate 3000 0) (by rw [List.length_replicate]; omega))
      have T := (show Pf s 2000 al (some ((n - (i + 1)) + 1, k)) false by rw [show n - (i + 1) + 1 = n - i by omega]; exact hP).app hr2 (b := [UInt8.ofNat i]) (by simp; omega)
      obtain ⟨s', hs'⟩ : ∃ s', s' = (appD s (r : Int) [UInt8.ofNat i]).2 := ⟨_, rfl⟩
      have E4 := Lib.hid T.1
      have hP' := T.2
      rw [← hs'] at hP'
      obtain ⟨al', hal'⟩ : ∃ a, a = upd al r (al r ++ [UInt8.ofNat i]) := ⟨_, rfl⟩
      rw [← hal'] at hP'
      have HL : Hid ((al' 0).length = (i + 1 + 1) / 2 ∧ (al' 1).length = (i + 1) / 2) := Lib.hid (by
        rw [hal']
        rcases (by omega : r = 0 ∨ r = 1) with rfl | rfl
        · rw [upd_eq, upd_ne (by omega), List.length_append]; simp; omega
        · rw [upd_eq, upd_ne (by omega), List.length_append]; simp; omega)
      have HP' := Lib.hid hP'
      have HS' := Lib.hid hs'
      have MK := Lib.hid (make_run 3000 (by omega))
      clear hr T hs' hP' hal' hl0 hl1 hP
      go_wp2_with fail
      refine Calls.mono (append_any hA 5 (n := 0) (c := 0) (b := []) rfl (Nat.le_refl _) (by decide) Row.nil (fun h => absurd rfl h)) ?_
      rintro e y2 ⟨rfl, F2, hA3, hfr, hF⟩
      rw [E1.out] at hA3
      rw [E1.out]
      have hB3 := hB.trans (hfr.below hB.size fun k hk => (hA.lt hk).1)
      clear hA hB
      have hA := hA3
      have hB := hB3
      clear hA3 hB3
      clear hfr hF
      go_wp2_with fail
      refine Calls.mono (trunc_any hA 0 (-1)) ?_
      rintro e y3 ⟨rfl, F3, hA3, hfr, hF⟩
      rw [show trD (2, s).2 0 (-1) = (2, s) from E2.out] at hA3
      rw [show trD (2, s).2 0 (-1) = (2, s) from E2.out]
      have hB3 := hB.trans (hfr.below hB.size fun k hk => (hA.lt hk).1)
      clear hA hB
      have hA := hA3
      have hB := hB3
      clear hA3 hB3
      clear hfr hF
      have hmk := MK.out y3
      obtain ⟨zz, hzz⟩ : ∃ z : List UInt8, z = List.replicate 3000 0 := ⟨_, rfl⟩
      rw [← hzz] at hmk E3
      have HZZ : Hid (3000 = zz.length) := Lib.hid (by rw [hzz, List.length_replicate])
      simp only [Int.cast_ofNat_Int] at hmk
      have hb := (Below.refl y3.heap.size y3).alloc (Nat.le_refl _) (.cells (bs zz).toArray 5)
      have hI := lit_read y3 zz (cs := (bs zz).toArray) rfl
      have hx := new_out hA (k := y3.heap.size) rfl
      clear hzz
      have hA3 := hA.below hb
      have hB3 := hB.trans (hb.mono hB.size)
      clear hA hB
      have hA := hA3
      have hB := hB3
      clear hA3 hB3
      clear hb
      go_wp2_with fail
      clear hmk
      generalize y3.alloc (.cells (bs zz).toArray 5) = y4 at *
      refine Calls.mono (append_any hA 0 (n := 3000) (c := 3000) (b := zz) HZZ.out (Nat.le_refl _) (by decide) hI (fun _ => hx)) ?_
      rintro e y5 ⟨rfl, F5, hA3, hfr, hF⟩
      have E3' : appD (2, s).2 0 zz = (5, s) := E3.out
      rw [E3'] at hA3
      rw [E3']
      clear E3' hI hx
      have hB3 := hB.trans (hfr.below hB.size fun k hk => (hA.lt hk).1)
      clear hA hB
      have hA := hA3
      have hB := hB3
      clear hA3 hB3
      clear hfr hF
      have hb := (Below.refl y5.heap.size y5).alloc (Nat.le_refl _) (.cells #[.int .u8 (i : Int)] 5)
      have hI := lit_read y5 [UInt8.ofNat i] (cs := #[.int .u8 (i : Int)]) (by simp [bs]; omega)
      have hx := new_out hA (k := y5.heap.size) rfl
      have hA3 := hA.below hb
      have hB3 := hB.trans (hb.mono hB.size)
      clear hA hB
      have hA := hA3
      have hB := hB3
      clear hA3 hB3
      clear hb
      go_wp2_with fail
      generalize y5.alloc (.cells #[.int .u8 (i : Int)] 5) = y6 at *
      refine Calls.mono (append_any hA (r : Int) (n := 1) (c := 1) (b := [UInt8.ofNat i]) rfl (Nat.le_refl _) (by decide) hI (fun _ => hx)) ?_
      rintro e y7 ⟨rfl, F7, hA3, hfr, hF⟩
      have hA3 : At y7 w.heap.size F7 g s' := by rw [HS'.out]; exact hA3
      rw [show (appD (5, s).2 (r : Int) [UInt8.ofNat i]).1 = 0 from E4.out]
      clear hI hx
      have hB3 := hB.trans (hfr.below hB.size fun k hk => (hA.lt hk).1)
      clear hA hB
      have hA := hA3
      have hB := hB3
      clear hA3 hB3
      clear hfr hF
      go_wp2_with fail
      go_roundw
      case rel => exact ⟨i + 1, s', F7, al', by omega, by go_num, hA, HP'.out, HL.out.1, HL.out.2, hB⟩
      case measure => simp [intOf]; omega
    · obtain rfl : i = n := by omega
      have u5 : ¬ (i : Int) < (i : Int) := by omega
      rw [Nat.sub_self] at hP
      have hmk := make_run z (by omega) wr
      obtain ⟨l0, hl⟩ : ∃ l : List UInt8, l = List.replicate z 0 := ⟨_, rfl⟩
      rw [← hl] at hmk
      have hlz : l0.length = z := by rw [hl, List.length_replicate]
      have hb := (Below.refl wr.heap.size wr).alloc (Nat.le_refl _) (.cells (bs l0).toArray 5)
      have q := Blk.new_ wr 5 (bs l0).toArray rfl
      have hGB : ¬ F wr.heap.size := fun e => by have := (hA.lt e).2; omega
      have hgB := hB.size
      have HLZ := Lib.hid hlz
      have HL0 := Lib.hid hl0
      have HL1 := Lib.hid hl1
      clear hl hl0 hl1 hlz
      have hA3 := hA.below hb
      have hB3 := hB.trans (hb.mono hB.size)
      clear hA hB
      have hA := hA3
      have hB := hB3
      clear hA3 hB3
      clear hb
      go_wp2_with fail
      clear hmk
      generalize wr.alloc (.cells (bs l0).toArray 5) = y1 at *
      generalize wr.heap.size = gB at *
      go_loopw [71] (fun ix wx => ∃ (j : Nat) (l : List UInt8), j ≤ z ∧ ix = .int .i64 j ∧ Hid (l.length = z) ∧ At wx w.heap.size F g s ∧ Blk wx gB 5 (bs l).toArray ∧ Below w.heap.size w wx) (fun ix _ => z - (intOf ix).toNat)
      case atStart => exact ⟨0, l0, Nat.zero_le _, rfl, HLZ, hA, q, hB⟩
      case round =>
        clear hA q hB
        obtain ⟨j, l, hj, rfl, hlz, hA, q, hB⟩ := hrel
        by_cases hjz : j < z
        · have j1 : (0 : Int) ≤ (j : Int) := by omega
          have j2 : (j : Int) < (z : Int) := by omega
          have j3 : IntKind.u8.wrap (j : Int) = (j : Int) := IntWalk.u8_in _ (by omega)
          have j4 : IntKind.u8.wrap (200 + (j : Int)) = 200 + (j : Int) := IntWalk.u8_in _ (by omega)
          have hjl : j < l.length := by rw [hlz.out]; exact hjz
          have hc := Blk.at_ q j (v := .int .u8 (l[j].toNat : Nat)) (by simp [bs, hjl])
          obtain ⟨ov, hov⟩ : ∃ v, v = Value.int .u8 (l[j].toNat : Nat) := ⟨_, rfl⟩
          rw [← hov] at hc
          have fz := q.frozen j
          obtain ⟨l', hl'⟩ : ∃ l', l' = l.set j (UInt8.ofNat (200 + j)) := ⟨_, rfl⟩
          have e : (bs l).toArray.setIfInBounds j (.int .u8 (200 + (j : Int))) = (bs l').toArray := by
            have h := bs_set l j (UInt8.ofNat (200 + j))
            rw [hl', ← h, List.setIfInBounds_toArray]
            congr 2
            simp; omega
          have q3 := q.set_ j (.int .u8 (200 + (j : Int)))
          rw [e] at q3
          have hfs : Fr (fun x => x = gB) wr (wr.setCell ⟨gB, j, none⟩ (.int .u8 (200 + (j : Int)))) := Fr.setCell (F := fun x => x = gB) (p := ⟨gB, j, none⟩) (Fr.refl _ _) (.inl rfl) _
          have hA3 := hA.fr hfs (fun x hx e => hGB (e ▸ hx))
          have hB3 := hB.trans (hfs.below hB.size fun x e => by cases e; exact hgB)
          have HQ := Lib.hid q3
          have HL' : Hid (l'.length = z) := Lib.hid (by rw [hl', List.length_set]; exact hlz.out)
          clear hA hB q hfs hov hjl e q3 hl'
          go_wp2_with fail
          go_roundw
          case rel => exact ⟨j + 1, l', by omega, by go_num, HL', hA3, HQ.out, hB3⟩
          case measure => simp [intOf]; omega
        · obtain rfl : j = z := by omega
          have u6 : ¬ (j : Int) < (j : Int) := by omega
          go_upto_if 81 with fail
          go_cut [17] (fun v wx => ∃ (s' : DS) (F' : Nat → Prop) (lf : Nat) (al' : Nat → List UInt8), v = .int .i64 lf ∧ lf ≤ j ∧ At wx w.heap.size F' g s' ∧ Pf s' 2000 al' (some (0, k)) true ∧ Hid (al' 0 = al 0 ++ l.take lf) ∧ Hid (al' 1 = al 1) ∧ Blk wx gB 5 (bs l).toArray ∧ ¬ F' gB ∧ Below w.heap.size w wx)
          case first =>
            cases last
            · go_wp2_with fail
              have hI := Bytes.blk q q.lt l rfl
              have hx : ∀ x o, (some (⟨gB, 0, none⟩ : Addr)) = some ⟨x, o, none⟩ → ¬ F x := fun x o e => by cases e; exact hGB
              refine Calls.mono (append_any hA 0 (n := j) (c := j) (b := l) hlz.out.symm (Nat.le_refl _) (by unfold maxLen; omega) hI (fun _ => hx)) ?_
              rintro e y2 ⟨rfl, F2, hA3, hfr, hF⟩
              have T := hP.app_die (i := 0) (by omega) (b := l) (by have := HL0.out; have := HL1.out; have := hlz.out; omega)
              have T1 : (appD s 0 l).1 = 3 := T.1
              rw [T1]
              have hP2 := T.2
              have q3 := q.fr hfr hGB
              have hGB3 := fun e => (hF gB e).elim hGB (fun h => by have := q.lt; omega)
              have HAL0 : Hid (∀ lf, lf = min k j → upd al 0 (al 0 ++ l.take k) 0 = al 0 ++ l.take lf) := Lib.hid fun lf e => by
                rw [upd_eq, e]
                rcases Nat.le_total j k with h | h
                · rw [Nat.min_eq_right h, List.take_of_length_le (by rw [hlz.out]; exact h), List.take_of_length_le (by rw [hlz.out]; exact Nat.le_refl _)]
                · rw [Nat.min_eq_left h]
              have HAL1 : Hid (upd al 0 (al 0 ++ l.take k) 1 = al 1) := Lib.hid (upd_ne (by omega))
              have HP2 := Lib.hid hP2
              clear T T1 hP2 hI hx q
              have hB3 := hB.trans (hfr.below hB.size fun k hk => (hA.lt hk).1)
              clear hA hB
              have hA := hA3
              have hB := hB3
              clear hA3 hB3
              clear hfr hF
              by_cases hkz : j < k
              · have u7 : (j : Int) < (k : Int) := by omega
                go_wp2_with fail
                go_meet
                exact ⟨_, F2, j, _, rfl, Nat.le_refl _, hA, HP2.out, Lib.hid (HAL0.out j (by omega)), HAL1, q3, hGB3, hB⟩
              · have u7 : ¬ (j : Int) < (k : Int) := by omega
                go_wp2_with fail
                go_meet
                exact ⟨_, F2, k, _, rfl, by omega, hA, HP2.out, Lib.hid (HAL0.out k (by omega)), HAL1, q3, hGB3, hB⟩
            · go_wp2_with fail
              refine Calls.mono (sync_any hA 0) ?_
              rintro e y2 ⟨rfl, F2, hA3, hfr, hF⟩
              have T := hP.sync_die (i := 0) (by omega)
              have T1 : (syD s 0).1 = 3 := T.1
              rw [T1]
              have HP2 := Lib.hid T.2
              have q3 := q.fr hfr hGB
              have hGB3 := fun e => (hF gB e).elim hGB (fun h => by have := q.lt; omega)
              clear T T1 q
              have hB3 := hB.trans (hfr.below hB.size fun k hk => (hA.lt hk).1)
              clear hA hB
              have hA := hA3
              have hB := hB3
              clear hA3 hB3
              clear hfr hF
              go_wp2_with fail
              go_meet
              exact ⟨_, F2, 0, al, rfl, Nat.zero_le _, hA, HP2.out, Lib.hid (by simp), Lib.hid rfl, q3, hGB3, hB⟩
          case rest =>
          clear hA hP q hB hGB
          obtain ⟨s', F', lf, al', rfl, hlf, hA, hP, HA0, HA1, q, hGB, hB⟩ := hcut
          have G := hP.gone
          obtain ⟨G1, G2, G3, G4, G5, G6, G7, G8, G9⟩ := G
          have hdd := hP.dead
          have G1 := Lib.hid G1
          have G2 := Lib.hid G2
          have G3 := Lib.hid G3
          have G4 := Lib.hid G4
          have G5 := Lib.hid G5
          have G6 := Lib.hid G6
          have G7 := Lib.hid G7
          have G8 := Lib.hid G8
          have G9 := Lib.hid G9
          have GD := Lib.hid hdd
          have HP := Lib.hid hP
          clear hP hdd
          go_wp2_with fail
          refine Calls.mono (fuse_any hA 9 9 (by omega) (by omega)) ?_
          rintro e x1 ⟨⟨vx1, rfl⟩, E1, hA3, hfr, hF⟩
          rw [G9.out] at hA3
          have q3 := q.fr hfr hGB
          have hGB3 := fun e => (hF gB e).elim hGB (fun h => by have := q.lt; omega)
          have hB3 := hB.trans (hfr.below hB.size fun k hk => (hA.lt hk).1)
          clear hA hB
          have hA := hA3
          have hB := hB3
          clear hA3 hB3
          clear hfr hF q hGB
          have q := q3
          have hGB := hGB3
          clear q3 hGB3
          go_wp2_with fail
          refine Calls.mono (dead_any hA) ?_
          rintro e x2 ⟨rfl, rfl⟩
          rw [GD.out]
          go_wp2_with fail
          refine Calls.mono (append_any hA 0 (n := 0) (c := 0) (b := []) rfl (Nat.le_refl _) (by decide) Row.nil (fun h => absurd rfl h)) ?_
          rintro e x3 ⟨rfl, E3, hA3, hfr, hF⟩
          rw [G1.out] at hA3
          rw [G1.out]
          have q3 := q.fr hfr hGB
          have hGB3 := fun e => (hF gB e).elim hGB (fun h => by have := q.lt; omega)
          have hB3 := hB.trans (hfr.below hB.size fun k hk => (hA.lt hk).1)
          clear hA hB
          have hA := hA3
          have hB := hB3
          clear hA3 hB3
          clear hfr hF q hGB
          have q := q3
          have hGB := hGB3
          clear q3 hGB3
          go_wp2_with fail
          refine Calls.mono (sync_any hA 1) ?_
          rintro e x4 ⟨rfl, E4, hA3, hfr, hF⟩
          rw [show syD (3, s').2 1 = (3, s') from G2.out 1] at hA3
          rw [show syD (3, s').2 1 = (3, s') from G2.out 1]
          have q3 := q.fr hfr hGB
          have hGB3 := fun e => (hF gB e).elim hGB (fun h => by have := q.lt; omega)
          have hB3 := hB.trans (hfr.below hB.size fun k hk => (hA.lt hk).1)
          clear hA hB
          have hA := hA3
          have hB := hB3
          clear hA3 hB3
          clear hfr hF q hGB
          have q := q3
          have hGB := hGB3
          clear q3 hGB3
          go_wp2_with fail
          refine Calls.mono (syncHead_any hA) ?_
          rintro e x5 ⟨rfl, E5, hA3, hfr, hF⟩
          rw [show shD (3, s').2 = (3, s') from G3.out] at hA3
          rw [show shD (3, s').2 = (3, s') from G3.out]
          have q3 := q.fr hfr hGB
          have hGB3 := fun e => (hF gB e).elim hGB (fun h => by have := q.lt; omega)
          have hB3 := hB.trans (hfr.below hB.size fun k hk => (hA.lt hk).1)
          clear hA hB
          have hA := hA3
          have hB := hB3
          clear hA3 hB3
          clear hfr hF q hGB
          have q := q3
          have hGB := hGB3
          clear q3 hGB3
          have hmk := make_run 32 (by omega) x5
          obtain ⟨zz, hzz⟩ : ∃ z : List UInt8, z = List.replicate 32 0 := ⟨_, rfl⟩
          rw [← hzz] at hmk
          have HZZ : Hid (32 = zz.length) := Lib.hid (by rw [hzz, List.length_replicate])
          simp only [Int.cast_ofNat_Int] at hmk
          have hb := (Below.refl x5.heap.size x5).alloc (Nat.le_refl _) (.cells (bs zz).toArray 5)
          have hI := lit_read x5 zz (cs := (bs zz).toArray) rfl
          have hx := new_out hA (k := x5.heap.size) rfl
          clear hzz
          have q3 := q.below hb q.lt
          clear q
          have q := q3
          clear q3
          have hA3 := hA.below hb
          have hB3 := hB.trans (hb.mono hB.size)
          clear hA hB
          have hA := hA3
          have hB := hB3
          clear hA3 hB3
          clear hb
          go_wp2_with fail
          clear hmk
          generalize x5.alloc (.cells (bs zz).toArray 5) = x6 at *
          refine Calls.mono (write_any hA 0 (n := 32) (c := 32) (b := zz) HZZ.out hI (fun _ => hx)) ?_
          rintro e x7 ⟨rfl, E7, hA3, hfr, hF⟩
          rw [show wrD (3, s').2 0 zz = (3, s') from G4.out 0 zz] at hA3
          rw [show wrD (3, s').2 0 zz = (3, s') from G4.out 0 zz]
          clear hI hx
          have q3 := q.fr hfr hGB
          have hGB3 := fun e => (hF gB e).elim hGB (fun h => by have := q.lt; omega)
          have hB3 := hB.trans (hfr.below hB.size fun k hk => (hA.lt hk).1)
          clear hA hB
          have hA := hA3
          have hB := hB3
          clear hA3 hB3
          clear hfr hF q hGB
          have q := q3
          have hGB := hGB3
          clear q3 hGB3
          go_wp2_with fail
          refine Calls.mono (trunc_any hA 0 0) ?_
          rintro e x8 ⟨rfl, E8, hA3, hfr, hF⟩
          rw [show trD (3, s').2 0 0 = (3, s') from G5.out 0 0] at hA3
          rw [show trD (3, s').2 0 0 = (3, s') from G5.out 0 0]
          have q3 := q.fr hfr hGB
          have hGB3 := fun e => (hF gB e).elim hGB (fun h => by have := q.lt; omega)
          have hB3 := hB.trans (hfr.below hB.size fun k hk => (hA.lt hk).1)
          clear hA hB
          have hA := hA3
          have hB := hB3
          clear hA3 hB3
          clear hfr hF q hGB
          have q := q3
          have hGB := hGB3
          clear q3 hGB3
          go_wp2_with fail
          refine Calls.mono (free_any hA) ?_
          rintro e x9 ⟨rfl, hb⟩
          rw [show free (3, s').2 = 0 from G6.out]
          have q3 := q.below hb q.lt
          clear q
          have q := q3
          clear q3
          have hA3 := hA.below hb
          have hB3 := hB.trans (hb.mono hB.size)
          clear hA hB
          have hA := hA3
          have hB := hB3
          clear hA3 hB3
          clear hb
          go_wp2_with fail
          refine Calls.mono (read_any hA 0) ?_
          rintro e x10 ⟨v10, rfl, hown, hb⟩
          rw [show rd (3, s').2 0 = [] from G7.out 0] at hown
          obtain ⟨A10, c10, rfl, -, -, -⟩ := own_read hown
          simp only [List.length_nil]
          clear hown
          have q3 := q.below hb q.lt
          clear q
          have q := q3
          clear q3
          have hA3 := hA.below hb
          have hB3 := hB.trans (hb.mono hB.size)
          clear hA hB
          have hA := hA3
          have hB := hB3
          clear hA3 hB3
          clear hb
          go_wp2_with fail
          refine Calls.mono (head_any hA 0) ?_
          rintro e x11 ⟨A11, c11, rfl, -, -, -, hb, -⟩
          rw [show hd (3, s').2 0 = [] from G8.out 0]
          simp only [List.length_nil]
          have q3 := q.below hb q.lt
          clear q
          have q := q3
          clear q3
          have hA3 := hA.below hb
          have hB3 := hB.trans (hb.mono hB.size)
          clear hA hB
          have hA := hA3
          have hB := hB3
          clear hA3 hB3
          clear hb
          go_wp2_with fail
          refine Calls.mono (crash_any hA kBig (by intro i _; unfold kBig; omega)) ?_
          rintro e x12 ⟨⟨v12, rfl⟩, E12, hA3, hfr, hF⟩
          have P5 := HP.out.crash hA.ok
          obtain ⟨s5, hs5⟩ : ∃ s5, s5 = crashD kBig s' := ⟨_, rfl⟩
          rw [← hs5] at P5
          have hA3 : At x12 w.heap.size E12 g s5 := by rw [hs5]; exact hA3
          clear hs5
          have q3 := q.fr hfr hGB
          have hGB3 := fun e => (hF gB e).elim hGB (fun h => by have := q.lt; omega)
          have hB3 := hB.trans (hfr.below hB.size fun k hk => (hA.lt hk).1)
          clear hA hB
          have hA := hA3
          have hB := hB3
          clear hA3 hB3
          clear hfr hF q hGB
          have q := q3
          have hGB := hGB3
          clear q3 hGB3
          obtain ⟨h, hh⟩ : ∃ h, h = (i + 1) / 2 := ⟨_, rfl⟩
          obtain ⟨h', hh'⟩ : ∃ h, h = i / 2 := ⟨_, rfl⟩
          obtain ⟨N, hN⟩ : ∃ N, N = h + lf := ⟨_, rfl⟩
          have hlN : (al' 0).length = N := by rw [HA0.out, List.length_append, List.length_take, HL0.out, hlz.out]; omega
          have hl1 : (al' 1).length = h' := by rw [HA1.out, HL1.out, hh']
          have HDR : Hid ((al' 0).drop h = l.take lf) := Lib.hid (by rw [HA0.out, hh, ← HL0.out, List.drop_left])
          have HN := Lib.hid hlN
          have HN1 := Lib.hid hl1
          have HTK : Hid (lf = (l.take lf).length) := Lib.hid (by rw [List.length_take, hlz.out]; omega)
          have R0 : rd s5 0 = al' 0 := P5.rd (i := 0) (by omega)
          have R1 : rd s5 1 = al' 1 := P5.rd (i := 1) (by omega)
          have R0 := Lib.hid R0
          have R1 := Lib.hid R1
          have HDD := Lib.hid P5.dead
          have HP5 := Lib.hid P5
          clear P5 hlN hl1
          go_wp2_with fail
          refine Calls.mono (read_any hA 0) ?_
          rintro e x13 ⟨v13, rfl, hown, hb⟩
          rw [R0.out] at hown
          rw [HN.out] at hown
          have hfm := fresh_form HN.out.symm hown
          have HLV : Hid (lf = N - h) := Lib.hid (by omega)
          clear hown
          have q3 := q.below hb q.lt
          have hA3 := hA.below hb
          have hB3 := hB.trans (hb.mono hB.size)
          clear hA hB q hb
          have hA := hA3
          have hB := hB3
          have q := q3
          clear hA3 hB3 q3
          have y1 : IntKind.i64.wrap ((i : Int) + 1) = (i : Int) + 1 := IntWalk.i64_in _ (by omega)
          have y2 : ((i : Int) + 1).tdiv 2 = (h : Int) := by rw [Int.tdiv_eq_ediv_of_nonneg (by omega)]; omega
          have y3 : IntKind.i64.wrap (h : Int) = (h : Int) := IntWalk.i64_in _ (by omega)
          have y4 : IntKind.i64.wrap ((h : Int) + lf) = (N : Int) := by rw [show (h : Int) + lf = N by omega]; exact IntWalk.i64_in _ (by omega)
          have y5 : (i : Int).tdiv 2 = (h' : Int) := by rw [Int.tdiv_eq_ediv_of_nonneg (by omega)]; omega
          have y6 : IntKind.i64.wrap (h' : Int) = (h' : Int) := IntWalk.i64_in _ (by omega)
          have j5 : (0 : Int) ≤ (h : Int) := by omega
          have j6 : (h : Int) ≤ (N : Int) := by omega
          have j7 : (0 : Int) ≤ (lf : Int) := by omega
          have j8 : (lf : Int) ≤ (j : Int) := by omega
          have HNv := Lib.hid hN
          have HHv := Lib.hid hh
          have HHv' := Lib.hid hh'
          clear hh hh' hN
          go_upto_region 30 with fail
          go_cut [174] (fun v wx => v = .bool false ∧ At wx w.heap.size E12 g s5 ∧ Below w.heap.size w wx)
          case first =>
            rcases hfm with ⟨rfl, hnil⟩ | ⟨g13, c13, rfl, hc13, hm13, hr13⟩
            · have hN0 := HN.out
              rw [hnil, List.length_nil] at hN0
              have hn1 := HNv.out
              have hn2 := HHv.out
              have hn3 := HHv'.out
              obtain rfl : i = 0 := by omega
              obtain rfl : h = 0 := by omega
              obtain rfl : lf = 0 := by omega
              obtain rfl : h' = 0 := by omega
              subst hN0
              clear y1 y2 y3 y4 y5 y6 j5 j6 j7 j8 hnil hn1 hn2 hn3
              have z1 : IntKind.i64.wrap 1 = 1 := by decide
              have z2 : IntKind.i64.wrap 0 = 0 := by decide
              have z3 : (1 : Int).tdiv 2 = 0 := by decide
              have z4 : (0 : Int).tdiv 2 = 0 := by decide
              simp only [Int.cast_ofNat_Int] at *
              refine wp_region_heldG [] (fun _ _ => True) (by kernel_rfl) ?_
              change wpAnyG _ _ _ _ _ _ 32 _ _ (World.drew _)
              have hb := (Below.refl x13.heap.size x13).drew
              have q3 := q.below hb q.lt
              clear q
              have q := q3
              clear q3
              have hA3 := hA.below hb
              have hB3 := hB.trans (hb.mono hB.size)
              clear hA hB
              have hA := hA3
              have hB := hB3
              clear hA3 hB3
              clear hb
              generalize x13.drew = u0 at *
              -- take0 one1 take2 take3G take4G take5G take6G take7G take8G take9G take10G take11 take12 take13G take14G take15G take16G take17G take18G take19G take20G one21G take22G take23 take24 take25G take28G take29G one26G take27G take30G take31 done
              refine g_take (i := 0) rfl rfl (by kernel_rfl) (by kernel_rfl) (by kernel_rfl) (by kernel_rfl) (by kernel_rfl) (fun _ _ _ h => h) trivial (fun L W hL hW => by go_simp; rfl) ?_
              refine g_one (i := 1) rfl rfl (by kernel_rfl) fun K hK => ?_
              go_simp
              refine Calls.mono (dead_any hA) ?_
              rintro e u1 ⟨rfl, rfl⟩
              rw [HDD.out]
              refine hK _ _ trivial ?_
              clear hK K
              refine g_take (i := 2) rfl rfl (by kernel_rfl) (by kernel_rfl) (by kernel_rfl) (by kernel_rfl) (by kernel_rfl) (fun _ _ _ h => h) trivial (fun L W hL hW => by go_simp; rfl) ?_
              refine g_takeG (i := 3) rfl (by simp only [Region.wanted, yielded]; go_simp) (by kernel_rfl) (by kernel_rfl) (by kernel_rfl) (by kernel_rfl) (by kernel_rfl) (fun _ _ _ h => h) trivial (fun L W hL hW => by go_simp; rfl) ?_
              refine g_takeG (i := 4) rfl (by simp only [Region.wanted, yielded]; go_simp) (by kernel_rfl) (by kernel_rfl) (by kernel_rfl) (by kernel_rfl) (by kernel_rfl) (fun _ _ _ h => h) trivial (fun L W hL hW => by go_simp; rfl) ?_
              refine g_takeG (i := 5) rfl (by simp only [Region.wanted, yielded]; go_simp) (by kernel_rfl) (by kernel_rfl) (by kernel_rfl) (by kernel_rfl) (by kernel_rfl) (fun _ _ _ h => h) trivial (fun L W hL hW => by go_simp; rfl) ?_
              refine g_takeG (i := 6) rfl (by simp only [Region.wanted, yielded]; go_simp) (by kernel_rfl) (by kernel_rfl) (by kernel_rfl) (by kernel_rfl) (by kernel_rfl) (fun _ _ _ h => h) trivial (fun L W hL hW => by go_simp; rfl) ?_
              refine g_takeG (i := 7) rfl (by simp only [Region.wanted, yielded]; go_simp) (by kernel_rfl) (by kernel_rfl) (by kernel_rfl) (by kernel_rfl) (by kernel_rfl) (fun _ _ _ h => h) trivial (fun L W hL hW => by go_simp; rfl) ?_
              refine g_takeG (i := 8) rfl (by simp only [Region.wanted, yielded]; go_simp) (by kernel_rfl) (by kernel_rfl) (by kernel_rfl) (by kernel_rfl) (by kernel_rfl) (fun _ _ _ h => h) trivial (fun L W hL hW => by go_simp; rfl) ?_
              refine g_takeG (i := 9) rfl (by simp only [Region.wanted, yielded]; go_simp) (by kernel_rfl) (by kernel_rfl) (by kernel_rfl) (by kernel_rfl) (by kernel_rfl) (fun _ _ _ h => h) trivial (fun L W hL hW => by go_simp; rfl) ?_
              refine g_takeG (i := 10) rfl (by simp only [Region.wanted, yielded]; go_simp) (by kernel_rfl) (by kernel_rfl) (by kernel_rfl) (by kernel_rfl) (by kernel_rfl) (fun _ _ _ h => h) trivial (fun L W hL hW => by go_simp; rfl) ?_
              refine g_take (i := 11) rfl rfl (by kernel_rfl) (by kernel_rfl) (by kernel_rfl) (by kernel_rfl) (by kernel_rfl) (fun _ _ _ h => h) trivial (fun L W hL hW => by go_simp; rfl) ?_
              refine g_take (i := 12) rfl rfl (by kernel_rfl) (by kernel_rfl) (by kernel_rfl) (by kernel_rfl) (by kernel_rfl) (fun _ _ _ h => h) trivial (fun L W hL hW => by go_simp; rfl) ?_
              refine g_takeG (i := 13) rfl (by simp only [Region.wanted, yielded]; go_simp) (by kernel_rfl) (by kernel_rfl) (by kernel_rfl) (by kernel_rfl) (by kernel_rfl) (fun _ _ _ h => h) trivial (fun L W hL hW => by go_simp; rfl) ?_
              refine g_takeG (i := 14) rfl (by simp only [Region.wanted, yielded]; go_simp) (by kernel_rfl) (by kernel_rfl) (by kernel_rfl) (by kernel_rfl) (by kernel_rfl) (fun _ _ _ h => h) trivial (fun L W hL hW => by go_simp; rfl) ?_
              refine g_takeG (i := 15) rfl (by simp only [Region.wanted, yielded]; go_simp) (by kernel_rfl) (by kernel_rfl) (by kernel_rfl) (by kernel_rfl) (by kernel_rfl) (fun _ _ _ h => h) trivial (fun L W hL hW => by go_simp; rfl) ?_
              refine g_takeG (i := 16) rfl (by simp only [Region.wanted, yielded]; go_simp) (by kernel_rfl) (by kernel_rfl) (by kernel_rfl) (by kernel_rfl) (by kernel_rfl) (fun _ _ _ h => h) trivial (fun L W hL hW => by go_simp; rfl) ?_
              refine g_takeG (i := 17) rfl (by simp only [Region.wanted, yielded]; go_simp) (by kernel_rfl) (by kernel_rfl) (by kernel_rfl) (by kernel_rfl) (by kernel_rfl) (fun _ _ _ h => h) trivial (fun L W hL hW => by go_simp; rfl) ?_
              refine g_takeG (i := 18) rfl (by simp only [Region.wanted, yielded]; go_simp) (by kernel_rfl) (by kernel_rfl) (by kernel_rfl) (by kernel_rfl) (by kernel_rfl) (fun _ _ _ h => h) trivial (fun L W hL hW => by go_simp; rfl) ?_
              refine g_takeG (i := 19) rfl (by simp only [Region.wanted, yielded]; go_simp) (by kernel_rfl) (by kernel_rfl) (by kernel_rfl) (by kernel_rfl) (by kernel_rfl) (fun _ _ _ h => h) trivial (fun L W hL hW => by go_simp; rfl) ?_
              refine g_takeG (i := 20) rfl (by simp only [Region.wanted, yielded]; go_simp) (by kernel_rfl) (by kernel_rfl) (by kernel_rfl) (by kernel_rfl) (by kernel_rfl) (fun _ _ _ h => h) trivial (fun L W hL hW => by go_simp; rfl) ?_
              refine g_one (i := 21) rfl (by simp only [Region.wanted, yielded]; go_simp) (by kernel_rfl) fun K hK => ?_
              go_simp
              refine Calls.mono (same_any _ _ _ _ [] [] 0 0 rfl rfl _ Row.nil Row.nil) ?_
              rintro e u2 ⟨rfl, rfl⟩
              rw [beq_self_eq_true]
              refine hK _ _ trivial ?_
              clear hK K
              refine g_takeG (i := 22) rfl (by simp only [Region.wanted, yielded]; go_simp) (by kernel_rfl) (by kernel_rfl) (by kernel_rfl) (by kernel_rfl) (by kernel_rfl) (fun _ _ _ h => h) trivial (fun L W hL hW => by go_simp; rfl) ?_
              refine g_take (i := 23) rfl rfl (by kernel_rfl) (by kernel_rfl) (by kernel_rfl) (by kernel_rfl) (by kernel_rfl) (fun _ _ _ h => h) trivial (fun L W hL hW => by go_simp; rfl) ?_
              refine g_take (i := 24) rfl rfl (by kernel_rfl) (by kernel_rfl) (by kernel_rfl) (by kernel_rfl) (by kernel_rfl) (fun _ _ _ h => h) trivial (fun L W hL hW => by go_simp; rfl) ?_
              refine g_takeG (i := 25) rfl (by simp only [Region.wanted, yielded]; go_simp) (by kernel_rfl) (by kernel_rfl) (by kernel_rfl) (by kernel_rfl) (by kernel_rfl) (fun _ _ _ h => h) trivial (fun L W hL hW => by go_simp; rfl) ?_
              refine g_takeG (i := 28) rfl (by simp only [Region.wanted, yielded]; go_simp) (by kernel_rfl) (by kernel_rfl) (by kernel_rfl) (by kernel_rfl) (by kernel_rfl) (fun _ _ _ h => h) trivial (fun L W hL hW => by go_simp; rfl) ?_
              refine g_takeG (i := 29) rfl (by simp only [Region.wanted, yielded]; go_simp) (by kernel_rfl) (by kernel_rfl) (by kernel_rfl) (by kernel_rfl) (by kernel_rfl) (fun _ _ _ h => h) trivial (fun L W hL hW => by go_simp; rfl) ?_
              refine g_one (i := 26) rfl (by simp only [Region.wanted, yielded]; go_simp) (by kernel_rfl) fun K hK => ?_
              go_simp
              refine Calls.mono (read_any hA 1) ?_
              rintro e u3 ⟨w3, rfl, hown, hb⟩
              rw [R1.out] at hown
              obtain ⟨A3, c3, rfl, -, -, -⟩ := own_read hown
              rw [HN1.out]
              clear hown
              have q3 := q.below hb q.lt
              clear q
              have q := q3
              clear q3
              have hA3 := hA.below hb
              have hB3 := hB.trans (hb.mono hB.size)
              clear hA hB
              have hA := hA3
              have hB := hB3
              clear hA3 hB3
              clear hb
              simp only [Int.cast_ofNat_Int]
              refine hK _ _ trivial ?_
              clear hK K
              refine g_takeG (i := 27) rfl (by simp only [Region.wanted, yielded]; go_simp) (by kernel_rfl) (by kernel_rfl) (by kernel_rfl) (by kernel_rfl) (by kernel_rfl) (fun _ _ _ h => h) trivial (fun L W hL hW => by go_simp; rfl) ?_
              refine g_takeG (i := 30) rfl (by simp only [Region.wanted, yielded]; go_simp) (by kernel_rfl) (by kernel_rfl) (by kernel_rfl) (by kernel_rfl) (by kernel_rfl) (fun _ _ _ h => h) trivial (fun L W hL hW => by go_simp; rfl) ?_
              refine g_take (i := 31) rfl rfl (by kernel_rfl) (by kernel_rfl) (by kernel_rfl) (by kernel_rfl) (by kernel_rfl) (fun _ _ _ h => h) trivial (fun L W hL hW => by go_simp; rfl) ?_
              refine wpAnyG_done (by kernel_rfl) ?_ _
              go_simp
              go_wp2_with fail
              go_meet
              exact ⟨by first | rfl | trivial, hA, hB⟩
            · unfold maxLen at hm13
              have hc13' : (h : Int) ≤ (c13 : Int) := by omega
              by_cases hch : h = c13
              · subst hch
                refine wp_region_heldG [] (fun _ _ => True) (by kernel_rfl) ?_
                change wpAnyG _ _ _ _ _ _ 32 _ _ (World.drew _)
                have hb := (Below.refl x13.heap.size x13).drew
                have hr133 := hr13.grow hb
                have q3 := q.below hb q.lt
                clear q
                have q := q3
                clear q3
                have hA3 := hA.below hb
                have hB3 := hB.trans (hb.mono hB.size)
                clear hA hB
                have hA := hA3
                have hB := hB3
                clear hA3 hB3
                clear hb
                generalize x13.drew = u0 at *
                -- take0 one1 take2 take3G take4G take5G take6G take7G take8G take9G take10G take11 take12 take13G take14G take15G take16G take17G take18G take19G take20G one21G take22G take23 take24 take25G take28G take29G one26G take27G take30G take31 done
                refine g_take (i := 0) rfl rfl (by kernel_rfl) (by kernel_rfl) (by kernel_rfl) (by kernel_rfl) (by kernel_rfl) (fun _ _ _ h => h) trivial (fun L W hL hW => by go_simp; rfl) ?_
                refine g_one (i := 1) rfl rfl (by kernel_rfl) fun K hK => ?_
                go_simp
                refine Calls.mono (dead_any hA) ?_
                rintro e u1 ⟨rfl, rfl⟩
                rw [HDD.out]
                refine hK _ _ trivial ?_
                clear hK K
                refine g_take (i := 2) rfl rfl (by kernel_rfl) (by kernel_rfl) (by kernel_rfl) (by kernel_rfl) (by kernel_rfl) (fun _ _ _ h => h) trivial (fun L W hL hW => by go_simp; rfl) ?_
                refine g_takeG (i := 3) rfl (by simp only [Region.wanted, yielded]; go_simp) (by kernel_rfl) (by kernel_rfl) (by kernel_rfl) (by kernel_rfl) (by kernel_rfl) (fun _ _ _ h => h) trivial (fun L W hL hW => by go_simp; rfl) ?_
                refine g_takeG (i := 4) rfl (by simp only [Region.wanted, yielded]; go_simp) (by kernel_rfl) (by kernel_rfl) (by kernel_rfl) (by kernel_rfl) (by kernel_rfl) (fun _ _ _ h => h) trivial (fun L W hL hW => by go_simp; rfl) ?_
                refine g_takeG (i := 5) rfl (by simp only [Region.wanted, yielded]; go_simp) (by kernel_rfl) (by kernel_rfl) (by kernel_rfl) (by kernel_rfl) (by kernel_rfl) (fun _ _ _ h => h) trivial (fun L W hL hW => by go_simp; rfl) ?_
                refine g_takeG (i := 6) rfl (by simp only [Region.wanted, yielded]; go_simp) (by kernel_rfl) (by kernel_rfl) (by kernel_rfl) (by kernel_rfl) (by kernel_rfl) (fun _ _ _ h => h) trivial (fun L W hL hW => by go_simp; rfl) ?_
                refine g_takeG (i := 7) rfl (by simp only [Region.wanted, yielded]; go_simp) (by kernel_rfl) (by kernel_rfl) (by kernel_rfl) (by kernel_rfl) (by kernel_rfl) (fun _ _ _ h => h) trivial (fun L W hL hW => by go_simp; rfl) ?_
                refine g_takeG (i := 8) rfl (by simp only [Region.wanted, yielded]; go_simp) (by kernel_rfl) (by kernel_rfl) (by kernel_rfl) (by kernel_rfl) (by kernel_rfl) (fun _ _ _ h => h) trivial (fun L W hL hW => by go_simp; rfl) ?_
                refine g_takeG (i := 9) rfl (by simp only [Region.wanted, yielded]; go_simp) (by kernel_rfl) (by kernel_rfl) (by kernel_rfl) (by kernel_rfl) (by kernel_rfl) (fun _ _ _ h => h) trivial (fun L W hL hW => by go_simp; rfl) ?_
                refine g_takeG (i := 10) rfl (by simp only [Region.wanted, yielded]; go_simp) (by kernel_rfl) (by kernel_rfl) (by kernel_rfl) (by kernel_rfl) (by kernel_rfl) (fun _ _ _ h => h) trivial (fun L W hL hW => by go_simp; rfl) ?_
                refine g_take (i := 11) rfl rfl (by kernel_rfl) (by kernel_rfl) (by kernel_rfl) (by kernel_rfl) (by kernel_rfl) (fun _ _ _ h => h) trivial (fun L W hL hW => by go_simp; rfl) ?_
                refine g_take (i := 12) rfl rfl (by kernel_rfl) (by kernel_rfl) (by kernel_rfl) (by kernel_rfl) (by kernel_rfl) (fun _ _ _ h => h) trivial (fun L W hL hW => by go_simp; rfl) ?_
                refine g_takeG (i := 13) rfl (by simp only [Region.wanted, yielded]; go_simp) (by kernel_rfl) (by kernel_rfl) (by kernel_rfl) (by kernel_rfl) (by kernel_rfl) (fun _ _ _ h => h) trivial (fun L W hL hW => by go_simp; rfl) ?_
                refine g_takeG (i := 14) rfl (by simp only [Region.wanted, yielded]; go_simp) (by kernel_rfl) (by kernel_rfl) (by kernel_rfl) (by kernel_rfl) (by kernel_rfl) (fun _ _ _ h => h) trivial (fun L W hL hW => by go_simp; rfl) ?_
                refine g_takeG (i := 15) rfl (by simp only [Region.wanted, yielded]; go_simp) (by kernel_rfl) (by kernel_rfl) (by kernel_rfl) (by kernel_rfl) (by kernel_rfl) (fun _ _ _ h => h) trivial (fun L W hL hW => by go_simp; rfl) ?_
                refine g_takeG (i := 16) rfl (by simp only [Region.wanted, yielded]; go_simp) (by kernel_rfl) (by kernel_rfl) (by kernel_rfl) (by kernel_rfl) (by kernel_rfl) (fun _ _ _ h => h) trivial (fun L W hL hW => by go_simp; rfl) ?_
                refine g_takeG (i := 17) rfl (by simp only [Region.wanted, yielded]; go_simp) (by kernel_rfl) (by kernel_rfl) (by kernel_rfl) (by kernel_rfl) (by kernel_rfl) (fun _ _ _ h => h) trivial (fun L W hL hW => by go_simp; rfl) ?_
                refine g_takeG (i := 18) rfl (by simp only [Region.wanted, yielded]; go_simp) (by kernel_rfl) (by kernel_rfl) (by kernel_rfl) (by kernel_rfl) (by kernel_rfl) (fun _ _ _ h => h) trivial (fun L W hL hW => by go_simp; rfl) ?_
                refine g_takeG (i := 19) rfl (by simp only [Region.wanted, yielded]; go_simp) (by kernel_rfl) (by kernel_rfl) (by kernel_rfl) (by kernel_rfl) (by kernel_rfl) (fun _ _ _ h => h) trivial (fun L W hL hW => by go_simp; rfl) ?_
                refine g_takeG (i := 20) rfl (by simp only [Region.wanted, yielded]; go_simp) (by kernel_rfl) (by kernel_rfl) (by kernel_rfl) (by kernel_rfl) (by kernel_rfl) (fun _ _ _ h => h) trivial (fun L W hL hW => by go_simp; rfl) ?_
                refine g_one (i := 21) rfl (by simp only [Region.wanted, yielded]; go_simp) (by kernel_rfl) fun K hK => ?_
                go_simp
                have hl1 : Bytes u0 u0.heap.size (some ⟨gB, 0, none⟩) (l.take lf) := (Bytes.blk q q.lt l rfl).head lf
                refine Calls.mono (same_any _ _ _ _ (l.take lf) (l.take lf) _ _ (by rw [← HTK.out]; have := HLV.out; omega) HTK.out _ ?_ hl1) ?_
                · intro x hx
                  rw [bs_length, ← HTK.out] at hx
                  have := HLV.out
                  omega
                rintro e u2 ⟨rfl, rfl⟩
                rw [beq_self_eq_true]
                clear hl1
                refine hK _ _ trivial ?_
                clear hK K
                refine g_takeG (i := 22) rfl (by simp only [Region.wanted, yielded]; go_simp) (by kernel_rfl) (by kernel_rfl) (by kernel_rfl) (by kernel_rfl) (by kernel_rfl) (fun _ _ _ h => h) trivial (fun L W hL hW => by go_simp; rfl) ?_
                refine g_take (i := 23) rfl rfl (by kernel_rfl) (by kernel_rfl) (by kernel_rfl) (by kernel_rfl) (by kernel_rfl) (fun _ _ _ h => h) trivial (fun L W hL hW => by go_simp; rfl) ?_
                refine g_take (i := 24) rfl rfl (by kernel_rfl) (by kernel_rfl) (by kernel_rfl) (by kernel_rfl) (by kernel_rfl) (fun _ _ _ h => h) trivial (fun L W hL hW => by go_simp; rfl) ?_
                refine g_takeG (i := 25) rfl (by simp only [Region.wanted, yielded]; go_simp) (by kernel_rfl) (by kernel_rfl) (by kernel_rfl) (by kernel_rfl) (by kernel_rfl) (fun _ _ _ h => h) trivial (fun L W hL hW => by go_simp; rfl) ?_
                refine g_takeG (i := 28) rfl (by simp only [Region.wanted, yielded]; go_simp) (by kernel_rfl) (by kernel_rfl) (by kernel_rfl) (by kernel_rfl) (by kernel_rfl) (fun _ _ _ h => h) trivial (fun L W hL hW => by go_simp; rfl) ?_
                refine g_takeG (i := 29) rfl (by simp only [Region.wanted, yielded]; go_simp) (by kernel_rfl) (by kernel_rfl) (by kernel_rfl) (by kernel_rfl) (by kernel_rfl) (fun _ _ _ h => h) trivial (fun L W hL hW => by go_simp; rfl) ?_
                refine g_one (i := 26) rfl (by simp only [Region.wanted, yielded]; go_simp) (by kernel_rfl) fun K hK => ?_
                go_simp
                refine Calls.mono (read_any hA 1) ?_
                rintro e u3 ⟨w3, rfl, hown, hb⟩
                rw [R1.out] at hown
                obtain ⟨A3, c3, rfl, -, -, -⟩ := own_read hown
                rw [HN1.out]
                clear hown
                have q3 := q.below hb q.lt
                clear q
                have q := q3
                clear q3
                have hA3 := hA.below hb
                have hB3 := hB.trans (hb.mono hB.size)
                clear hA hB
                have hA := hA3
                have hB := hB3
                clear hA3 hB3
                clear hb
                refine hK _ _ trivial ?_
                clear hK K
                refine g_takeG (i := 27) rfl (by simp only [Region.wanted, yielded]; go_simp) (by kernel_rfl) (by kernel_rfl) (by kernel_rfl) (by kernel_rfl) (by kernel_rfl) (fun _ _ _ h => h) trivial (fun L W hL hW => by go_simp; rfl) ?_
                refine g_takeG (i := 30) rfl (by simp only [Region.wanted, yielded]; go_simp) (by kernel_rfl) (by kernel_rfl) (by kernel_rfl) (by kernel_rfl) (by kernel_rfl) (fun _ _ _ h => h) trivial (fun L W hL hW => by go_simp; rfl) ?_
                refine g_take (i := 31) rfl rfl (by kernel_rfl) (by kernel_rfl) (by kernel_rfl) (by kernel_rfl) (by kernel_rfl) (fun _ _ _ h => h) trivial (fun L W hL hW => by go_simp; rfl) ?_
                refine wpAnyG_done (by kernel_rfl) ?_ _
                go_simp
                go_wp2_with fail
                go_meet
                exact ⟨by first | rfl | trivial, hA, hB⟩
              · have hch' : ¬ c13 = h := fun e => hch e.symm
                refine wp_region_heldG [] (fun _ _ => True) (by kernel_rfl) ?_
                change wpAnyG _ _ _ _ _ _ 32 _ _ (World.drew _)
                have hb := (Below.refl x13.heap.size x13).drew
                have hr133 := hr13.grow hb
                have q3 := q.below hb q.lt
                clear q
                have q := q3
                clear q3
                have hA3 := hA.below hb
                have hB3 := hB.trans (hb.mono hB.size)
                clear hA hB
                have hA := hA3
                have hB := hB3
                clear hA3 hB3
                clear hb
                generalize x13.drew = u0 at *
                -- take0 one1 take2 take3G take4G take5G take6G take7G take8G take9G take10G take11 take12 take13G take14G take15G take16G take17G take18G take19G take20G one21G take22G take23 take24 take25G take28G take29G one26G take27G take30G take31 done
                refine g_take (i := 0) rfl rfl (by kernel_rfl) (by kernel_rfl) (by kernel_rfl) (by kernel_rfl) (by kernel_rfl) (fun _ _ _ h => h) trivial (fun L W hL hW => by go_simp; rfl) ?_
                refine g_one (i := 1) rfl rfl (by kernel_rfl) fun K hK => ?_
                go_simp
                refine Calls.mono (dead_any hA) ?_
                rintro e u1 ⟨rfl, rfl⟩
                rw [HDD.out]
                refine hK _ _ trivial ?_
                clear hK K
                refine g_take (i := 2) rfl rfl (by kernel_rfl) (by kernel_rfl) (by kernel_rfl) (by kernel_rfl) (by kernel_rfl) (fun _ _ _ h => h) trivial (fun L W hL hW => by go_simp; rfl) ?_
                refine g_takeG (i := 3) rfl (by simp only [Region.wanted, yielded]; go_simp) (by kernel_rfl) (by kernel_rfl) (by kernel_rfl) (by kernel_rfl) (by kernel_rfl) (fun _ _ _ h => h) trivial (fun L W hL hW => by go_simp; rfl) ?_
                refine g_takeG (i := 4) rfl (by simp only [Region.wanted, yielded]; go_simp) (by kernel_rfl) (by kernel_rfl) (by kernel_rfl) (by kernel_rfl) (by kernel_rfl) (fun _ _ _ h => h) trivial (fun L W hL hW => by go_simp; rfl) ?_
                refine g_takeG (i := 5) rfl (by simp only [Region.wanted, yielded]; go_simp) (by kernel_rfl) (by kernel_rfl) (by kernel_rfl) (by kernel_rfl) (by kernel_rfl) (fun _ _ _ h => h) trivial (fun L W hL hW => by go_simp; rfl) ?_
                refine g_takeG (i := 6) rfl (by simp only [Region.wanted, yielded]; go_simp) (by kernel_rfl) (by kernel_rfl) (by kernel_rfl) (by kernel_rfl) (by kernel_rfl) (fun _ _ _ h => h) trivial (fun L W hL hW => by go_simp; rfl) ?_
                refine g_takeG (i := 7) rfl (by simp only [Region.wanted, yielded]; go_simp) (by kernel_rfl) (by kernel_rfl) (by kernel_rfl) (by kernel_rfl) (by kernel_rfl) (fun _ _ _ h => h) trivial (fun L W hL hW => by go_simp; rfl) ?_
                refine g_takeG (i := 8) rfl (by simp only [Region.wanted, yielded]; go_simp) (by kernel_rfl) (by kernel_rfl) (by kernel_rfl) (by kernel_rfl) (by kernel_rfl) (fun _ _ _ h => h) trivial (fun L W hL hW => by go_simp; rfl) ?_
                refine g_takeG (i := 9) rfl (by simp only [Region.wanted, yielded]; go_simp) (by kernel_rfl) (by kernel_rfl) (by kernel_rfl) (by kernel_rfl) (by kernel_rfl) (fun _ _ _ h => h) trivial (fun L W hL hW => by go_simp; rfl) ?_
                refine g_takeG (i := 10) rfl (by simp only [Region.wanted, yielded]; go_simp) (by kernel_rfl) (by kernel_rfl) (by kernel_rfl) (by kernel_rfl) (by kernel_rfl) (fun _ _ _ h => h) trivial (fun L W hL hW => by go_simp; rfl) ?_
                refine g_take (i := 11) rfl rfl (by kernel_rfl) (by kernel_rfl) (by kernel_rfl) (by kernel_rfl) (by kernel_rfl) (fun _ _ _ h => h) trivial (fun L W hL hW => by go_simp; rfl) ?_
                refine g_take (i := 12) rfl rfl (by kernel_rfl) (by kernel_rfl) (by kernel_rfl) (by kernel_rfl) (by kernel_rfl) (fun _ _ _ h => h) trivial (fun L W hL hW => by go_simp; rfl) ?_
                refine g_takeG (i := 13) rfl (by simp only [Region.wanted, yielded]; go_simp) (by kernel_rfl) (by kernel_rfl) (by kernel_rfl) (by kernel_rfl) (by kernel_rfl) (fun _ _ _ h => h) trivial (fun L W hL hW => by go_simp; rfl) ?_
                refine g_takeG (i := 14) rfl (by simp only [Region.wanted, yielded]; go_simp) (by kernel_rfl) (by kernel_rfl) (by kernel_rfl) (by kernel_rfl) (by kernel_rfl) (fun _ _ _ h => h) trivial (fun L W hL hW => by go_simp; rfl) ?_
                refine g_takeG (i := 15) rfl (by simp only [Region.wanted, yielded]; go_simp) (by kernel_rfl) (by kernel_rfl) (by kernel_rfl) (by kernel_rfl) (by kernel_rfl) (fun _ _ _ h => h) trivial (fun L W hL hW => by go_simp; rfl) ?_
                refine g_takeG (i := 16) rfl (by simp only [Region.wanted, yielded]; go_simp) (by kernel_rfl) (by kernel_rfl) (by kernel_rfl) (by kernel_rfl) (by kernel_rfl) (fun _ _ _ h => h) trivial (fun L W hL hW => by go_simp; rfl) ?_
                refine g_takeG (i := 17) rfl (by simp only [Region.wanted, yielded]; go_simp) (by kernel_rfl) (by kernel_rfl) (by kernel_rfl) (by kernel_rfl) (by kernel_rfl) (fun _ _ _ h => h) trivial (fun L W hL hW => by go_simp; rfl) ?_
                refine g_takeG (i := 18) rfl (by simp only [Region.wanted, yielded]; go_simp) (by kernel_rfl) (by kernel_rfl) (by kernel_rfl) (by kernel_rfl) (by kernel_rfl) (fun _ _ _ h => h) trivial (fun L W hL hW => by go_simp; rfl) ?_
                refine g_takeG (i := 19) rfl (by simp only [Region.wanted, yielded]; go_simp) (by kernel_rfl) (by kernel_rfl) (by kernel_rfl) (by kernel_rfl) (by kernel_rfl) (fun _ _ _ h => h) trivial (fun L W hL hW => by go_simp; rfl) ?_
                refine g_takeG (i := 20) rfl (by simp only [Region.wanted, yielded]; go_simp) (by kernel_rfl) (by kernel_rfl) (by kernel_rfl) (by kernel_rfl) (by kernel_rfl) (fun _ _ _ h => h) trivial (fun L W hL hW => by go_simp; rfl) ?_
                refine g_one (i := 21) rfl (by simp only [Region.wanted, yielded]; go_simp) (by kernel_rfl) fun K hK => ?_
                go_simp
                have hl1 : Bytes u0 u0.heap.size (some ⟨gB, 0, none⟩) (l.take lf) := (Bytes.blk q q.lt l rfl).head lf
                refine Calls.mono (same_any _ _ _ _ (l.take lf) (l.take lf) _ _ (by rw [← HTK.out]; have := HLV.out; omega) HTK.out _ ?_ hl1) ?_
                · have hp := hr133.part h N
                  rw [Nat.zero_add, List.take_of_length_le (by rw [HN.out]; exact Nat.le_refl _), HDR.out] at hp
                  exact hp
                rintro e u2 ⟨rfl, rfl⟩
                rw [beq_self_eq_true]
                clear hl1
                refine hK _ _ trivial ?_
                clear hK K
                refine g_takeG (i := 22) rfl (by simp only [Region.wanted, yielded]; go_simp) (by kernel_rfl) (by kernel_rfl) (by kernel_rfl) (by kernel_rfl) (by kernel_rfl) (fun _ _ _ h => h) trivial (fun L W hL hW => by go_simp; rfl) ?_
                refine g_take (i := 23) rfl rfl (by kernel_rfl) (by kernel_rfl) (by kernel_rfl) (by kernel_rfl) (by kernel_rfl) (fun _ _ _ h => h) trivial (fun L W hL hW => by go_simp; rfl) ?_
                refine g_take (i := 24) rfl rfl (by kernel_rfl) (by kernel_rfl) (by kernel_rfl) (by kernel_rfl) (by kernel_rfl) (fun _ _ _ h => h) trivial (fun L W hL hW => by go_simp; rfl) ?_
                refine g_takeG (i := 25) rfl (by simp only [Region.wanted, yielded]; go_simp) (by kernel_rfl) (by kernel_rfl) (by kernel_rfl) (by kernel_rfl) (by kernel_rfl) (fun _ _ _ h => h) trivial (fun L W hL hW => by go_simp; rfl) ?_
                refine g_takeG (i := 28) rfl (by simp only [Region.wanted, yielded]; go_simp) (by kernel_rfl) (by kernel_rfl) (by kernel_rfl) (by kernel_rfl) (by kernel_rfl) (fun _ _ _ h => h) trivial (fun L W hL hW => by go_simp; rfl) ?_
                refine g_takeG (i := 29) rfl (by simp only [Region.wanted, yielded]; go_simp) (by kernel_rfl) (by kernel_rfl) (by kernel_rfl) (by kernel_rfl) (by kernel_rfl) (fun _ _ _ h => h) trivial (fun L W hL hW => by go_simp; rfl) ?_
                refine g_one (i := 26) rfl (by simp only [Region.wanted, yielded]; go_simp) (by kernel_rfl) fun K hK => ?_
                go_simp
                refine Calls.mono (read_any hA 1) ?_
                rintro e u3 ⟨w3, rfl, hown, hb⟩
                rw [R1.out] at hown
                obtain ⟨A3, c3, rfl, -, -, -⟩ := own_read hown
                rw [HN1.out]
                clear hown
                have q3 := q.below hb q.lt
                clear q
                have q := q3
                clear q3
                have hA3 := hA.below hb
                have hB3 := hB.trans (hb.mono hB.size)
                clear hA hB
                have hA := hA3
                have hB := hB3
                clear hA3 hB3
                clear hb
                refine hK _ _ trivial ?_
                clear hK K
                refine g_takeG (i := 27) rfl (by simp only [Region.wanted, yielded]; go_simp) (by kernel_rfl) (by kernel_rfl) (by kernel_rfl) (by kernel_rfl) (by kernel_rfl) (fun _ _ _ h => h) trivial (fun L W hL hW => by go_simp; rfl) ?_
                refine g_takeG (i := 30) rfl (by simp only [Region.wanted, yielded]; go_simp) (by kernel_rfl) (by kernel_rfl) (by kernel_rfl) (by kernel_rfl) (by kernel_rfl) (fun _ _ _ h => h) trivial (fun L W hL hW => by go_simp; rfl) ?_
                refine g_take (i := 31) rfl rfl (by kernel_rfl) (by kernel_rfl) (by kernel_rfl) (by kernel_rfl) (by kernel_rfl) (fun _ _ _ h => h) trivial (fun L W hL hW => by go_simp; rfl) ?_
                refine wpAnyG_done (by kernel_rfl) ?_ _
                go_simp
                go_wp2_with fail
                go_meet
                exact ⟨by first | rfl | trivial, hA, hB⟩
          case rest =>
          clear hA hB hfm q
          obtain ⟨rfl, hA, hB⟩ := hcut
          have hP := HP5.out
          have hle : (al' 0).length + (al' 1).length ≤ 100 + 0 := by rw [HN.out, HN1.out]; have := HNv.out; have := HHv.out; have := HHv'.out; omega
          clear y1 y2 y3 y4 y5 y6 j5 j6 j7 j8
          go_wp2_with fail
          go_loopw [175] (fun ix wr => ∃ (j : Nat) (s : DS) (F : Nat → Prop) (al : Nat → List UInt8), j ≤ 30 ∧ ix = .int .i64 j ∧ At wr w.heap.size F g s ∧ Pf s 2000 al none false ∧ (al 0).length + (al 1).length ≤ 100 + j ∧ Below w.heap.size w wr) (fun ix _ => 30 - (intOf ix).toNat)
          case atStart => exact ⟨0, s5, E12, al', Nat.zero_le _, rfl, hA, hP, hle, hB⟩
          case round =>
            clear hA hP hle hB
            obtain ⟨j, s, F, al, hj, rfl, hA, hP, hle, hB⟩ := hrel
            by_cases hj3 : j < 30
            · have j2 : (j : Int) < 30 := by omega
              have T := hP.app_none (i := 1) (by omega) (b := [1]) (by simp; omega)
              have T1 : (appD s 1 [1]).1 = 0 := T.1
              obtain ⟨s9, hs9⟩ : ∃ s9, s9 = (appD s 1 [1]).2 := ⟨_, rfl⟩
              obtain ⟨al9, hal9⟩ : ∃ a, a = upd al 1 (al 1 ++ [1]) := ⟨_, rfl⟩
              have T2 : Pf s9 2000 al9 none false := by rw [hs9, hal9]; exact T.2
              have hle9 : (al9 0).length + (al9 1).length ≤ 100 + (j + 1) := by
                rw [hal9, upd_eq, upd_ne (by omega), List.length_append]; simp; omega
              have T2 := Lib.hid T2
              have T1 := Lib.hid T1
              have HS9 := Lib.hid hs9
              have HLE := Lib.hid hle9
              clear T hs9 hal9 hle9 hle hP
              have hb := (Below.refl wr.heap.size wr).alloc (Nat.le_refl _) (.cells #[.int .u8 1] 5)
              have hI := lit_read wr [1] (cs := #[.int .u8 1]) rfl
              have hx := new_out hA (k := wr.heap.size) rfl
              have hA3 := hA.below hb
              have hB3 := hB.trans (hb.mono hB.size)
              clear hA hB
              have hA := hA3
              have hB := hB3
              clear hA3 hB3
              clear hb
              go_wp2_with fail
              generalize wr.alloc (.cells #[.int .u8 1] 5) = x20 at *
              refine Calls.mono (append_any hA 1 (n := 1) (c := 1) (b := [1]) rfl (Nat.le_refl _) (by decide) hI (fun _ => hx)) ?_
              rintro e x21 ⟨rfl, E21, hA3, hfr, hF⟩
              rw [← HS9.out] at hA3
              rw [T1.out]
              clear hI hx
              have hB3 := hB.trans (hfr.below hB.size fun k hk => (hA.lt hk).1)
              clear hA hB
              have hA := hA3
              have hB := hB3
              clear hA3 hB3
              clear hfr hF
              go_wp2_with fail
              go_roundw
              case rel => exact ⟨j + 1, s9, E21, al9, by omega, by go_num, hA, T2.out, HLE.out, hB⟩
              case measure => simp [intOf]; omega
            · have j2 : ¬ (j : Int) < 30 := by omega
              clear hle hP
              go_wp2_with fail
              refine Calls.mono (awake_any _) ?_
              rintro e x30 ⟨rfl, hb⟩
              have hBF := hB.trans (hb.mono hB.size)
              go_wp2_with fail
              go_ret
              exact ⟨rfl, hBF⟩
end Go.Proofs.Ytgajgjijnpigoaa.Dk
