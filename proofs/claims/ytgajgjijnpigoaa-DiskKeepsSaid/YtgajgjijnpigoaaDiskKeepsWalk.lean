/-
  The walk of DiskKeeps.
-/
import Derived.Test.YtgajgjijnpigoaaDiskRows
namespace Go.Proofs.Ytgajgjijnpigoaa.Dk
set_option linter.unusedVariables false
open Go Go.RowKit Go.Shelf Go.Proofs Go.Proofs.Ytgajgjijnpigoaa Go.Proofs.Ytgajgjijnpigoaa.Wd

theorem of_args {W : World} {B b : Nat} {A : Option Addr} {l : List UInt8} {F : Nat → Prop} {g : Nat} {s : DS} (h : Bytes W B A l) (hA : At W b F g s) (hb : B ≤ b) : l ≠ [] → ∀ x o, A = some ⟨x, o, none⟩ → ¬ F x := fun hne x o e hf => by
  rcases l with _ | ⟨u, r⟩
  · exact hne rfl
  · obtain ⟨y, off, e', hy, _⟩ := h.at_ (j := 0) (by simp)
    rw [e] at e'
    cases e'
    have := (hA.lt hf).1
    omega
theorem lower {W : World} {b b' : Nat} {F : Nat → Prop} {g : Nat} {s : DS} (h : At W b F g s) (hb : b' ≤ b) : At W b' F g s := by
  obtain ⟨cs, v, vf, R, fb, h⟩ := h
  exact ⟨cs, v, vf, R, fb, h.ok, h.blk, h.cells, h.row, h.fuse, h.fg, h.fR, h.ff, h.apart, fun k hk => ⟨Nat.le_trans hb (h.lo k hk).1, (h.lo k hk).2⟩⟩
section
variable {W W' : World} {base : Nat} {F F' : Nat → Prop} {v : Value} {l : List UInt8}
theorem Own.next (h : Own W base F v l) (hf : Fr F W W') (hF : ∀ k, F' k → F k ∨ W.heap.size ≤ k) : Own W' base F' v l := by
  refine ⟨own_keep h.1 fun r hr => ?_, fun r hr hf' => ?_⟩
  · obtain ⟨_, cs, hc⟩ := own_row h.1 hr
    exact hf.block r hc.lt (h.2 r hr)
  · obtain ⟨_, cs, hc⟩ := own_row h.1 hr
    rcases hF r hf' with h1 | h1
    · exact h.2 r hr h1
    · have := hc.lt; omega
theorem Own.below (h : Own W base F v l) (hb : Below W.heap.size W W') : Own W' base F v l := ⟨own_belowW h.1 hb, h.2⟩
theorem Own.bytes {A : Option Addr} {n c : Nat} (h : Own W base F (.slice A n c) l) : Bytes W W.heap.size A l := by
  obtain ⟨A', c', e, -, -, hr⟩ := own_bytes h.1
  cases e
  exact hr
end
set_option maxRecDepth 100000 in
set_option maxHeartbeats 4000000 in
theorem keeps_walk (A : Option Addr) (c : Nat) (ls : List (List UInt8)) (n : Nat) (hn : n = ls.length) (hnc : n ≤ c) (hcm : c ≤ maxLen) (C : Option Addr) (d : Nat) (ms : List Bool) (p : Nat) (hp : p = ms.length) (hpd : p ≤ d) (hdm : d ≤ maxLen)
    (keep again : Nat → Int) (hkp : ∀ i, i < 4 → -9223372036854775808 ≤ keep i ∧ keep i ≤ 9223372036854775807) (hag : ∀ i, i < 4 → -9223372036854775808 ≤ again i ∧ again i ≤ 9223372036854775807) (w : World)
    (hI : BRows w w.heap.size A ls) (hM : Row w w.heap.size C (ms.map Value.bool)) :
    Calls Try.prog 3 #[.slice A n c, .slice C p d, .agg #[.int .i64 (keep 0), .int .i64 (keep 1), .int .i64 (keep 2), .int .i64 (keep 3)], .agg #[.int .i64 (again 0), .int .i64 (again 1), .int .i64 (again 2), .int .i64 (again 3)]] w fun e w' => e = .returned (.bool true) ∧ Below w.heap.size w w' := by
  unfold maxLen at hcm hdm
  obtain ⟨i0, hi0, hz0, hz1, hz2⟩ := info_parts infoU8
  have HKP := Lib.hid hkp
  have HAG := Lib.hid hag
  obtain ⟨base, hbase⟩ : ∃ b, b = w.heap.size + 2 := ⟨_, rfl⟩
  have hK0 := (Blk.new_ w 24 #[.int .i64 (keep 0), .int .i64 (keep 1), .int .i64 (keep 2), .int .i64 (keep 3)] rfl).alloc (.cells #[.int .i64 (again 0), .int .i64 (again 1), .int .i64 (again 2), .int .i64 (again 3)] 24)
  have hK1 := Blk.new_ (w.alloc (.cells #[.int .i64 (keep 0), .int .i64 (keep 1), .int .i64 (keep 2), .int .i64 (keep 3)] 24)) 24 #[.int .i64 (again 0), .int .i64 (again 1), .int .i64 (again 2), .int .i64 (again 3)] (n := w.heap.size + 1) (by simp)
  have hB0 := ((Below.refl w.heap.size w).alloc (Nat.le_refl _) (.cells #[.int .i64 (keep 0), .int .i64 (keep 1), .int .i64 (keep 2), .int .i64 (keep 3)] 24)).alloc (by simp) (.cells #[.int .i64 (again 0), .int .i64 (again 1), .int .i64 (again 2), .int .i64 (again 3)] 24)
  have hsz : ((w.alloc (.cells #[.int .i64 (keep 0), .int .i64 (keep 1), .int .i64 (keep 2), .int .i64 (keep 3)] 24)).alloc (.cells #[.int .i64 (again 0), .int .i64 (again 1), .int .i64 (again 2), .int .i64 (again 3)] 24)).heap.size = base := by simp [hbase]
  have hbw : w.heap.size + 2 ≤ base := by omega
  clear hbase
  have HNL := Lib.hid hn
  have HPL := Lib.hid hp
  obtain ⟨m, hm⟩ : ∃ m, m = min n 40 := ⟨_, rfl⟩
  have HMM := Lib.hid hm
  have hmc : (m : Int) ≤ (c : Int) := by omega
  have hm40 : m ≤ 40 := by omega
  have hmn : m ≤ n := by omega
  clear hm hn hp hkp hag
  go_enter Try.func3, Try.ntmps3
  go_upto_region 1 with fail
  generalize (w.alloc (.cells #[.int .i64 (keep 0), .int .i64 (keep 1), .int .i64 (keep 2), .int .i64 (keep 3)] 24)).alloc (.cells #[.int .i64 (again 0), .int .i64 (again 1), .int .i64 (again 2), .int .i64 (again 3)] 24) = w2 at *
  have HI : Hid (∀ W, Below base w2 W → BRows W w.heap.size A ls) := Lib.hid fun W hW => (hI.below hB0).below (hW.mono (by omega))
  have HM : Hid (∀ W, Below base w2 W → Row W w.heap.size C (ms.map Value.bool)) := Lib.hid fun W hW => Row.below (Row.below hM hB0) (hW.mono (by omega))
  clear hI hM
  go_wp2_with fail
  refine Calls.mono (new_any 16384 (by decide) w2) ?_
  rintro e w0 ⟨rfl, hA, hB⟩
  have P0 := Pl.new_ 16384
  obtain ⟨s0, hs0⟩ : ∃ s0, s0 = newD 16384 := ⟨_, rfl⟩
  rw [← hs0] at hA P0
  rw [hsz] at hA hB
  obtain ⟨g, hg⟩ : ∃ g, g = w2.heap.size := ⟨_, rfl⟩
  obtain ⟨F0, hF0⟩ : ∃ F : Nat → Prop, F = (fun j => j = g) := ⟨_, rfl⟩
  have hA : At w0 base F0 g s0 := by rw [hF0, hg, hsz]; exact hA
  rw [← hg]
  have hbz : base ≤ w0.heap.size := by rw [← hsz]; exact hB.size
  clear hg hF0 hs0
  have hZ := (Blk.new_ w0 30 #[.slice none 0 0, .slice none 0 0] (n := w0.heap.size) rfl).alloc (.cells #[.slice none 0 0, .slice none 0 0] 30)
  have hY := Blk.new_ (w0.alloc (.cells #[.slice none 0 0, .slice none 0 0] 30)) 30 #[.slice none 0 0, .slice none 0 0] (n := w0.heap.size + 1) (by simp)
  have hb8 := ((Below.refl w0.heap.size w0).alloc (Nat.le_refl _) (.cells #[.slice none 0 0, .slice none 0 0] 30)).alloc (by simp) (.cells #[.slice none 0 0, .slice none 0 0] 30)
  have hGZ : ¬ F0 w0.heap.size := fun e => by have := (hA.lt e).2; omega
  have hGY : ¬ F0 (w0.heap.size + 1) := fun e => by have := (hA.lt e).2; omega
  have hA3 := hA.below hb8
  have hB3 := hB.trans (hb8.mono hbz)
  clear hA hB hb8
  have hA := hA3
  have hB := hB3
  clear hA3 hB3
  go_upto_region 5 with fail
  generalize (w0.alloc (.cells #[.slice none 0 0, .slice none 0 0] 30)).alloc (.cells #[.slice none 0 0, .slice none 0 0] 30) = w1 at *
  have hne : w0.heap.size ≠ w0.heap.size + 1 := by omega
  have hg12 : base ≤ w0.heap.size + 1 := by omega
  generalize w0.heap.size + 1 = g12 at *
  generalize w0.heap.size = g11 at *
  have hg11 := hbz
  clear hbz
  go_cut [31, 32, 33] (fun v31 v32 v33 wx => v31 = .slice A m c ∧ v32 = .int .i64 (m : Int) ∧ v33 = .int .i64 0 ∧ wx = w1)
  case first =>
    have hm := HMM.out
    by_cases h80 : 40 < n
    · obtain rfl : m = 40 := by omega
      have u1 : (40 : Int) < (n : Int) := by omega
      clear hm
      simp only [Int.cast_ofNat_Int] at *
      go_wp2_with fail
      go_meet
      exact ⟨rfl, rfl, rfl, rfl⟩
    · obtain rfl : m = n := by omega
      have u1 : ¬ (40 : Int) < (m : Int) := by omega
      clear hm
      go_wp2_with fail
      go_meet
      exact ⟨rfl, rfl, rfl, rfl⟩
  case rest =>
  obtain ⟨rfl, rfl, rfl, rfl⟩ := hcut
  have h4 : Four wc base F0 (fun _ => .slice none 0 0) (fl (fun _ => []) (fun _ => 0)) := (Four.none_ _ _ _).re (fun i hi => by unfold fl; split <;> rfl)
  go_wp2_with fail
  go_loopw [33] (fun ix wr => ∃ (i : Nat) (s : DS) (al : Nat → List UInt8) (sf : Nat → Nat) (F : Nat → Prop) (v : Nat → Value), i ≤ m ∧ ix = .int .i64 i ∧ At wr base F g s ∧ Pl s 16384 al sf ∧ Four wr base F v (fl al sf) ∧ Blk wr g11 30 #[v 0, v 1] ∧ Blk wr g12 30 #[v 2, v 3] ∧ ¬ F g11 ∧ ¬ F g12 ∧ Below base w2 wr ∧ (al 0).length + (al 1).length ≤ 40 * i) (fun ix _ => m - (intOf ix).toNat)
  case atStart => exact ⟨0, s0, _, _, F0, _, Nat.zero_le _, rfl, hA, P0, h4, hZ, hY, hGZ, hGY, hB, by simp⟩
  case round =>
    clear hA P0 h4 hZ hY hGZ hGY hB
    obtain ⟨i, s, al, sf, F, v, hi, rfl, hA, hP, h4, hZ, hY, hGZ, hGY, hB, hlen⟩ := hrel
    by_cases hlt : i < m
    · have hil : i < ls.length := by have := HNL.out; omega
      obtain ⟨b1, o1, A', c', rfl, hb1, hcx, hlc', hcm', hI'⟩ := HI.out _ hB i hil
      generalize ls[i] = b0 at *
      obtain ⟨nb, hnb⟩ : ∃ nb, nb = b0.length := ⟨_, rfl⟩
      rw [← hnb] at hcx hlc'
      obtain ⟨mb, hmb⟩ : ∃ mb, mb = min nb 40 := ⟨_, rfl⟩
      obtain ⟨b, hb⟩ : ∃ b, b = b0.take mb := ⟨_, rfl⟩
      have HMB : Hid (mb = b.length) := Lib.hid (by rw [hb, List.length_take]; omega)
      have hI2 : Bytes wr w.heap.size A' b := hb ▸ hI'.head mb
      obtain ⟨k, hk⟩ : ∃ k, k = nb % 2 := ⟨_, rfl⟩
      have hk2 : k < 2 := by omega
      have k1 : (0 : Int) ≤ (k : Int) := by omega
      have k2 : (k : Int) < 2 := by omega
      have hmb40 : mb ≤ 40 := by omega
      have hmbn : mb ≤ nb := by omega
      have i1 : (0 : Int) ≤ (i : Int) := by omega
      have i2 : (i : Int) < (m : Int) := by omega
      have t1 : (nb : Int).tmod 2 = (k : Int) := by rw [Int.tmod_eq_emod_of_nonneg (Int.natCast_nonneg _)]; omega
      have HMI := Lib.hid hmb
      unfold maxLen at hcm'
      have hmc' : (mb : Int) ≤ (c' : Int) := by omega
      clear hk hmb hnb hb hI'
      go_upto_region 9 with fail
      clear t1 hcx
      go_cut [14] (fun v14 wx => v14 = .slice A' mb c' ∧ wx = wr)
      case first =>
        have hm := HMI.out
        clear HI HM
        by_cases h40 : 40 < nb
        · obtain rfl : mb = 40 := by omega
          have u1 : (40 : Int) < (nb : Int) := by omega
          clear hm
          simp only [Int.cast_ofNat_Int] at *
          go_wp2_with fail
          go_meet
          exact ⟨rfl, rfl⟩
        · obtain rfl : mb = nb := by omega
          have u1 : ¬ (40 : Int) < (mb : Int) := by omega
          clear hm
          go_wp2_with fail
          go_meet
          exact ⟨rfl, rfl⟩
      case rest =>
      obtain ⟨rfl, rfl⟩ := hcut
      have hbl : b.length ≤ 40 := by have := HMB.out; omega
      go_wp2_with fail
      refine Calls.mono (append_any hA (k : Int) (n := mb) (c := c') (b := b) HMB.out (by omega) (by unfold maxLen; omega) (hI2.more (by have := hB.size; omega)) (of_args hI2 hA (by omega))) ?_
      rintro e y1 ⟨rfl, F1, hA3, hfr, hF⟩
      have T := hP.append hk2 (b := b) (by omega)
      rw [T.1]
      have hP1 := T.2
      obtain ⟨s1, hs1⟩ : ∃ s1, s1 = (appD s (k : Int) b).2 := ⟨_, rfl⟩
      rw [← hs1] at hA3 hP1
      have hsl : ∀ i, i < 2 → sf i ≤ (al i).length := fun i hi => by have := hA.ok.safe i hi; rw [hP.safe i hi, hP.all i hi] at this; exact this
      clear T hP hs1
      have hI3 : Bytes y1 w.heap.size A' b := Row.below hI2 (hfr.below (by have := hB.size; omega) fun k hk => by have := (hA.lt hk).1; omega)
      have hGZ3 := fun e => (hF g11 e).elim hGZ (fun h => by have := hZ.lt; omega)
      have hGY3 := fun e => (hF g12 e).elim hGY (fun h => by have := hY.lt; omega)
      have hZ3 := hZ.fr hfr hGZ
      have hY3 := hY.fr hfr hGY
      have h43 := h4.next hfr hF
      have hB3 := hB.trans (hfr.below (by have := hB.size; omega) fun k hk => (hA.lt hk).1)
      clear hGZ hGY hfr hF
      have hGZ := hGZ3
      have hGY := hGY3
      clear hGZ3 hGY3
      clear hA hB hZ hY h4
      have hA := hA3
      have hB := hB3
      have hZ := hZ3
      have hY := hY3
      have h4 := h43
      clear hA3 hB3 hZ3 hY3 h43
      obtain ⟨al1, hal1⟩ : ∃ a, a = upd al k (al k ++ b) := ⟨_, rfl⟩
      rw [← hal1] at hP1
      have HAL := Lib.hid hal1
      have hlen1 : (al1 0).length + (al1 1).length ≤ 40 * (i + 1) := by
        rw [hal1]
        rcases (by omega : k = 0 ∨ k = 1) with rfl | rfl
        · rw [upd_eq, upd_ne (by omega), List.length_append]; omega
        · rw [upd_eq, upd_ne (by omega), List.length_append]; omega
      obtain ⟨Ak, ck, hvk, hck, hcmk, -⟩ := h4.form (i := k) (by omega)
      have hown := (h4.own k (by omega)).1
      rw [fl_lo _ _ hk2] at hvk hck hown
      obtain ⟨La, hLa⟩ : ∃ La, La = (al k).length := ⟨_, rfl⟩
      rw [← hLa] at hvk hck hown
      have hLs : La ≤ 1600 := by rcases (by omega : k = 0 ∨ k = 1) with rfl | rfl <;> omega
      have hcz : y1.cell? ⟨g11, k, none⟩ = some (.slice Ak La ck) := Blk.at_ hZ k (by rw [pair_get v hk2, hvk])
      rw [hvk] at hown
      have HLA := Lib.hid hLa
      have HSL := Lib.hid hsl
      have HLEN := Lib.hid hlen1
      clear hLa hsl hlen hlen1 hal1
      go_wp2_with (at_builtin; refine wpList_append_row _ rfl (.tmp 54) (.tmp 55) _ rfl base 5 i0 _ 1 Try.underlying29 hi0 hz0 hz1 hz2 rfl _ La (bs (al k)) rfl hown w.heap.size A' mb c' (bs b) rfl (by rw [bs_length]; exact HMB.out) hI3 (bs_one b) (by unfold maxLen; omega) (by omega) (by have := hB.size; omega) ?_)
      intro v56 x2 ho hgr _ hv
      rw [← bs_append] at ho
      have hfg : Fr (fun j => (v k).ownBlock = some j) y1 x2 := Fr.of_grown hgr (fun g e => by rw [hvk]; exact e)
      have hA3 := hA.fr hfg (fun j hj e => (h4.own k (by omega)).2 j e hj)
      have hZ3 := hZ.fr hfg (h4.notblk (by omega) hZ (by decide))
      have hY3 := hY.fr hfg (h4.notblk (by omega) hY (by decide))
      have hB3 := hB.trans (hfg.below (by have := hB.size; omega) fun j e => (h4.lt (by omega) e).1)
      have h43 := (h4.grown (k := k) (by omega) ho (by rw [List.length_append, ← HMB.out, ← HLA.out]) (by rw [hvk]; exact hgr) (by rw [hvk]; exact hv) (fun x hx => (hA.lt hx).2)).re (fun i hi => fl_app hk2 b HSL.out hi)
      rw [← HAL.out] at h43
      clear hA hB hZ hY h4 hgr hv hfg hown hcz
      obtain ⟨A56, c56, rfl⟩ := own_form ho
      have hfz := hZ3.frozen k
      have hcz2 : x2.cell? ⟨g11, k, none⟩ = some (.slice Ak La ck) := Blk.at_ hZ3 k (by rw [pair_get v hk2, hvk])
      obtain ⟨u, hu⟩ : ∃ u, u = Value.slice A56 (La + mb) c56 := ⟨_, rfl⟩
      have hfs : Fr (fun j => j = g11) x2 (x2.setCell ⟨g11, k, none⟩ u) := Fr.setCell (F := fun j => j = g11) (p := ⟨g11, k, none⟩) (Fr.refl _ x2) (.inl rfl) _
      have hA := hA3.fr hfs (fun j hj e => hGZ (e ▸ hj))
      have hB := hB3.trans (hfs.below (by have := hB3.size; omega) fun j e => by cases e; exact hg11)
      rw [← hu] at h43
      have h4 := h43.far hZ3 (by decide) hfs
      have hZ := hZ3.set_ k u
      have hY := hY3.far (p := ⟨g11, k, none⟩) (fun e => hne e.symm) u
      rw [(pair_lo v hk2 u).1] at hZ
      rw [(pair_lo v hk2 u).2] at hY
      clear hA3 hB3 hZ3 hY3 h43 hfs ho
      generalize upd v k u = v1 at *
      subst hu
      go_upto_region 13 with fail
      clear hfz hcz2
      generalize x2.setCell ⟨g11, k, none⟩ (.slice A56 (La + mb) c56) = x3 at *
      go_cut [67] (fun v wx => (∃ y, v = .bool y) ∧ wx = x3)
      case first =>
        by_cases hip : i < p
        · have hiq : i < ms.length := by have := HPL.out; omega
          obtain ⟨b3, o3, rfl, hb3, hc3⟩ := HM.out _ hB i (by simpa using hiq)
          have hcy : x3.cell? ⟨b3, o3 + i, none⟩ = some (.bool ms[i]) := by rw [hc3]; simp
          have u3 : (i : Int) < (p : Int) := by omega
          go_wp2_with fail
          go_meet
          exact ⟨⟨_, rfl⟩, rfl⟩
        · have u3 : ¬ (i : Int) < (p : Int) := by omega
          go_wp2_with fail
          go_meet
          exact ⟨⟨_, rfl⟩, rfl⟩
      case rest =>
      obtain ⟨⟨y, rfl⟩, rfl⟩ := hcut
      go_upto_if 67 with fail
      go_cut [] (fun wx => ∃ (s' : DS) (sf' : Nat → Nat) (F' : Nat → Prop) (v' : Nat → Value), At wx base F' g s' ∧ Pl s' 16384 al1 sf' ∧ Four wx base F' v' (fl al1 sf') ∧ Blk wx g11 30 #[v' 0, v' 1] ∧ Blk wx g12 30 #[v' 2, v' 3] ∧ ¬ F' g11 ∧ ¬ F' g12 ∧ Below base w2 wx)
      case first =>
        cases y
        · go_wp2_with fail
          go_meet
          exact ⟨s1, sf, F1, v1, hA, hP1, h4, hZ, hY, hGZ, hGY, hB⟩
        · go_wp2_with fail
          refine Calls.mono (sync_any hA (k : Int)) ?_
          rintro e y4 ⟨rfl, F4, hA3, hfr, hF⟩
          have T := hP1.sync hk2
          rw [T.1]
          have hP2 := T.2
          obtain ⟨s4, hs4⟩ : ∃ s4, s4 = (syD s1 (k : Int)).2 := ⟨_, rfl⟩
          rw [← hs4] at hA3 hP2
          clear T hs4
          have hGZ3 := fun e => (hF g11 e).elim hGZ (fun h => by have := hZ.lt; omega)
          have hGY3 := fun e => (hF g12 e).elim hGY (fun h => by have := hY.lt; omega)
          have hZ3 := hZ.fr hfr hGZ
          have hY3 := hY.fr hfr hGY
          have h43 := h4.next hfr hF
          have hB3 := hB.trans (hfr.below (by have := hB.size; omega) fun k hk => (hA.lt hk).1)
          clear hGZ hGY hfr hF
          have hGZ := hGZ3
          have hGY := hGY3
          clear hGZ3 hGY3
          clear hA hB hZ hY h4
          have hA := hA3
          have hB := hB3
          have hZ := hZ3
          have hY := hY3
          have h4 := h43
          clear hA3 hB3 hZ3 hY3 h43
          obtain ⟨A7, c7, hv7, hc7, hcm7, hb7⟩ := h4.form (i := k) (by omega)
          rw [fl_lo _ _ hk2] at hv7 hc7 hb7
          obtain ⟨L7, hL7⟩ : ∃ L7, L7 = (al1 k).length := ⟨_, rfl⟩
          rw [← hL7] at hv7 hc7
          have hL7s : L7 ≤ 1600 := by have := HLEN.out; rcases (by omega : k = 0 ∨ k = 1) with rfl | rfl <;> omega
          have hcz : (y4.alloc (.cells #[] 5)).cell? ⟨g11, k, none⟩ = some (.slice A7 L7 c7) := Blk.at_ (hZ.alloc (.cells #[] 5)) k (by rw [pair_get v1 hk2, hv7])
          have HL7 := Lib.hid hL7
          rw [← hL7] at hP2
          clear hL7
          have hYB := (Below.refl y4.heap.size y4).alloc (Nat.le_refl _) (.cells #[] 5)
          have hb8 := Row.below hb7 hYB
          have hfz := (hY.below hYB hY.lt).frozen k
          go_wp2_with (at_builtin; refine wpList_append_row _ rfl (.tmp 73) (.tmp 76) _ rfl y4.heap.size 5 i0 _ 1 Try.underlying29 hi0 hz0 hz1 hz2 rfl _ 0 [] rfl (by exact own_empty _ _ (Nat.le_refl _)) y4.heap.size A7 L7 c7 (bs (al1 k)) rfl (by rw [bs_length]; exact HL7.out) hb8 (bs_one _) (by unfold maxLen; omega) (by omega) (by simp) ?_)
          intro v77 x5 ho hgr _ hv
          have hU := hYB.grown hgr (by simp) (by simp [Value.ownBlock])
          have ho : x5.ownsRow y4.heap.size 5 1 v77 L7 (bs (al1 k)) := by simpa using ho
          have hbase4 : base ≤ y4.heap.size := by have := hB.size; omega
          have h43 := (h4.fresh hU (k := 2 + k) (by omega) (own_base ho hbase4) HL7.out (fun r hr => (own_row ho hr).1) (fun x hx => (hA.lt hx).2)).re (fun i hi => fl_sync hk2 hi)
          rw [← HL7.out] at h43
          have hA3 := hA.below hU
          have hZ3 := hZ.below hU hZ.lt
          have hY3 := hY.below hU hY.lt
          have hB3 := hB.trans (hU.mono hbase4)
          clear hA hB hZ hY h4 hgr hv hcz hb7 hb8 hYB hfz
          obtain ⟨A56, c56, rfl⟩ := own_form ho
          have hfz := hY3.frozen k
          have hcz2 : x5.cell? ⟨g12, k, none⟩ = some (v1 (2 + k)) := Blk.at_ hY3 k (pair_get2 v1 hk2)
          obtain ⟨u, hu⟩ : ∃ u, u = Value.slice A56 L7 c56 := ⟨_, rfl⟩
          have hfs : Fr (fun j => j = g12) x5 (x5.setCell ⟨g12, k, none⟩ u) := Fr.setCell (F := fun j => j = g12) (p := ⟨g12, k, none⟩) (Fr.refl _ x5) (.inl rfl) _
          have hA := hA3.fr hfs (fun j hj e => hGY (e ▸ hj))
          have hB := hB3.trans (hfs.below (by have := hB3.size; omega) fun j e => by cases e; exact hg12)
          rw [← hu] at h43
          have h4 := h43.far hY3 (by decide) hfs
          have hY := hY3.set_ k u
          have hZ := hZ3.far (p := ⟨g12, k, none⟩) hne u
          rw [(pair_hi v1 hk2 u).1] at hY
          rw [(pair_hi v1 hk2 u).2] at hZ
          clear hA3 hB3 hZ3 hY3 h43 hfs ho hU
          generalize upd v1 (2 + k) u = v4 at *
          subst hu
          go_wp2_with fail
          go_meet
          exact ⟨s4, _, F4, v4, hA, hP2, h4, hZ, hY, hGZ, hGY, hB⟩
      case rest =>
      clear hA hP1 h4 hZ hY hGZ hGY hB
      obtain ⟨s', sf', F', v', hA, hP, h4, hZ, hY, hGZ, hGY, hB⟩ := hcut
      have r17 : rd s' k = al1 k := hP.rd hk2
      obtain ⟨A8, c8, hv8, hc8, hcm8, hb8⟩ := h4.form (i := k) (by omega)
      rw [fl_lo _ _ hk2] at hv8 hb8
      obtain ⟨L8, hL8⟩ : ∃ L, L = (al1 k).length := ⟨_, rfl⟩
      rw [← hL8] at hv8
      have HL8 := Lib.hid hL8
      clear hL8 hc8
      go_wp2_with fail
      refine wp_region_heldG [] (fun _ W => W.cell? ⟨g11, k, none⟩ = some (.slice A8 L8 c8)) (by kernel_rfl) ?_
      change wpAnyG _ _ _ _ _ _ 8 _ _ (World.drew _)
      have hb := (Below.refl wc.heap.size wc).drew
      have hb8 := Bytes.grow (show Bytes wc wc.heap.size A8 (al1 k) from hb8) hb
      have hA3 := hA.below hb
      have hZ3 := hZ.below hb hZ.lt
      have hY3 := hY.below hb hY.lt
      have h43 := h4.below hb
      have hB3 := hB.trans (hb.mono (by have := hB.size; omega))
      clear hb
      clear hA hB hZ hY h4
      have hA := hA3
      have hB := hB3
      have hZ := hZ3
      have hY := hY3
      have h4 := h43
      clear hA3 hB3 hZ3 hY3 h43
      generalize wc.drew = u9 at *
      have hS : u9.cell? ⟨g11, k, none⟩ = some (.slice A8 L8 c8) := Blk.at_ hZ k (by rw [pair_get v' hk2, hv8])
      -- take0 take1 take3 take4 take5 one2 one6 take7 done
      refine g_take (i := 0) rfl rfl (by kernel_rfl) (by kernel_rfl) (by kernel_rfl) (by kernel_rfl) (by kernel_rfl) (fun _ _ _ h => h) hS (fun L W hL hW => by go_simp; rfl) ?_
      refine g_take (i := 1) rfl rfl (by kernel_rfl) (by kernel_rfl) (by kernel_rfl) (by kernel_rfl) (by kernel_rfl) (fun _ _ _ h => h) hS (fun L W hL hW => by go_simp; rfl) ?_
      refine g_take (i := 3) rfl rfl (by kernel_rfl) (by kernel_rfl) (by kernel_rfl) (by kernel_rfl) (by kernel_rfl) (fun _ _ _ h => h) hS (fun L W hL hW => by go_simp; rfl) ?_
      refine g_take (i := 4) rfl rfl (by kernel_rfl) (by kernel_rfl) (by kernel_rfl) (by kernel_rfl) (by kernel_rfl) (fun _ _ _ h => h) hS (fun L W hL hW => by go_simp; rfl) ?_
      refine g_take (i := 5) rfl rfl (by kernel_rfl) (by kernel_rfl) (by kernel_rfl) (by kernel_rfl) (by kernel_rfl) (fun _ _ _ h => h) hS (fun L W hL hW => by have q1 := hW; go_simp; rfl) ?_
      refine g_one (i := 2) rfl rfl (by kernel_rfl) fun K hK => ?_
      go_simp
      refine Calls.mono (read_any hA (k : Int)) ?_
      rintro e y17 ⟨v17, rfl, hown, hb⟩
      rw [r17] at hown
      obtain ⟨A17, c17, rfl, -, -, hr17⟩ := own_read hown
      clear hown
      have hb8 := hb8.grow hb
      have hA3 := hA.below hb
      have hZ3 := hZ.below hb hZ.lt
      have hY3 := hY.below hb hY.lt
      have h43 := h4.below hb
      have hB3 := hB.trans (hb.mono (by have := hB.size; omega))
      clear hb
      clear hA hB hZ hY h4
      have hA := hA3
      have hB := hB3
      have hZ := hZ3
      have hY := hY3
      have h4 := h43
      clear hA3 hB3 hZ3 hY3 h43
      have hS3 : y17.cell? ⟨g11, k, none⟩ = some (.slice A8 L8 c8) := Blk.at_ hZ k (by rw [pair_get v' hk2, hv8])
      refine hK _ _ hS3 ?_
      clear hK K hS
      have hS := hS3
      clear hS3
      refine g_one (i := 6) rfl rfl (by kernel_rfl) fun K hK => ?_
      go_simp
      refine Calls.mono (same_any _ _ _ _ _ _ _ _ rfl HL8.out _ hr17 hb8) ?_
      rintro e y18 ⟨rfl, rfl⟩
      rw [beq_self_eq_true]
      refine hK _ _ hS ?_
      clear hK K hr17
      refine g_take (i := 7) rfl rfl (by kernel_rfl) (by kernel_rfl) (by kernel_rfl) (by kernel_rfl) (by kernel_rfl) (fun _ _ _ h => h) hS (fun L W hL hW => by go_simp; rfl) ?_
      refine wpAnyG_done (by kernel_rfl) ?_ _
      go_simp
      have HPX := Lib.hid hP
      have H4 := Lib.hid h4
      clear hP h4 hS hb8
      go_wp2_with fail
      go_roundw
      case rel => exact ⟨i + 1, s', al1, sf', F', v', by omega, by go_num, hA, HPX.out, H4.out, hZ, hY, hGZ, hGY, hB, HLEN.out⟩
      case measure => simp [intOf]; omega
    · have u5 : ¬ (i : Int) < (m : Int) := by omega
      have hsl : ∀ i, i < 2 → sf i ≤ (al i).length := fun i hi => by have := hA.ok.safe i hi; rw [hP.safe i hi, hP.all i hi] at this; exact this
      have P5 := hP.crash keep
      obtain ⟨lf, hlf⟩ : ∃ lf, lf = left keep al sf := ⟨_, rfl⟩
      obtain ⟨a5, ha5⟩ : ∃ a, a = fun i => (al i).take (lf i) := ⟨_, rfl⟩
      rw [← hlf, ← ha5] at P5
      have hlv : ∀ i, i < 2 → lf i = sf i + min (keep i).toNat ((al i).length - sf i) := fun i _ => by rw [hlf]; rfl
      have hl5 : ∀ i, i < 2 → (a5 i).length = lf i := fun i hi => by rw [ha5]; show ((al i).take (lf i)).length = _; rw [List.length_take]; have := hlv i hi; have := hsl i hi; omega
      obtain ⟨s5, hs5⟩ : ∃ s5, s5 = crashD keep s := ⟨_, rfl⟩
      rw [← hs5] at P5
      have P6 := P5.crash again
      obtain ⟨s6, hs6⟩ : ∃ s6, s6 = crashD again s5 := ⟨_, rfl⟩
      rw [← hs6] at P6
      have r5 : ∀ i : Nat, i < 2 → rd s5 (i : Int) = a5 i := fun i hi => P5.rd hi
      have r6 : ∀ i : Nat, i < 2 → rd s6 (i : Int) = a5 i := fun i hi => by
        rw [P6.rd hi]
        refine List.take_of_length_le ?_
        unfold left
        rw [hl5 i hi]; omega
      have f6 : free s6 = 16384 - (a5 0).length - (a5 1).length := by
        have e : ∀ i, i < 2 → (a5 i).take (left again a5 lf i) = a5 i := fun i hi => List.take_of_length_le (by unfold left; rw [hl5 i hi]; omega)
        rw [P6.free]
        show 16384 - ((a5 0).take (left again a5 lf 0)).length - ((a5 1).take (left again a5 lf 1)).length = _
        rw [e 0 (by omega), e 1 (by omega)]
      have b1 : ∀ i, i < 2 → (((al i).take (sf i)) == (a5 i).take ((al i).take (sf i)).length) = true := fun i hi => by
        rw [ha5]
        show (((al i).take (sf i)) == ((al i).take (lf i)).take ((al i).take (sf i)).length) = true
        rw [List.take_take, List.length_take, show min (min (sf i) (al i).length) (lf i) = sf i by have := hlv i hi; have := hsl i hi; omega]
        exact beq_self_eq_true _
      have b2 : ∀ i, i < 2 → ((a5 i) == (al i).take (a5 i).length) = true := fun i hi => by
        rw [hl5 i hi, ha5]
        exact beq_self_eq_true _
      have hLM : ∀ i, i < 2 → (al i).length ≤ 1600 := fun i hi => by rcases (by omega : i = 0 ∨ i = 1) with rfl | rfl <;> omega
      have hzk0 := hK0.below hB (by omega)
      have HSL := Lib.hid hsl
      have HLV := Lib.hid hlv
      have HL5 := Lib.hid hl5
      have HR5 := Lib.hid r5
      have HR6 := Lib.hid r6
      have HF6 := Lib.hid f6
      have HB1 := Lib.hid b1
      have HB2 := Lib.hid b2
      have HLM := Lib.hid hLM
      have HS6 := Lib.hid hs6
      clear P5 P6 hlf ha5 hs6 hP hsl hlv hl5 r5 r6 f6 b1 b2 hLM
      go_wp2_with (refine wpList_load_row rfl 24 (.tmp 6) rfl w.heap.size rfl 24 _ _ _ hzk0.out Try.underlying24 rfl (by kernel_rfl) ?_)
      refine Calls.mono (crash_any hA keep HKP.out) ?_
      rintro e y1 ⟨⟨v0, rfl⟩, F5, hA3, hfr, hF⟩
      rw [← hs5] at hA3
      clear hzk0 hs5
      have hGZ3 := fun e => (hF g11 e).elim hGZ (fun h => by have := hZ.lt; omega)
      have hGY3 := fun e => (hF g12 e).elim hGY (fun h => by have := hY.lt; omega)
      have hZ3 := hZ.fr hfr hGZ
      have hY3 := hY.fr hfr hGY
      have h43 := h4.next hfr hF
      have hB3 := hB.trans (hfr.below (by have := hB.size; omega) fun k hk => (hA.lt hk).1)
      clear hGZ hGY hfr hF
      have hGZ := hGZ3
      have hGY := hGY3
      clear hGZ3 hGY3
      clear hA hB hZ hY h4
      have hA := hA3
      have hB := hB3
      have hZ := hZ3
      have hY := hY3
      have h4 := h43
      clear hA3 hB3 hZ3 hY3 h43
      go_wp2_with fail
      go_loopw [91] (fun ix wr => ∃ (i : Nat), i ≤ 2 ∧ ix = .int .i64 i ∧ At wr base F5 g s5 ∧ Four wr base F5 v (fl al sf) ∧ Blk wr g11 30 #[v 0, v 1] ∧ Blk wr g12 30 #[v 2, v 3] ∧ Below base w2 wr) (fun ix _ => 2 - (intOf ix).toNat)
      case atStart => exact ⟨0, by omega, rfl, hA, h4, hZ, hY, hB⟩
      case round =>
        clear hA h4 hZ hY hB
        obtain ⟨k, hk2', rfl, hA, h4, hZ, hY, hB⟩ := hrel
        by_cases hk2 : k < 2
        · have k1 : (0 : Int) ≤ (k : Int) := by omega
          have k2 : (k : Int) < 2 := by omega
          have k4 : (k : Int) < 4 := by omega
          have r5 := HR5.out k hk2
          have hkv := HKP.out k (by omega)
          go_wp2_with fail
          refine Calls.mono (read_any hA (k : Int)) ?_
          rintro e y17 ⟨v17, rfl, hown, hb⟩
          rw [r5] at hown
          obtain ⟨A17, c17, rfl, hc17, hcm17, hr17⟩ := own_read hown
          clear hown r5
          unfold maxLen at hcm17
          obtain ⟨N, hN⟩ : ∃ N, N = (a5 k).length := ⟨_, rfl⟩
          rw [← hN] at hc17
          have hA3 := hA.below hb
          have hZ3 := hZ.below hb hZ.lt
          have hY3 := hY.below hb hY.lt
          have h43 := h4.below hb
          have hB3 := hB.trans (hb.mono (by have := hB.size; omega))
          clear hb
          clear hA hB hZ hY h4
          have hA := hA3
          have hB := hB3
          have hZ := hZ3
          have hY := hY3
          have h4 := h43
          clear hA3 hB3 hZ3 hY3 h43
          have hlm := HLM.out k hk2
          have hl5 := HL5.out k hk2
          have hlv := HLV.out k hk2
          have hsl := HSL.out k hk2
          obtain ⟨A8, c8, hv8, hc8, hcm8, hb8⟩ := h4.form (i := k) (by omega)
          rw [fl_lo _ _ hk2] at hv8 hc8 hb8
          obtain ⟨L8, hL8⟩ : ∃ L, L = (al k).length := ⟨_, rfl⟩
          rw [← hL8] at hv8 hc8 hlm hlv hsl
          obtain ⟨A9, c9, hv9, hc9, hcm9, hb9⟩ := h4.form (i := 2 + k) (by omega)
          rw [fl_hi] at hv9 hc9 hb9
          obtain ⟨L9, hL9⟩ : ∃ L, L = ((al k).take (sf k)).length := ⟨_, rfl⟩
          rw [← hL9] at hv9 hc9
          have hL9s : L9 = sf k := by rw [hL9, List.length_take]; omega
          rw [← hL9s] at hlv hsl
          rw [← hl5, ← hN] at hlv
          rw [← hN]
          have HN := Lib.hid hN
          have HL8 := Lib.hid hL8
          have HL9 := Lib.hid hL9
          unfold maxLen at hcm8 hcm9
          clear hN hL8 hL9 hL9s hl5
          have g1 := Blk.at_ hZ k (by rw [pair_get v hk2, hv8])
          have g2 := Blk.at_ hY k (by rw [pair_get2 v hk2, hv9])
          obtain ⟨kv, hkeq⟩ : ∃ x, x = keep k := ⟨_, rfl⟩
          have hzk0 := hK0.below hB (by omega)
          have g3 : y17.cell? ⟨w.heap.size, k, none⟩ = some (.int .i64 kv) := by
            rw [hkeq]
            rcases (by omega : k = 0 ∨ k = 1) with rfl | rfl
            · exact Blk.at_ hzk0 0 rfl
            · exact Blk.at_ hzk0 1 rfl
          rw [← hkeq] at hlv hkv
          clear hkeq hzk0
          have HLW := Lib.hid hlv
          clear hlv
          obtain ⟨q, hq⟩ : ∃ q, q = L8 - L9 := ⟨_, rfl⟩
          have y3 : IntKind.i64.wrap ((L8 : Int) - L9) = (q : Int) := by rw [show (L8 : Int) - L9 = q by omega]; exact IntWalk.i64_in _ (by omega)
          go_upto_region 25 with fail
          go_cut [18] (fun v wx => v = .int .i64 (N : Int) ∧ wx = y17.drew)
          case first =>
            have hlv := HLW.out
            clear HI HM hA h4 hZ hY hB hb8 hb9 hr17 hK0 hK1
            by_cases hk0 : kv < 0
            · obtain rfl : L9 = N := by omega
              have y4 : IntKind.i64.wrap (L9 : Int) = (L9 : Int) := IntWalk.i64_in _ (by omega)
              have y5 : IntKind.i64.wrap ((L9 : Int) + 0) = (L9 : Int) := by rw [show (L9 : Int) + 0 = L9 by omega]; exact IntWalk.i64_in _ (by omega)
              have u1 : ¬ (q : Int) < 0 := by omega
              clear hkv hq hlv hsl hlm
              refine wp_region_heldG [] (fun _ W => W.cell? ⟨g11, k, none⟩ = some (.slice A8 L8 c8) ∧ W.cell? ⟨g12, k, none⟩ = some (.slice A9 L9 c9) ∧ W.cell? ⟨w.heap.size, k, none⟩ = some (.int .i64 kv)) (by kernel_rfl) ?_
              change wpAnyG _ _ _ _ _ _ 20 _ _ (World.drew _)
              have hS := (show y17.drew.cell? _ = _ ∧ y17.drew.cell? _ = _ ∧ y17.drew.cell? _ = _ from ⟨g1, g2, g3⟩)
              -- take0 take1 take2 take3 take4 take5 take6 take8 take9 take10 take11 take12 take13 take14 take15 take16 one7 one17 take18 take19 done
              refine g_take (i := 0) rfl rfl (by kernel_rfl) (by kernel_rfl) (by kernel_rfl) (by kernel_rfl) (by kernel_rfl) (fun _ _ _ h => h) hS (fun L W hL hW => by go_simp; rfl) ?_
              refine g_take (i := 1) rfl rfl (by kernel_rfl) (by kernel_rfl) (by kernel_rfl) (by kernel_rfl) (by kernel_rfl) (fun _ _ _ h => h) hS (fun L W hL hW => by go_simp; rfl) ?_
              refine g_take (i := 2) rfl rfl (by kernel_rfl) (by kernel_rfl) (by kernel_rfl) (by kernel_rfl) (by kernel_rfl) (fun _ _ _ h => h) hS (fun L W hL hW => by obtain ⟨q1, q2, q3⟩ := hW; go_simp; rfl) ?_
              refine g_take (i := 3) rfl rfl (by kernel_rfl) (by kernel_rfl) (by kernel_rfl) (by kernel_rfl) (by kernel_rfl) (fun _ _ _ h => h) hS (fun L W hL hW => by go_simp; rfl) ?_
              refine g_take (i := 4) rfl rfl (by kernel_rfl) (by kernel_rfl) (by kernel_rfl) (by kernel_rfl) (by kernel_rfl) (fun _ _ _ h => h) hS (fun L W hL hW => by go_simp; rfl) ?_
              refine g_take (i := 5) rfl rfl (by kernel_rfl) (by kernel_rfl) (by kernel_rfl) (by kernel_rfl) (by kernel_rfl) (fun _ _ _ h => h) hS (fun L W hL hW => by go_simp; rfl) ?_
              refine g_take (i := 6) rfl rfl (by kernel_rfl) (by kernel_rfl) (by kernel_rfl) (by kernel_rfl) (by kernel_rfl) (fun _ _ _ h => h) hS (fun L W hL hW => by obtain ⟨q1, q2, q3⟩ := hW; go_simp; rfl) ?_
              refine g_take (i := 8) rfl rfl (by kernel_rfl) (by kernel_rfl) (by kernel_rfl) (by kernel_rfl) (by kernel_rfl) (fun _ _ _ h => h) hS (fun L W hL hW => by go_simp; rfl) ?_
              refine g_take (i := 9) rfl rfl (by kernel_rfl) (by kernel_rfl) (by kernel_rfl) (by kernel_rfl) (by kernel_rfl) (fun _ _ _ h => h) hS (fun L W hL hW => by go_simp; rfl) ?_
              refine g_take (i := 10) rfl rfl (by kernel_rfl) (by kernel_rfl) (by kernel_rfl) (by kernel_rfl) (by kernel_rfl) (fun _ _ _ h => h) hS (fun L W hL hW => by obtain ⟨q1, q2, q3⟩ := hW; go_simp; rfl) ?_
              refine g_take (i := 11) rfl rfl (by kernel_rfl) (by kernel_rfl) (by kernel_rfl) (by kernel_rfl) (by kernel_rfl) (fun _ _ _ h => h) hS (fun L W hL hW => by go_simp; rfl) ?_
              refine g_take (i := 12) rfl rfl (by kernel_rfl) (by kernel_rfl) (by kernel_rfl) (by kernel_rfl) (by kernel_rfl) (fun _ _ _ h => h) hS (fun L W hL hW => by go_simp; rfl) ?_
              refine g_take (i := 13) rfl rfl (by kernel_rfl) (by kernel_rfl) (by kernel_rfl) (by kernel_rfl) (by kernel_rfl) (fun _ _ _ h => h) hS (fun L W hL hW => by go_simp; rfl) ?_
              refine g_take (i := 14) rfl rfl (by kernel_rfl) (by kernel_rfl) (by kernel_rfl) (by kernel_rfl) (by kernel_rfl) (fun _ _ _ h => h) hS (fun L W hL hW => by obtain ⟨q1, q2, q3⟩ := hW; go_simp; rfl) ?_
              refine g_take (i := 15) rfl rfl (by kernel_rfl) (by kernel_rfl) (by kernel_rfl) (by kernel_rfl) (by kernel_rfl) (fun _ _ _ h => h) hS (fun L W hL hW => by go_simp; rfl) ?_
              refine g_take (i := 16) rfl rfl (by kernel_rfl) (by kernel_rfl) (by kernel_rfl) (by kernel_rfl) (by kernel_rfl) (fun _ _ _ h => h) hS (fun L W hL hW => by go_simp; rfl) ?_
              refine g_one (i := 7) rfl rfl (by kernel_rfl) fun K hK => ?_
              go_simp
              refine hK _ _ hS ?_
              clear hK K
              refine g_one (i := 17) rfl rfl (by kernel_rfl) fun K hK => ?_
              go_simp
              refine hK _ _ hS ?_
              clear hK K
              refine g_take (i := 18) rfl rfl (by kernel_rfl) (by kernel_rfl) (by kernel_rfl) (by kernel_rfl) (by kernel_rfl) (fun _ _ _ h => h) hS (fun L W hL hW => by go_simp; rfl) ?_
              refine g_take (i := 19) rfl rfl (by kernel_rfl) (by kernel_rfl) (by kernel_rfl) (by kernel_rfl) (by kernel_rfl) (fun _ _ _ h => h) hS (fun L W hL hW => by go_simp; rfl) ?_
              refine wpAnyG_done (by kernel_rfl) ?_ _
              go_simp
              go_wp2_with fail
              go_meet
              exact ⟨rfl, rfl⟩
            · obtain ⟨kp, rfl⟩ : ∃ kp : Nat, kv = kp := ⟨kv.toNat, by omega⟩
              rw [Int.toNat_natCast] at hlv
              have u0 : ¬ (kp : Int) < 0 := by omega
              by_cases hqk : q < kp
              · have u1 : (q : Int) < (kp : Int) := by omega
                have y4 : IntKind.i64.wrap ((L9 : Int) + q) = (N : Int) := by rw [show (L9 : Int) + q = N by omega]; exact IntWalk.i64_in _ (by omega)
                clear hkv hq hlv hsl hlm hk0 hqk
                refine wp_region_heldG [] (fun _ W => W.cell? ⟨g11, k, none⟩ = some (.slice A8 L8 c8) ∧ W.cell? ⟨g12, k, none⟩ = some (.slice A9 L9 c9) ∧ W.cell? ⟨w.heap.size, k, none⟩ = some (.int .i64 kp)) (by kernel_rfl) ?_
                change wpAnyG _ _ _ _ _ _ 20 _ _ (World.drew _)
                have hS := (show y17.drew.cell? _ = _ ∧ y17.drew.cell? _ = _ ∧ y17.drew.cell? _ = _ from ⟨g1, g2, g3⟩)
                -- take0 take1 take2 take3 take4 take5 take6 take8 take9 take10 take11 take12 take13 take14 take15 take16 one7 one17 take18 take19 done
                refine g_take (i := 0) rfl rfl (by kernel_rfl) (by kernel_rfl) (by kernel_rfl) (by kernel_rfl) (by kernel_rfl) (fun _ _ _ h => h) hS (fun L W hL hW => by go_simp; rfl) ?_
                refine g_take (i := 1) rfl rfl (by kernel_rfl) (by kernel_rfl) (by kernel_rfl) (by kernel_rfl) (by kernel_rfl) (fun _ _ _ h => h) hS (fun L W hL hW => by go_simp; rfl) ?_
                refine g_take (i := 2) rfl rfl (by kernel_rfl) (by kernel_rfl) (by kernel_rfl) (by kernel_rfl) (by kernel_rfl) (fun _ _ _ h => h) hS (fun L W hL hW => by obtain ⟨q1, q2, q3⟩ := hW; go_simp; rfl) ?_
                refine g_take (i := 3) rfl rfl (by kernel_rfl) (by kernel_rfl) (by kernel_rfl) (by kernel_rfl) (by kernel_rfl) (fun _ _ _ h => h) hS (fun L W hL hW => by go_simp; rfl) ?_
                refine g_take (i := 4) rfl rfl (by kernel_rfl) (by kernel_rfl) (by kernel_rfl) (by kernel_rfl) (by kernel_rfl) (fun _ _ _ h => h) hS (fun L W hL hW => by go_simp; rfl) ?_
                refine g_take (i := 5) rfl rfl (by kernel_rfl) (by kernel_rfl) (by kernel_rfl) (by kernel_rfl) (by kernel_rfl) (fun _ _ _ h => h) hS (fun L W hL hW => by go_simp; rfl) ?_
                refine g_take (i := 6) rfl rfl (by kernel_rfl) (by kernel_rfl) (by kernel_rfl) (by kernel_rfl) (by kernel_rfl) (fun _ _ _ h => h) hS (fun L W hL hW => by obtain ⟨q1, q2, q3⟩ := hW; go_simp; rfl) ?_
                refine g_take (i := 8) rfl rfl (by kernel_rfl) (by kernel_rfl) (by kernel_rfl) (by kernel_rfl) (by kernel_rfl) (fun _ _ _ h => h) hS (fun L W hL hW => by go_simp; rfl) ?_
                refine g_take (i := 9) rfl rfl (by kernel_rfl) (by kernel_rfl) (by kernel_rfl) (by kernel_rfl) (by kernel_rfl) (fun _ _ _ h => h) hS (fun L W hL hW => by go_simp; rfl) ?_
                refine g_take (i := 10) rfl rfl (by kernel_rfl) (by kernel_rfl) (by kernel_rfl) (by kernel_rfl) (by kernel_rfl) (fun _ _ _ h => h) hS (fun L W hL hW => by obtain ⟨q1, q2, q3⟩ := hW; go_simp; rfl) ?_
                refine g_take (i := 11) rfl rfl (by kernel_rfl) (by kernel_rfl) (by kernel_rfl) (by kernel_rfl) (by kernel_rfl) (fun _ _ _ h => h) hS (fun L W hL hW => by go_simp; rfl) ?_
                refine g_take (i := 12) rfl rfl (by kernel_rfl) (by kernel_rfl) (by kernel_rfl) (by kernel_rfl) (by kernel_rfl) (fun _ _ _ h => h) hS (fun L W hL hW => by go_simp; rfl) ?_
                refine g_take (i := 13) rfl rfl (by kernel_rfl) (by kernel_rfl) (by kernel_rfl) (by kernel_rfl) (by kernel_rfl) (fun _ _ _ h => h) hS (fun L W hL hW => by go_simp; rfl) ?_
                refine g_take (i := 14) rfl rfl (by kernel_rfl) (by kernel_rfl) (by kernel_rfl) (by kernel_rfl) (by kernel_rfl) (fun _ _ _ h => h) hS (fun L W hL hW => by obtain ⟨q1, q2, q3⟩ := hW; go_simp; rfl) ?_
                refine g_take (i := 15) rfl rfl (by kernel_rfl) (by kernel_rfl) (by kernel_rfl) (by kernel_rfl) (by kernel_rfl) (fun _ _ _ h => h) hS (fun L W hL hW => by go_simp; rfl) ?_
                refine g_take (i := 16) rfl rfl (by kernel_rfl) (by kernel_rfl) (by kernel_rfl) (by kernel_rfl) (by kernel_rfl) (fun _ _ _ h => h) hS (fun L W hL hW => by go_simp; rfl) ?_
                refine g_one (i := 7) rfl rfl (by kernel_rfl) fun K hK => ?_
                go_simp
                refine hK _ _ hS ?_
                clear hK K
                refine g_one (i := 17) rfl rfl (by kernel_rfl) fun K hK => ?_
                go_simp
                refine hK _ _ hS ?_
                clear hK K
                refine g_take (i := 18) rfl rfl (by kernel_rfl) (by kernel_rfl) (by kernel_rfl) (by kernel_rfl) (by kernel_rfl) (fun _ _ _ h => h) hS (fun L W hL hW => by go_simp; rfl) ?_
                refine g_take (i := 19) rfl rfl (by kernel_rfl) (by kernel_rfl) (by kernel_rfl) (by kernel_rfl) (by kernel_rfl) (fun _ _ _ h => h) hS (fun L W hL hW => by go_simp; rfl) ?_
                refine wpAnyG_done (by kernel_rfl) ?_ _
                go_simp
                go_wp2_with fail
                go_meet
                exact ⟨rfl, rfl⟩
              · have u1 : ¬ (q : Int) < (kp : Int) := by omega
                have y4 : IntKind.i64.wrap ((L9 : Int) + kp) = (N : Int) := by rw [show (L9 : Int) + kp = N by omega]; exact IntWalk.i64_in _ (by omega)
                clear hkv hq hlv hsl hlm hk0 hqk
                refine wp_region_heldG [] (fun _ W => W.cell? ⟨g11, k, none⟩ = some (.slice A8 L8 c8) ∧ W.cell? ⟨g12, k, none⟩ = some (.slice A9 L9 c9) ∧ W.cell? ⟨w.heap.size, k, none⟩ = some (.int .i64 kp)) (by kernel_rfl) ?_
                change wpAnyG _ _ _ _ _ _ 20 _ _ (World.drew _)
                have hS := (show y17.drew.cell? _ = _ ∧ y17.drew.cell? _ = _ ∧ y17.drew.cell? _ = _ from ⟨g1, g2, g3⟩)
                -- take0 take1 take2 take3 take4 take5 take6 take8 take9 take10 take11 take12 take13 take14 take15 take16 one7 one17 take18 take19 done
                refine g_take (i := 0) rfl rfl (by kernel_rfl) (by kernel_rfl) (by kernel_rfl) (by kernel_rfl) (by kernel_rfl) (fun _ _ _ h => h) hS (fun L W hL hW => by go_simp; rfl) ?_
                refine g_take (i := 1) rfl rfl (by kernel_rfl) (by kernel_rfl) (by kernel_rfl) (by kernel_rfl) (by kernel_rfl) (fun _ _ _ h => h) hS (fun L W hL hW => by go_simp; rfl) ?_
                refine g_take (i := 2) rfl rfl (by kernel_rfl) (by kernel_rfl) (by kernel_rfl) (by kernel_rfl) (by kernel_rfl) (fun _ _ _ h => h) hS (fun L W hL hW => by obtain ⟨q1, q2, q3⟩ := hW; go_simp; rfl) ?_
                refine g_take (i := 3) rfl rfl (by kernel_rfl) (by kernel_rfl) (by kernel_rfl) (by kernel_rfl) (by kernel_rfl) (fun _ _ _ h => h) hS (fun L W hL hW => by go_simp; rfl) ?_
                refine g_take (i := 4) rfl rfl (by kernel_rfl) (by kernel_rfl) (by kernel_rfl) (by kernel_rfl) (by kernel_rfl) (fun _ _ _ h => h) hS (fun L W hL hW => by go_simp; rfl) ?_
                refine g_take (i := 5) rfl rfl (by kernel_rfl) (by kernel_rfl) (by kernel_rfl) (by kernel_rfl) (by kernel_rfl) (fun _ _ _ h => h) hS (fun L W hL hW => by go_simp; rfl) ?_
                refine g_take (i := 6) rfl rfl (by kernel_rfl) (by kernel_rfl) (by kernel_rfl) (by kernel_rfl) (by kernel_rfl) (fun _ _ _ h => h) hS (fun L W hL hW => by obtain ⟨q1, q2, q3⟩ := hW; go_simp; rfl) ?_
                refine g_take (i := 8) rfl rfl (by kernel_rfl) (by kernel_rfl) (by kernel_rfl) (by kernel_rfl) (by kernel_rfl) (fun _ _ _ h => h) hS (fun L W hL hW => by go_simp; rfl) ?_
                refine g_take (i := 9) rfl rfl (by kernel_rfl) (by kernel_rfl) (by kernel_rfl) (by kernel_rfl) (by kernel_rfl) (fun _ _ _ h => h) hS (fun L W hL hW => by go_simp; rfl) ?_
                refine g_take (i := 10) rfl rfl (by kernel_rfl) (by kernel_rfl) (by kernel_rfl) (by kernel_rfl) (by kernel_rfl) (fun _ _ _ h => h) hS (fun L W hL hW => by obtain ⟨q1, q2, q3⟩ := hW; go_simp; rfl) ?_
                refine g_take (i := 11) rfl rfl (by kernel_rfl) (by kernel_rfl) (by kernel_rfl) (by kernel_rfl) (by kernel_rfl) (fun _ _ _ h => h) hS (fun L W hL hW => by go_simp; rfl) ?_
                refine g_take (i := 12) rfl rfl (by kernel_rfl) (by kernel_rfl) (by kernel_rfl) (by kernel_rfl) (by kernel_rfl) (fun _ _ _ h => h) hS (fun L W hL hW => by go_simp; rfl) ?_
                refine g_take (i := 13) rfl rfl (by kernel_rfl) (by kernel_rfl) (by kernel_rfl) (by kernel_rfl) (by kernel_rfl) (fun _ _ _ h => h) hS (fun L W hL hW => by go_simp; rfl) ?_
                refine g_take (i := 14) rfl rfl (by kernel_rfl) (by kernel_rfl) (by kernel_rfl) (by kernel_rfl) (by kernel_rfl) (fun _ _ _ h => h) hS (fun L W hL hW => by obtain ⟨q1, q2, q3⟩ := hW; go_simp; rfl) ?_
                refine g_take (i := 15) rfl rfl (by kernel_rfl) (by kernel_rfl) (by kernel_rfl) (by kernel_rfl) (by kernel_rfl) (fun _ _ _ h => h) hS (fun L W hL hW => by go_simp; rfl) ?_
                refine g_take (i := 16) rfl rfl (by kernel_rfl) (by kernel_rfl) (by kernel_rfl) (by kernel_rfl) (by kernel_rfl) (fun _ _ _ h => h) hS (fun L W hL hW => by go_simp; rfl) ?_
                refine g_one (i := 7) rfl rfl (by kernel_rfl) fun K hK => ?_
                go_simp
                refine hK _ _ hS ?_
                clear hK K
                refine g_one (i := 17) rfl rfl (by kernel_rfl) fun K hK => ?_
                go_simp
                refine hK _ _ hS ?_
                clear hK K
                refine g_take (i := 18) rfl rfl (by kernel_rfl) (by kernel_rfl) (by kernel_rfl) (by kernel_rfl) (by kernel_rfl) (fun _ _ _ h => h) hS (fun L W hL hW => by go_simp; rfl) ?_
                refine g_take (i := 19) rfl rfl (by kernel_rfl) (by kernel_rfl) (by kernel_rfl) (by kernel_rfl) (by kernel_rfl) (fun _ _ _ h => h) hS (fun L W hL hW => by go_simp; rfl) ?_
                refine wpAnyG_done (by kernel_rfl) ?_ _
                go_simp
                go_wp2_with fail
                go_meet
                exact ⟨rfl, rfl⟩
          case rest =>
          obtain ⟨rfl, rfl⟩ := hcut
          have hb := (Below.refl y17.heap.size y17).drew
          have hr173 := hr17.grow hb
          have hb83 := hb8.grow hb
          have hb93 := hb9.grow hb
          have g13 := g1
          have g23 := g2
          clear g1 g2 g3 y3 hr17 hb8 hb9
          have g1 : y17.drew.cell? _ = _ := g13
          have g2 : y17.drew.cell? _ = _ := g23
          clear g13 g23
          have hA3 := hA.below hb
          have hZ3 := hZ.below hb hZ.lt
          have hY3 := hY.below hb hY.lt
          have h43 := h4.below hb
          have hB3 := hB.trans (hb.mono (by have := hB.size; omega))
          clear hb
          clear hA hB hZ hY h4
          have hA := hA3
          have hB := hB3
          have hZ := hZ3
          have hY := hY3
          have h4 := h43
          clear hA3 hB3 hZ3 hY3 h43
          generalize y17.drew = u9 at *
          have e1 := HB1.out k hk2
          have e2 := HB2.out k hk2
          go_wp2_with fail
          refine Calls.mono (begins_any A9 A17 c9 c17 ((al k).take (sf k)) (a5 k) L9 N HL9.out HN.out hc17 u9 hb93 hr173) ?_
          rintro e y18 ⟨rfl, rfl⟩
          rw [e1]
          go_wp2_with fail
          refine Calls.mono (begins_any A17 A8 c17 c8 (a5 k) (al k) N L8 HN.out HL8.out hc8 u9 hr173 hb83) ?_
          rintro e y18 ⟨rfl, rfl⟩
          rw [e2]
          clear e1 e2 hr173 hb83 hb93
          have H4 := Lib.hid h4
          clear h4
          go_wp2_with fail
          go_roundw
          case rel => exact ⟨k + 1, by omega, by go_num, hA, H4.out, hZ, hY, hB⟩
          case measure => simp [intOf]; omega
        · have u6 : ¬ (k : Int) < 2 := by omega
          have hm5 : ∀ i, i < 2 → (a5 i).length ≤ 1600 := fun i hi => by have := HL5.out i hi; have := HLV.out i hi; have := HLM.out i hi; have := HSL.out i hi; omega
          obtain ⟨n0, hn0⟩ : ∃ n, n = (a5 0).length := ⟨_, rfl⟩
          obtain ⟨n1, hn1⟩ : ∃ n, n = (a5 1).length := ⟨_, rfl⟩
          have hm0 := hm5 0 (by omega)
          have hm1 := hm5 1 (by omega)
          have f6 := HF6.out
          rw [← hn0] at hm0 f6
          rw [← hn1] at hm1 f6
          obtain ⟨q0, hq0⟩ : ∃ q, q = 16384 - n0 := ⟨_, rfl⟩
          obtain ⟨q1, hq1⟩ : ∃ q, q = q0 - n1 := ⟨_, rfl⟩
          rw [← hq0, ← hq1] at f6
          have y1 : IntKind.i64.wrap (16384 - (n0 : Int)) = (q0 : Int) := by rw [show 16384 - (n0 : Int) = q0 by omega]; exact IntWalk.i64_in _ (by omega)
          have y2 : IntKind.i64.wrap ((q0 : Int) - n1) = (q1 : Int) := by rw [show (q0 : Int) - n1 = q1 by omega]; exact IntWalk.i64_in _ (by omega)
          have HN0 := Lib.hid hn0
          have HN1 := Lib.hid hn1
          have F6E := Lib.hid f6
          clear h4 hZ hY hm5 hq0 hq1 hm0 hm1 f6 hn0 hn1
          go_wp2_with fail
          refine Calls.mono (read_any hA 0) ?_
          rintro e x2 ⟨v2, rfl, hown, hb⟩
          rw [show rd s5 0 = a5 0 from HR5.out 0 (by omega)] at hown
          obtain ⟨A2, c2, rfl, -, -, -⟩ := own_read hown
          rw [← HN0.out] at hown ⊢
          have hOa : Own x2 base F5 (.slice A2 n0 c2) (a5 0) := ⟨HN0.out ▸ own_base hown (by have := hB.size; omega), fun r hr hf => by have := (own_row hown hr).1; have := (hA.lt hf).2; omega⟩
          clear hown
          have hA3 := hA.below hb
          have hB3 := hB.trans (hb.mono (by have := hB.size; omega))
          clear hA hB hb
          have hA := hA3
          have hB := hB3
          clear hA3 hB3
          go_wp2_with fail
          refine Calls.mono (read_any hA 1) ?_
          rintro e x3 ⟨v3, rfl, hown, hb⟩
          rw [show rd s5 1 = a5 1 from HR5.out 1 (by omega)] at hown
          obtain ⟨A3, c3, rfl, -, -, -⟩ := own_read hown
          rw [← HN1.out] at hown ⊢
          have hOb : Own x3 base F5 (.slice A3 n1 c3) (a5 1) := ⟨HN1.out ▸ own_base hown (by have := hB.size; omega), fun r hr hf => by have := (own_row hown hr).1; have := (hA.lt hf).2; omega⟩
          clear hown
          have hOa3 := hOa.below hb
          clear hOa
          have hOa := hOa3
          clear hOa3
          have hA3 := hA.below hb
          have hB3 := hB.trans (hb.mono (by have := hB.size; omega))
          clear hA hB hb
          have hA := hA3
          have hB := hB3
          clear hA3 hB3
          have hzk1 := hK1.below hB (by omega)
          go_wp2_with (refine wpList_load_row rfl 24 (.tmp 7) rfl (w.heap.size + 1) rfl 24 _ _ _ hzk1.out Try.underlying24 rfl (by kernel_rfl) ?_)
          refine Calls.mono (crash_any hA again HAG.out) ?_
          rintro e x4 ⟨⟨v4, rfl⟩, F6, hA3, hfr, hF⟩
          rw [← HS6.out] at hA3
          have hB3 := hB.trans (hfr.below (by have := hB.size; omega) fun k hk => (hA.lt hk).1)
          have hOa3 := hOa.next hfr hF
          have hOb3 := hOb.next hfr hF
          clear hA hB hOa hOb hfr hF hzk1
          have hA := hA3
          have hB := hB3
          have hOa := hOa3
          have hOb := hOb3
          clear hA3 hB3 hOa3 hOb3
          go_wp2_with fail
          refine Calls.mono (read_any hA 0) ?_
          rintro e x5 ⟨v5, rfl, hown, hb⟩
          rw [show rd s6 0 = a5 0 from HR6.out 0 (by omega)] at hown
          obtain ⟨A5, c5, rfl, -, -, hr5⟩ := own_read hown
          rw [← HN0.out]
          clear hown
          have hOa3 := hOa.below hb
          have hOb3 := hOb.below hb
          clear hOa hOb
          have hOa := hOa3
          have hOb := hOb3
          clear hOa3 hOb3
          have hA3 := hA.below hb
          have hB3 := hB.trans (hb.mono (by have := hB.size; omega))
          clear hA hB hb
          have hA := hA3
          have hB := hB3
          clear hA3 hB3
          go_wp2_with fail
          refine Calls.mono (same_any _ _ _ _ (a5 0) (a5 0) n0 n0 HN0.out HN0.out _ hr5 hOa.bytes) ?_
          rintro e x6 ⟨rfl, rfl⟩
          rw [beq_self_eq_true]
          clear hr5
          go_wp2_with fail
          refine Calls.mono (read_any hA 1) ?_
          rintro e x7 ⟨v7, rfl, hown, hb⟩
          rw [show rd s6 1 = a5 1 from HR6.out 1 (by omega)] at hown
          obtain ⟨A7, c7, rfl, -, -, hr7⟩ := own_read hown
          rw [← HN1.out]
          clear hown
          have hOa3 := hOa.below hb
          have hOb3 := hOb.below hb
          clear hOa hOb
          have hOa := hOa3
          have hOb := hOb3
          clear hOa3 hOb3
          have hA3 := hA.below hb
          have hB3 := hB.trans (hb.mono (by have := hB.size; omega))
          clear hA hB hb
          have hA := hA3
          have hB := hB3
          clear hA3 hB3
          go_wp2_with fail
          refine Calls.mono (same_any _ _ _ _ (a5 1) (a5 1) n1 n1 HN1.out HN1.out _ hr7 hOb.bytes) ?_
          rintro e x8 ⟨rfl, rfl⟩
          rw [beq_self_eq_true]
          clear hr7
          go_wp2_with fail
          refine Calls.mono (free_any hA) ?_
          rintro e x9 ⟨rfl, hb⟩
          rw [F6E.out]
          have hOa3 := hOa.below hb
          have hOb3 := hOb.below hb
          clear hOa hOb
          have hOa := hOa3
          have hOb := hOb3
          clear hOa3 hOb3
          have hA3 := hA.below hb
          have hB3 := hB.trans (hb.mono (by have := hB.size; omega))
          clear hA hB hb
          have hA := hA3
          have hB := hB3
          clear hA3 hB3
          go_wp2_with fail
          refine Calls.mono (awake_any _) ?_
          rintro e x10 ⟨rfl, hb⟩
          have hBF := hB0.trans ((hB.trans (hb.mono (by have := hB.size; omega))).mono (by omega))
          go_wp2_with fail
          go_ret
          exact ⟨rfl, hBF⟩
end Go.Proofs.Ytgajgjijnpigoaa.Dk
