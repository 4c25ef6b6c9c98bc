/-
  The walk of opened.
-/
import Derived.Test.YtmkijkkddoamgaaJourAwake
import Derived.Test.YtmkijkkddoamgaaJourBlow
import Derived.Test.YtmkijkkddoamgaaJourKeepPl2
namespace Go.Proofs.Ytmkijkkddoamgaa.Jo
set_option linter.unusedVariables false
open Go Go.RowKit Go.Shelf Go.Proofs Go.Proofs.Ytmkijkkddoamgaa Go.Proofs.Ytmkijkkddoamgaa.Wd Go.Proofs.Ytmkijkkddoamgaa.Dk Go.Proofs.Ytmkijkkddoamgaa.Hd Go.Proofs.Ytmkijkkddoamgaa.HdW Go.Proofs.Ytmkijkkddoamgaa.BatW
open Go.Proofs.Ytmkijkkddoamgaa.Bat (B writ allRight)
theorem fused_none {s : DS} (h : s.fuse = none) : fused s none = s := by cases s; simp only [fused] at *; rw [h]
theorem fuse_on {s : DS} (h : Al s) (k p : Nat) : fuseD (k : Int) (p : Int) s = fused s (some (k, p)) := by
  unfold fuseD
  rw [if_neg (by rw [h.dead]; simp), if_neg (by omega)]
  rfl
theorem fuse_off {s : DS} (h : Al s) (o : Option (Nat × Nat)) : fuseD (-1) 0 (fused s o) = s := by
  have e : fuseD (-1) 0 (fused s o) = fused s none := by
    unfold fuseD
    rw [if_neg (by show ¬ s.dead = true; rw [h.dead]; simp), if_pos (by decide)]
    rfl
  rw [e, fused_none h.fuse]
theorem fuse_dead {s : DS} (h : s.dead = true) : fuseD (-1) 0 s = s := by unfold fuseD; exact if_pos h
theorem PC.jn {s : DS} {y : H} {L : List B} (h : PC s y L) : JN s y 4000 s.all := by
  have e : ∀ j, j < 2 → sh s j = s.sl j := fun j hj => by unfold sh; rw [h.sl.wr j hj]; rfl
  refine ⟨h.cap, fun _ _ => rfl, h.al, h.wf, h.rt, by rw [e _ (two_of _)]; exact h.sl.here, fun g hg => ?_⟩
  rw [e _ (by omega)] at hg
  obtain ⟨-, eb, wg⟩ := read_some hg
  have ht := h.sl.tail
  rw [eb, bytes_tail] at ht
  have : un8 (le8 g.serial) = g.serial := by
    have := un8_le8 wg.serial []
    rwa [List.append_nil] at this
  rw [this] at ht
  by_cases h1 : g.serial = y.serial
  · left; rw [h1]
  · right; omega
/-- Without a fuse it is opened. -/
theorem open_plain {s : DS} {y : H} {L : List B} (h : PC s y L) (hb : y.serial + 1 < 256) (he : y.epoch + 1 < 256) : (openB s).1 = L ∧ ∃ s', openD s = (0, s', ⟨y.serial + 1, y.epoch + 1, y.live⟩) ∧ K s' ⟨y.serial + 1, y.epoch + 1, y.live⟩ L := by
  have hO := open_law h hb he none
  rw [fused_none h.al.fuse] at hO
  refine ⟨hO.1, ?_⟩
  obtain ⟨s9, e9, -, -⟩ := h.jn.opened (by omega)
  rcases hO.2 with ⟨s', o', e1, hK⟩ | ⟨e1, -, -⟩
  · rw [e9, Nat.mod_eq_of_lt (a := y.epoch + 1) (by omega)] at e1
    have hs : s9 = fused s' o' := congrArg (fun r => r.2.1) e1
    -- the fuse is none, as it was
    have hf : s9.fuse = none := by
      obtain ⟨s8, e8, h8, -⟩ := h.jn.opened (by omega)
      rw [e9] at e8
      have : s9 = s8 := congrArg (fun r => r.2.1) e8
      rw [this]; exact h8.live.fuse
    have ho : o' = none := by rw [hs] at hf; exact hf
    rw [ho, fused_none hK.1.al.fuse] at hs
    refine ⟨s9, by rw [e9, Nat.mod_eq_of_lt (a := y.epoch + 1) (by omega)], by rw [hs]; exact hK⟩
  · rw [e9] at e1
    cases e1
section
variable {w : World} {base : Nat} {F : Nat → Prop} {g : Nat} {s : DS} {y : H} {L : List B}
/-- What opened answers. -/
def OpenedOut (w : World) (base : Nat) (F : Nat → Prop) (g : Nat) (y : H) (L : List B) (e : Ending) (w' : World) : Prop :=
  ∃ jb A c F' s' y', e = .returned (.tuple #[.pointer (some ⟨jb, 0, none⟩), .slice A L.length c, .bool true]) ∧ JAt w' base F' g jb s' y' ∧ K s' y' L ∧ (y.epoch < y'.epoch ∧ y'.epoch ≤ y.epoch + 2 ∧ y'.serial ≤ y.serial + 2) ∧ Fr F w w' ∧ (∀ k, F' k → F k ∨ w.heap.size ≤ k) ∧ w.heap.size ≤ jb ∧
    L.length ≤ c ∧ c ≤ maxLen ∧ ∃ Z : Nat → Prop, BRows3Z w' Z A L ∧ ∀ b, Z b → w.heap.size ≤ b ∧ b < w'.heap.size ∧ ¬ F' b ∧ b ≠ jb
/-- Open, of what a crash left. -/
theorem open_end {w1 : World} {F1 : Nat → Prop} (hA : At w1 base F1 g s) (h : PC s y L) (hb : y.serial + 1 < 256) (he : y.epoch + 1 < 256) :
    Calls Try.prog 16 #[.pointer (some ⟨g, 0, none⟩)] w1 fun e w' => ∃ jb A c F' s' y', e = .returned (.tuple #[.pointer (some ⟨jb, 0, none⟩), .slice A L.length c, .int .i64 0]) ∧ JAt w' base F' g jb s' y' ∧ K s' y' L ∧ (y'.epoch = y.epoch + 1 ∧ y'.serial = y.serial + 1) ∧ Fr F1 w1 w' ∧ (∀ k, F' k → F1 k ∨ w1.heap.size ≤ k) ∧ w1.heap.size ≤ jb ∧
      L.length ≤ c ∧ c ≤ maxLen ∧ ∃ Z : Nat → Prop, BRows3Z w' Z A L ∧ ∀ b, Z b → w1.heap.size ≤ b ∧ b < w'.heap.size ∧ ¬ F' b ∧ b ≠ jb := by
  obtain ⟨e1, s', e2, hK⟩ := open_plain h hb he
  have hO := open_any hA
  unfold OpenOut at hO
  rw [e2, e1] at hO
  refine Calls.mono hO ?_
  rintro e w' ⟨F', hA', hf, hs, h'⟩
  rcases h' with ⟨h0, _⟩ | ⟨-, jb, A, c, lo, hi, rfl, qj, hjb, njb, hlc, hcm, hrz, hlo, hhi, hz⟩
  · exact absurd rfl h0
  · exact ⟨jb, A, c, F', s', _, rfl, ⟨hA', ⟨qj, njb⟩, hK.1.wf, hK.1.lv⟩, hK, ⟨rfl, rfl⟩, hf, hs, hjb, hlc, hcm, _, hrz, fun b hb => ⟨Nat.le_trans hlo hb.1, Nat.lt_of_lt_of_le hb.2 hhi, (hz b hb).1, (hz b hb).2⟩⟩
set_option maxRecDepth 100000 in
set_option maxHeartbeats 4000000 in
theorem opened_any (h : At w base F g s) (hP : PC s y L) (hb : y.serial + 2 < 256) (he : y.epoch + 2 < 256) (x : Bl) (ok : BlOk x) (v : Value) (cs : Array Value) (hcs : cs = (blC v x).toArray) :
    Calls Try.prog 30 #[.pointer (some ⟨g, 0, none⟩), .agg cs] w (OpenedOut w base F g y L) := by
  have k4 : cs[4]? = some (.int .u8 (x.part : Nat)) := by rw [hcs]; rfl
  have k9 : cs[9]? = some (.int .u8 (x.again : Nat)) := by rw [hcs]; rfl
  have k10 : cs[10]? = some (.int .i64 (x.other 0)) := by rw [hcs]; rfl
  have k11 : cs[11]? = some (.int .i64 (x.other 1)) := by rw [hcs]; rfl
  have k12 : cs[12]? = some (.int .i64 (x.other 2)) := by rw [hcs]; rfl
  have k13 : cs[13]? = some (.int .i64 (x.other 3)) := by rw [hcs]; rfl
  have hB := (Below.refl w.heap.size w).alloc (Nat.le_refl _) (.cells cs 69)
  have q := Blk.new_ w 69 cs rfl
  have nF : ¬ F w.heap.size := fun e => by have := (h.lt e).2; omega
  obtain ⟨out, ho⟩ : ∃ P, OpenedOut w base F g y L = P := ⟨_, rfl⟩
  rw [ho]
  have HOut := Lib.hid ho
  have HA := Lib.hid (h.below hB)
  have HF := Lib.hid (Fr.of_below hB F)
  have HP := Lib.hid hP
  have HBD := Lib.hid (And.intro hb he)
  have HOK := Lib.hid ok
  have HLO : Hid (w.heap.size < (w.alloc (.cells cs 69)).heap.size) := Lib.hid (by simp)
  have d4 := Blk.at_ q 4 k4
  have d9 := Blk.at_ q 9 k9
  have HQ := Lib.hid q
  have HK10 := Lib.hid (And.intro k10 (And.intro k11 (And.intro k12 k13)))
  clear h hP ho hB k4 k9 k10 k11 k12 k13 hcs ok hb he q
  have NF := Lib.hid nF
  clear nF
  obtain ⟨ag, hag⟩ : ∃ a, a = x.again := ⟨_, rfl⟩
  obtain ⟨pt, hpt⟩ : ∃ a, a = x.part := ⟨_, rfl⟩
  rw [← hag] at d9
  rw [← hpt] at d4
  have HAG : Hid (ag < 256 ∧ pt < 256) := Lib.hid (by rw [hag, hpt]; exact ⟨HOK.out.again, HOK.out.part⟩)
  clear hag hpt
  go_enter Try.func30, Try.ntmps30
  go_upto_region 1 with fail
  generalize w.alloc (.cells cs 69) = w1 at *
  -- the end: opened, whatever was ahead
  by_cases h6 : ag < 6
  · have u1 : (ag : Int) < 6 := by omega
    have t1 : wrap64 (ag : Int) = (ag : Int) := IntWalk.wrap64_in _ (by omega)
    have t2 : wrap64 (pt : Int) = (pt : Int) := IntWalk.wrap64_in _ (by have := HAG.out; omega)
    clear h6
    go_wp2_with fail
    clear u1 t1 t2 d4 d9
    refine Calls.mono (fuse_any HA.out (ag : Nat) (pt : Nat) (by have := HAG.out; omega) (by have := HAG.out; omega)) ?_
    rintro e w2 ⟨⟨v2, rfl⟩, F2, hA2, hf2, hs2⟩
    rw [fuse_on HP.out.al] at hA2
    have HA2 := Lib.hid hA2
    have HF2 := Lib.hid (HF.out.trans hf2 fun _ h => .inl h)
    have HS2 : Hid (∀ k, F2 k → F k ∨ w.heap.size ≤ k) := Lib.hid fun k hk => (hs2 k hk).imp_right fun h => by have := HLO.out; omega
    have HQ2 : Hid (Blk w2 w.heap.size 69 cs ∧ ¬ F2 w.heap.size) := Lib.hid ⟨HQ.out.fr hf2 NF.out, out_of (w := w1) HLO.out NF.out hs2⟩
    clear hA2 hf2 hs2 HA HF HQ
    have hol := open_law HP.out (by have := HBD.out; omega) (by have := HBD.out; omega) (some (ag, pt))
    obtain ⟨hB1, hO2⟩ := hol
    have hO := open_any HA2.out
    unfold OpenOut at hO
    rw [hB1] at hO
    go_wp2_with fail
    rcases hO2 with ⟨s', o', e1, hK⟩ | ⟨e1, hd, hcr⟩
    · rw [e1] at hO
      refine Calls.mono hO ?_
      rintro e w3 ⟨F3, hA3, hf3, hs3, h'⟩
      rcases h' with ⟨h0, _⟩ | ⟨-, jb, A, c, lo, hi, rfl, qj, hjb, njb, hlc, hcm, hrz, hlo, hhi, hz⟩
      · exact absurd rfl h0
      have HA3 := Lib.hid hA3
      have HF3 := Lib.hid (HF2.out.trans hf3 HS2.out)
      have HS3 : Hid (∀ k, F3 k → F k ∨ w.heap.size ≤ k) := Lib.hid fun k hk => (hs3 k hk).elim (HS2.out k) fun h => .inr (Nat.le_trans HF2.out.size h)
      have HJ3 := Lib.hid (And.intro qj (And.intro hjb njb))
      have HC := Lib.hid (And.intro hlc hcm)
      have HRZ := Lib.hid (And.intro hrz (And.intro hlo (And.intro hhi hz)))
      have HK := Lib.hid hK
      have HSZ := Lib.hid HF2.out.size
      clear hA3 hf3 hs3 qj hjb njb hlc hcm hrz hlo hhi hz hK hO e1 hB1 HA2 HF2 HS2 HQ2
      obtain ⟨nL, hnL⟩ : ∃ n, n = L.length := ⟨_, rfl⟩
      rw [← hnL]
      have HNL := Lib.hid hnL
      clear hnL
      go_wp2_with fail
      refine Calls.mono (fuse_any HA3.out (-1) 0 (by decide) (by decide)) ?_
      rintro e w4 ⟨⟨v4, rfl⟩, F4, hA4, hf4, hs4⟩
      have hA4' : At w4 base F4 g s' := by rw [← fuse_off HK.out.1.al o']; exact hA4
      have HA4 := Lib.hid hA4'
      have HF4 := Lib.hid (HF3.out.trans hf4 HS3.out)
      have HS4 : Hid (∀ k, F4 k → F k ∨ w.heap.size ≤ k) := Lib.hid fun k hk => (hs4 k hk).elim (HS3.out k) fun h => .inr (Nat.le_trans HF3.out.size h)
      have HJ4 : Hid (BF w4 F4 jb 48 (jcells g ⟨y.serial + 1, y.epoch + 1, y.live⟩)) := Lib.hid ⟨HJ3.out.1.fr hf4 HJ3.out.2.2, out_of HJ3.out.1.lt HJ3.out.2.2 hs4⟩
      have HR4 := Lib.hid (HRZ.out.1.keep (SameZ.of_fr hf4 fun k hk => ⟨Nat.lt_of_lt_of_le hk.2 HRZ.out.2.2.1, (HRZ.out.2.2.2 k hk).1⟩))
      have HZ4 : Hid (∀ b, Since lo hi b → w.heap.size ≤ b ∧ b < w4.heap.size ∧ ¬ F4 b ∧ b ≠ jb) := Lib.hid fun b hb => by
        have h1 := HRZ.out.2.2.2 b hb
        have h2 : b < w3.heap.size := Nat.lt_of_lt_of_le hb.2 HRZ.out.2.2.1
        exact ⟨Nat.le_trans HSZ.out (Nat.le_trans HRZ.out.2.1 hb.1), Nat.lt_of_lt_of_le h2 hf4.size, out_of h2 h1.1 hs4, h1.2⟩
      have HJB : Hid (w.heap.size ≤ jb) := Lib.hid (Nat.le_trans HSZ.out HJ3.out.2.1)
      clear hA4 hA4' hf4 hs4 HA3 HF3 HS3 HJ3 HRZ
      go_wp2_with fail
      refine bodyPost_ret (v := .tuple #[.pointer (some ⟨jb, 0, none⟩), .slice A nL c, .bool true]) (by simp [results, Try.results30, go_sem]) rfl ?_
      rw [← HOut.out]
      exact ⟨jb, A, c, F4, s', _, by rw [HNL.out], ⟨HA4.out, HJ4.out, HK.out.1.wf, HK.out.1.lv⟩, HK.out, ⟨Nat.lt_succ_self _, Nat.le_succ _, Nat.le_succ _⟩, HF4.out, HS4.out, HJB.out, HC.out.1, HC.out.2, _, HR4.out, HZ4.out⟩
    · refine Calls.mono hO ?_
      rintro e w3 ⟨F3, hA3, hf3, hs3, h'⟩
      rcases h' with ⟨-, rfl⟩ | ⟨h0, _⟩
      rotate_left
      · rw [e1] at h0; exact absurd h0 (by decide)
      obtain ⟨s3, hs3e⟩ : ∃ x, x = (openD (fused s (some (ag, pt)))).2.1 := ⟨_, rfl⟩
      rw [← hs3e] at hA3 hd hcr
      rw [e1]
      have HA3 := Lib.hid hA3
      have HF3 := Lib.hid (HF2.out.trans hf3 HS2.out)
      have HS3 : Hid (∀ k, F3 k → F k ∨ w.heap.size ≤ k) := Lib.hid fun k hk => (hs3 k hk).elim (HS2.out k) fun h => .inr (Nat.le_trans HF2.out.size h)
      have hq3 := HQ2.out.1.fr hf3 HQ2.out.2
      have HCR := Lib.hid hcr
      have d10 := Blk.at_ hq3 10 HK10.out.1
      have d11 := Blk.at_ hq3 11 HK10.out.2.1
      have d12 := Blk.at_ hq3 12 HK10.out.2.2.1
      have d13 := Blk.at_ hq3 13 HK10.out.2.2.2
      clear hs3e hA3 hf3 hs3 hcr hd hO e1 hB1 HA2 HF2 HS2 HQ2 hq3
      go_wp2_with fail
      clear d10 d11 d12 d13
      refine Calls.mono (crash_any HA3.out x.other HOK.out.other) ?_
      rintro e w4 ⟨⟨v4, rfl⟩, F4, hA4, hf4, hs4⟩
      have HA4 := Lib.hid hA4
      have HF4 := Lib.hid (HF3.out.trans hf4 HS3.out)
      have HS4 : Hid (∀ k, F4 k → F k ∨ w.heap.size ≤ k) := Lib.hid fun k hk => (hs4 k hk).elim (HS3.out k) fun h => .inr (Nat.le_trans HF3.out.size h)
      clear hA4 hf4 hs4 HA3 HF3 HS3
      go_wp2_with fail
      obtain ⟨y2, hy2, hPC2⟩ := HCR.out x.other
      have hyb : y2.serial ≤ y.serial + 1 ∧ y2.epoch ≤ y.epoch + 1 ∧ y.epoch ≤ y2.epoch := by
        rcases hy2 with rfl | rfl
        · exact ⟨Nat.le_succ _, Nat.le_succ _, Nat.le_refl _⟩
        · exact ⟨Nat.le_refl _, Nat.le_refl _, Nat.le_succ _⟩
      have HYB := Lib.hid hyb
      have hO := open_end HA4.out hPC2 (by have := HBD.out; omega) (by have := HBD.out; omega)
      clear hy2 hPC2 hyb
      refine Calls.mono hO ?_
      clear hO
      rintro e w5 ⟨jb, A, c, F5, s5, y5, rfl, hJ5, hK5, hy5, hf5, hs5, hjb, hlc, hcm, Z, hrz, hz⟩
      have HJ5 := Lib.hid (And.intro hJ5 hK5)
      have HY5 : Hid (y.epoch < y5.epoch ∧ y5.epoch ≤ y.epoch + 2 ∧ y5.serial ≤ y.serial + 2) := Lib.hid (by have := HYB.out; omega)
      have HF5 := Lib.hid (HF4.out.trans hf5 HS4.out)
      have HS5 : Hid (∀ k, F5 k → F k ∨ w.heap.size ≤ k) := Lib.hid fun k hk => (hs5 k hk).elim (HS4.out k) fun h => .inr (Nat.le_trans HF4.out.size h)
      have HJB : Hid (w.heap.size ≤ jb) := Lib.hid (Nat.le_trans HF4.out.size hjb)
      have HC := Lib.hid (And.intro hlc hcm)
      have HZ := Lib.hid (And.intro hrz (show ∀ b, Z b → w.heap.size ≤ b ∧ b < w5.heap.size ∧ ¬ F5 b ∧ b ≠ jb from fun b hb => ⟨Nat.le_trans HF4.out.size (hz b hb).1, (hz b hb).2⟩))
      obtain ⟨nL, hnL⟩ : ∃ n, n = L.length := ⟨_, rfl⟩
      rw [← hnL]
      have HNL := Lib.hid hnL
      clear hnL hJ5 hK5 hy5 hf5 hs5 hjb hlc hcm hrz hz HA4 HF4 HS4
      go_wp2_with fail
      refine bodyPost_ret (v := .tuple #[.pointer (some ⟨jb, 0, none⟩), .slice A nL c, .bool true]) (by simp [results, Try.results30, go_sem]) rfl ?_
      rw [← HOut.out]
      exact ⟨jb, A, c, F5, s5, y5, by rw [HNL.out], HJ5.out.1, HJ5.out.2, HY5.out, HF5.out, HS5.out, HJB.out, HC.out.1, HC.out.2, Z, HZ.out.1, HZ.out.2⟩
  · have u1 : ¬ (ag : Int) < 6 := by omega
    clear h6
    go_wp2_with fail
    clear u1 d4 d9
    have hO := open_end HA.out HP.out (by have := HBD.out; omega) (by have := HBD.out; omega)
    refine Calls.mono hO ?_
    clear hO
    rintro e w5 ⟨jb, A, c, F5, s5, y5, rfl, hJ5, hK5, hy5, hf5, hs5, hjb, hlc, hcm, Z, hrz, hz⟩
    have HJ5 := Lib.hid (And.intro hJ5 hK5)
    have HY5 : Hid (y.epoch < y5.epoch ∧ y5.epoch ≤ y.epoch + 2 ∧ y5.serial ≤ y.serial + 2) := Lib.hid (by omega)
    have HF5 := Lib.hid (HF.out.trans hf5 fun _ h => .inl h)
    have HS5 : Hid (∀ k, F5 k → F k ∨ w.heap.size ≤ k) := Lib.hid fun k hk => (hs5 k hk).imp_right fun h => by have := HLO.out; omega
    have HJB : Hid (w.heap.size ≤ jb) := Lib.hid (by have := HLO.out; omega)
    have HC := Lib.hid (And.intro hlc hcm)
    have HZ := Lib.hid (And.intro hrz (show ∀ b, Z b → w.heap.size ≤ b ∧ b < w5.heap.size ∧ ¬ F5 b ∧ b ≠ jb from fun b hb => ⟨by have := (hz b hb).1; have := HLO.out; omega, (hz b hb).2⟩))
    obtain ⟨nL, hnL⟩ : ∃ n, n = L.length := ⟨_, rfl⟩
    rw [← hnL]
    have HNL := Lib.hid hnL
    clear hnL hJ5 hK5 hy5 hf5 hs5 hjb hlc hcm hrz hz
    go_wp2_with fail
    refine bodyPost_ret (v := .tuple #[.pointer (some ⟨jb, 0, none⟩), .slice A nL c, .bool true]) (by simp [results, Try.results30, go_sem]) rfl ?_
    rw [← HOut.out]
    exact ⟨jb, A, c, F5, s5, y5, by rw [HNL.out], HJ5.out.1, HJ5.out.2, HY5.out, HF5.out, HS5.out, HJB.out, HC.out.1, HC.out.2, Z, HZ.out.1, HZ.out.2⟩
end
end Go.Proofs.Ytmkijkkddoamgaa.Jo
