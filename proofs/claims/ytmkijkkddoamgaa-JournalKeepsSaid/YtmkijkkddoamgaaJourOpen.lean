/-
  The walk of Open.
-/
import Derived.Test.YtmkijkkddoamgaaJourFormat
namespace Go.Proofs.Ytmkijkkddoamgaa.Jo
set_option linter.unusedVariables false
open Go Go.RowKit Go.Shelf Go.Proofs Go.Proofs.Ytmkijkkddoamgaa Go.Proofs.Ytmkijkkddoamgaa.Wd Go.Proofs.Ytmkijkkddoamgaa.Dk Go.Proofs.Ytmkijkkddoamgaa.Hd Go.Proofs.Ytmkijkkddoamgaa.HdW Go.Proofs.Ytmkijkkddoamgaa.BatW
open Go.Proofs.Ytmkijkkddoamgaa.Bat (B)

def jcells (g : Nat) (h : H) : Array Value := #[.pointer (some ⟨g, 0, none⟩), .int .u64 h.serial, .int .u64 h.epoch, .int .u8 h.live]
section
variable {w : World} {base : Nat} {F : Nat → Prop} {g : Nat} {s : DS}
/-- What Open answers: the journal's block, new; rows in blocks [lo, hi) that no disk uses; the disk. -/
def OpenOut (w : World) (base : Nat) (F : Nat → Prop) (g : Nat) (s : DS) (e : Ending) (w' : World) : Prop :=
  (∃ F', At w' base F' g (openD s).2.1 ∧ Fr F w w' ∧ (∀ k, F' k → F k ∨ w.heap.size ≤ k) ∧
    (((openD s).1 ≠ 0 ∧ e = .returned (.tuple #[.pointer none, .slice none 0 0, .int .i64 ((openD s).1 : Nat)])) ∨
    ((openD s).1 = 0 ∧ ∃ jb A c lo hi, e = .returned (.tuple #[.pointer (some ⟨jb, 0, none⟩), .slice A (openB s).1.length c, .int .i64 0]) ∧
      Blk w' jb 48 (jcells g (openD s).2.2) ∧ w.heap.size ≤ jb ∧ ¬ F' jb ∧ (openB s).1.length ≤ c ∧ c ≤ maxLen ∧
      BRows3Z w' (Since lo hi) A (openB s).1 ∧ w.heap.size ≤ lo ∧ hi ≤ w'.heap.size ∧ (∀ k, Since lo hi k → ¬ F' k ∧ k ≠ jb))))
theorem rd_len (h : Ok s) (i : Int) : (rd s i).length ≤ 1048576 := by
  have h1 := h.room
  have h2 := h.cap
  unfold rd
  split
  · simp
  · rcases among_cases i with ⟨k, rfl, hk⟩ | hn
    · rw [among_yes hk, if_pos rfl, Int.toNat_natCast]
      rcases (by omega : k = 0 ∨ k = 1) with rfl | rfl <;> omega
    · rw [hn]; simp
set_option maxRecDepth 100000 in
set_option maxHeartbeats 1000000 in
theorem open_any (h : At w base F g s) : Calls Try.prog 16 #[.pointer (some ⟨g, 0, none⟩)] w (OpenOut w base F g s) := by
  have HL := Lib.hid (load_any h)
  have hwf := loadR_wf s
  have HO : Hid (OpenOut w base F g s = OpenOut w base F g s) := Lib.hid rfl
  obtain ⟨⟨⟨r0, r1, r2⟩, c⟩, hr⟩ : ∃ x, loadR s = x := ⟨_, rfl⟩
  rw [hr] at HL hwf
  have HLR := Lib.hid hr
  have HW : Hid (r0 < 18446744073709551616) := Lib.hid hwf.serial
  have HE : Hid (r1 < 18446744073709551616) := Lib.hid hwf.epoch
  have HLV : Hid (r2 < 256) := Lib.hid hwf.live
  have HF : Hid (∀ k, F k → k < w.heap.size) := Lib.hid fun k hk => (h.lt hk).2
  simp only [hv] at HL
  clear hwf hr h
  obtain ⟨out, ho⟩ : ∃ P, OpenOut w base F g s = P := ⟨_, rfl⟩
  rw [ho]
  have HOut := Lib.hid ho
  clear ho HO
  go_enter Try.func16, Try.ntmps16
  go_wp2_with fail
  refine Calls.mono HL.out ?_
  rintro e w1 ⟨rfl, F1, hA1, hf1, hs1⟩
  have HA1 := Lib.hid hA1
  have HF1 := Lib.hid hf1
  have HS1 := Lib.hid hs1
  clear hA1 hf1 hs1 HL
  by_cases hc : c = 0
  · subst hc
    go_upto_region 4 with fail
    have hB2 := (Below.refl w1.heap.size w1).alloc (Nat.le_refl _) (.cells #[.int .u64 (r0 : Nat), .int .u64 (r1 : Nat), .int .u8 (r2 : Nat)] 35)
    have qh := Blk.new_ w1 35 #[.int .u64 (r0 : Nat), .int .u64 (r1 : Nat), .int .u8 (r2 : Nat)] rfl
    have hA2 := HA1.out.below hB2
    have hf2 := HF1.out.trans (Fr.of_below hB2 F) (fun _ h => .inl h)
    have hlo : Hid (∀ k, F1 k → k < w1.heap.size) := Lib.hid fun k hk => (HA1.out.lt hk).2
    have hsz : w.heap.size ≤ w1.heap.size := HF1.out.size
    clear HF1 HA1 hB2
    generalize w1.alloc (.cells #[.int .u64 (r0 : Nat), .int .u64 (r1 : Nat), .int .u8 (r2 : Nat)] 35) = w2 at *
    generalize w1.heap.size = hb at *
    have hbl := qh.lt
    have h0 := Blk.at_ qh 0 (v := .int .u64 (r0 : Nat)) rfl
    have h1 := Blk.at_ qh 1 (v := .int .u64 (r1 : Nat)) rfl
    have h2 := Blk.at_ qh 2 (v := .int .u8 (r2 : Nat)) rfl
    have HA2 := Lib.hid hA2
    have HF2 := Lib.hid hf2
    have HQ := Lib.hid qh
    clear hA2 hf2 qh
    obtain ⟨b, hb0⟩ : ∃ b, b = rd s (r2 : Nat) := ⟨_, rfl⟩
    obtain ⟨m, hm⟩ : ∃ m, m = b.length := ⟨_, rfl⟩
    have hm1 : m ≤ 1048576 := by rw [hm, hb0]; exact rd_len HA2.out.ok _
    have HRD := Lib.hid (read_any HA2.out (r2 : Nat))
    obtain ⟨⟨ll, te, er⟩, hsc⟩ : ∃ x, Bat.scan b = x := ⟨_, rfl⟩
    obtain ⟨e1, he1⟩ : ∃ e1, e1 = (r1 + 1) % 18446744073709551616 := ⟨_, rfl⟩
    have HE1 : Hid (IntKind.u64.wrap ((r1 : Int) + 1) = (e1 : Int)) := Lib.hid (by rw [IntKind.wrap_u64]; omega)
    have HEB : Hid (e1 < 18446744073709551616) := Lib.hid (by omega)
    have HOB : Hid (openB s = (ll, te, er)) := Lib.hid (by unfold openB; rw [HLR.out]; rw [← hsc, hb0])
    have HOH : Hid (openH s = ⟨r0, e1, r2⟩) := Lib.hid (by unfold openH; rw [HLR.out, he1])
    have HOD : Hid (openD s = clearD s ⟨r0, e1, r2⟩ (r2 : Nat) (te : Nat) (1 - (r2 : Nat)) 0) := Lib.hid (by unfold openD; rw [HOH.out, HOB.out, HLR.out]; exact if_neg (by simp))
    rw [← hb0] at HRD
    have t1 : wrap64 (r2 : Int) = (r2 : Int) := IntWalk.wrap64_in _ (by have := HLV.out; omega)
    have HM := Lib.hid hm
    have HSC := Lib.hid hsc
    clear hm hb0 hsc he1
    go_wp2_with fail
    refine Calls.mono HRD.out ?_
    rintro e w3 ⟨v3, rfl, hown, hb3⟩
    rw [← HM.out] at hown
    obtain ⟨A3, c3, rfl, hc3, hm3, hJ3⟩ := own_bytes hown
    have HSN := Lib.hid (bscan_any A3 c3 b m hm3 hc3 (by omega) w3 hJ3)
    have hA3 := HA2.out.below hb3
    have q3 := HQ.out.below hb3 hbl
    have hf3 := HF2.out.trans (Fr.of_below hb3 F) (fun _ h => .inl h)
    have hs3 := hb3.size
    clear hown hJ3 hm3 HRD HA2 HF2 hb3 HQ
    have HA3 := Lib.hid hA3
    have HF3 := Lib.hid hf3
    have HQ3 := Lib.hid q3
    clear hA3 hf3 q3
    go_wp2_with fail
    refine Calls.mono HSN.out ?_
    rintro e w4 ⟨A, c, he, hb4, hlc, hcm, hr3, u, hou⟩
    rw [HSC.out] at he hlc hr3 hou
    dsimp only at he hlc hr3 hou
    subst he
    have HRZ := Lib.hid (rows3z_outs hou)
    have hA4 := HA3.out.below hb4
    have q4 := HQ3.out.below hb4 HQ3.out.lt
    have hf4 := HF3.out.trans (Fr.of_below hb4 F) (fun _ h => .inl h)
    have hs4 := hb4.size
    clear hr3 hou hb4 HSN HA3 HF3 HQ3
    have HA4 := Lib.hid hA4
    have HF4 := Lib.hid hf4
    have HQ4 := Lib.hid q4
    obtain ⟨nl, hnl⟩ : ∃ n, n = ll.length := ⟨_, rfl⟩
    rw [← hnl] at hlc ⊢
    have HNL := Lib.hid hnl
    clear hA4 hf4 hnl h0 h1 h2
    have h0 := Blk.at_ q4 0 (v := .int .u64 (r0 : Nat)) rfl
    have h1 := Blk.at_ q4 1 (v := .int .u64 (r1 : Nat)) rfl
    have h2 := Blk.at_ q4 2 (v := .int .u8 (r2 : Nat)) rfl
    have zf := q4.frozen
    clear q4 
    have y1 := HE1.out
    go_upto_region 7 with fail
    clear y1 h0 h1 h2 zf
    have hfs : Fr (fun k => k = hb) w4 (w4.setCell ⟨hb, 1, none⟩ (.int .u64 (e1 : Nat))) := Fr.setCell (F := fun k => k = hb) (p := ⟨hb, 1, none⟩) (Fr.refl _ w4) (.inl rfl) _
    have nhb : Hid (¬ F1 hb) := Lib.hid fun e => absurd (hlo.out _ e) (Nat.lt_irrefl _)
    have HA5 := Lib.hid (HA4.out.fr hfs (fun k hk e => nhb.out (e ▸ hk)))
    have HQ5 : Hid (Blk (w4.setCell ⟨hb, 1, none⟩ (.int .u64 (e1 : Nat))) hb 35 (hcells ⟨r0, e1, r2⟩)) := Lib.hid (HQ4.out.set_ 1 (.int .u64 (e1 : Nat)))
    have HF5 := Lib.hid (HF4.out.trans (G := fun k => k = hb) hfs (fun k hk => .inr (by rw [hk]; exact hsz)))
    have HRZ5 := Lib.hid (HRZ.out.keep (SameZ.of_fr hfs (fun k hk => ⟨hk.2, fun e => by have := hk.1; omega⟩)))
    have hs5 : w4.heap.size = (w4.setCell ⟨hb, 1, none⟩ (.int .u64 (e1 : Nat))).heap.size := by simp
    clear HA4 HQ4 HF4 HRZ hfs
    obtain ⟨lo, hlo3⟩ : ∃ x, x = w3.heap.size := ⟨_, rfl⟩
    obtain ⟨hi, hhi4⟩ : ∃ x, x = w4.heap.size := ⟨_, rfl⟩
    rw [← hlo3, ← hhi4] at HRZ5
    rw [← hlo3] at hs3 hs4
    rw [← hhi4] at hs4 hs5
    clear hlo3 hhi4
    generalize w4.setCell ⟨hb, 1, none⟩ (.int .u64 (e1 : Nat)) = w5 at *
    have t2 : wrap64 (1 - (r2 : Int)) = 1 - (r2 : Int) := IntWalk.wrap64_in _ (by have := HLV.out; omega)
    go_wp2_with fail
    refine Calls.mono (shorten_any g (r2 : Nat) (te : Nat) w5) ?_
    rintro e w6 ⟨rfl, hB6, sz6, qa1, qa2, qa3⟩
    go_wp2_with fail
    refine Calls.mono (shorten_any g (1 - (r2 : Nat)) 0 w6) ?_
    rintro e w7 ⟨rfl, hB7, sz7, qb1, qb2, qb3⟩
    go_wp2_with fail
    refine Calls.mono (save_makes g hb w7) ?_
    rintro e w8 ⟨rfl, hB8, sz8, qc1, qc2⟩
    go_wp2_with fail
    rw [sz6] at qb1 qb2 qb3 sz7
    rw [sz7] at qc1 qc2 sz8
    refine Calls.mono (clear_made HA5.out (y := ⟨r0, e1, r2⟩) ⟨HW.out, HEB.out, HLV.out⟩ HQ5.out nhb.out hB6 hB7 hB8 qa1 qa2 qa3 qb1 qb2 qb3 qc1 qc2 (by omega) (by rw [sz8])) ?_
    rintro e w9 ⟨rfl, hS⟩
    clear qa1 qa2 qa3 qb1 qb2 qb3 qc1 qc2 hB6 hB7 hB8 sz6 sz7 sz8
    obtain ⟨⟨d, s9, ⟨y0, y1, y2⟩⟩, hd⟩ : ∃ x, clearD s ⟨r0, e1, r2⟩ (r2 : Nat) (te : Nat) (1 - (r2 : Nat)) 0 = x := ⟨_, rfl⟩
    rw [hd] at HOD hS ⊢
    clear hd
    obtain ⟨F9, hA9, q9, hf9, hs9⟩ := hS
    have hFd : ∀ k, F1 k ∨ k = hb → F k ∨ w.heap.size ≤ k := fun k hk => hk.elim (HS1.out k) (fun h => .inr (by omega))
    have HF9 := Lib.hid (HF5.out.trans hf9 hFd)
    have HS9 : Hid (∀ k, F9 k → F k ∨ w.heap.size ≤ k) := Lib.hid fun k hk => (hs9 k hk).elim (HS1.out k) (fun h => .inr (by omega))
    have HN9 : Hid (∀ k, lo ≤ k → k < hi → ¬ F9 k) := Lib.hid fun k h1 h2 e => (hs9 k e).elim (fun h => by have := hlo.out _ h; omega) (fun h => by omega)
    have HRZ9 := Lib.hid (HRZ5.out.keep (SameZ.of_fr hf9 (fun k hk => ⟨by have := hk.2; omega, fun e => e.elim (fun h => by have := hlo.out _ h; have := hk.1; omega) (fun h => by have := hk.1; omega)⟩)))
    have hsz9 : hi ≤ w9.heap.size := by have := hf9.size; omega
    have HA9 := Lib.hid hA9
    clear hA9 hf9 hs9 hFd HA5 HF5 HRZ5 HQ5
    dsimp only
    by_cases hd0 : d = 0
    · subst hd0
      have h0 := Blk.at_ q9 0 (v := .int .u64 (y0 : Nat)) rfl
      have h1 := Blk.at_ q9 1 (v := .int .u64 (y1 : Nat)) rfl
      have h2 := Blk.at_ q9 2 (v := .int .u8 (y2 : Nat)) rfl
      clear q9
      go_wp2_with fail
      refine bodyPost_ret (v := .tuple #[.pointer (some ⟨w9.heap.size, 0, none⟩), .slice A nl c, .int .i64 0]) (by simp [results, Try.results16, go_sem]) rfl ?_
      have hBn := (Below.refl w9.heap.size w9).alloc (Nat.le_refl _) (.cells (jcells g ⟨y0, y1, y2⟩) 48)
      rw [← HOut.out]
      unfold OpenOut
      rw [HOD.out, HOB.out]
      refine ⟨F9, HA9.out.below hBn, HF9.out.trans (Fr.of_below hBn F) (fun _ h => .inl h), HS9.out, .inr ⟨rfl, w9.heap.size, A, c, lo, hi, by rw [HNL.out], Blk.new_ w9 48 (jcells g ⟨y0, y1, y2⟩) rfl, HF9.out.size, fun e => by have := (HA9.out.lt e).2; omega, by rw [← HNL.out]; exact hlc, hcm,
        HRZ9.out.keep (SameZ.of_fr (Fr.of_below hBn (fun _ => False)) fun k hk => ⟨by have := hk.2; omega, fun h => h⟩), by omega, Nat.le_trans hsz9 hBn.size, fun k hk => ⟨HN9.out k hk.1 hk.2, by have := hk.2; omega⟩⟩⟩
    · have u1 : ¬ (d : Int) = 0 := by omega
      clear q9
      go_wp2_with fail
      refine bodyPost_ret (v := .tuple #[.pointer none, .slice none 0 0, .int .i64 (d : Nat)]) (by simp [results, Try.results16, go_sem]) rfl ?_
      rw [← HOut.out]
      unfold OpenOut
      rw [HOD.out]
      exact ⟨F9, HA9.out, HF9.out, HS9.out, .inl ⟨hd0, rfl⟩⟩
  · have u1 : ((c : Int) != 0) = true := by rw [bne_iff_ne]; omega
    have u2 : ¬ (c : Int) = 0 := by omega
    have hB2 := (Below.refl w1.heap.size w1).alloc (Nat.le_refl _) (.cells #[.int .u64 (r0 : Nat), .int .u64 (r1 : Nat), .int .u8 (r2 : Nat)] 35)
    have HC : Hid (c ≠ 0) := Lib.hid hc
    have HX := Lib.hid (And.intro (HA1.out.below hB2) (HF1.out.trans (Fr.of_below hB2 F) (fun _ h => .inl h)))
    have HOD : Hid (openD s = (c, s, none_)) := Lib.hid (by unfold openD; rw [HLR.out]; exact if_pos hc)
    clear hc hB2 HA1 HF1
    go_wp2_with fail
    refine bodyPost_ret (v := .tuple #[.pointer none, .slice none 0 0, .int .i64 (c : Nat)]) (by simp [results, Try.results16, go_sem]) rfl ?_
    rw [← HOut.out]
    unfold OpenOut
    rw [HOD.out]
    exact ⟨F1, HX.out.1, HX.out.2, HS1.out, .inl ⟨HC.out, rfl⟩⟩
end
end Go.Proofs.Ytmkijkkddoamgaa.Jo
