/-
  The walk of scan.take.
-/
import Derived.Test.YtnclbonoenjbeaaBatTake0
import Derived.Deep.DeepCutAuto
namespace Go.Proofs.Ytnclbonoenjbeaa.BatW
set_option linter.unusedVariables false
open Go.RowKit Go.Proofs Go.Proofs.Ytnclbonoenjbeaa Go.Proofs.Ytnclbonoenjbeaa.Wd Go.Proofs.Ytnclbonoenjbeaa.RecW
open Go.Proofs.Ytnclbonoenjbeaa.Rec (R)
open Go.Proofs.Ytnclbonoenjbeaa.Bat (B cnt St)

/-- What take answers. -/
def TakeOut (w : World) (base gs : Nat) (s : St) (r : R) (e : Ending) (w' : World) : Prop :=
  e = .returned (.tuple #[.bool (Bat.take s r).2.1, .int .i64 ((Bat.take s r).2.2 : Nat)]) ∧ Below base w w' ∧ ∃ vo vk, TS w' base gs vo vk (Bat.take s r).1
theorem infoSl : (Try.prog.info? 24).map (fun i => (i.zero, i.size, i.bytes)) = some (some (.slice none 0 0), 1, 24) := by kernel_rfl
theorem infoSS : (Try.prog.info? 37).map (fun i => (i.zero, i.size, i.bytes)) = some (some (.slice none 0 0), 1, 24) := by kernel_rfl
theorem out_nil (w : World) (base gs : Nat) (vo vk : Value) (s : St) (r : R) {w' : World} {e : Ending} (h : Bat.take s r = (s, false, 34)) (ht : TS w' base gs vo vk s) (hb : Below base w w') (he : e = .returned (.tuple #[.bool false, .int .i64 34])) : TakeOut w base gs s r e w' := by
  unfold TakeOut
  rw [h]
  exact ⟨he, hb, vo, vk, ht⟩
set_option maxRecDepth 100000 in
set_option maxHeartbeats 4000000 in
theorem take1_any {w : World} {base gs : Nat} {vo vk vd : Value} {s : St} {d : List UInt8} (h : TS w base gs vo vk s) (hd : w.ownsRow base 5 1 vd d.length (bs d)) (hm : s.2.length ≤ 1024) (hbase : base ≤ w.heap.size) :
    Calls Try.prog 28 #[.pointer (some ⟨gs, 0, none⟩), .agg #[.int .u8 1, vd]] w (TakeOut w base gs s (1, d)) := by
  obtain ⟨i0, hi0, hz0, hz1, hz2⟩ := info_parts infoSl
  obtain ⟨Ad, cd, rfl, -, -, -⟩ := own_bytes hd
  have gr := Blk.new_ w 42 #[.int .u8 1, .slice Ad d.length cd] rfl
  have hbw : Below w.heap.size w (w.alloc (.cells #[.int .u8 1, .slice Ad d.length cd] 42)) := (Below.refl _ w).alloc (Nat.le_refl _) _
  have hT := h.below hbw
  have hd1 := own_belowT hd hbw
  have hB : Below base w (w.alloc (.cells #[.int .u8 1, .slice Ad d.length cd] 42)) := hbw.mono hbase
  obtain ⟨m, hmm⟩ : ∃ m, m = s.2.length := ⟨_, rfl⟩
  obtain ⟨xs, hxo, hxr⟩ := hT.kept
  rw [← hmm] at hxo hm
  obtain ⟨Ak, ck, rfl, -⟩ := own_slice hxo
  have f0 := Blk.at_ gr 0 (v := .int .u8 1) rfl
  have HM := Lib.hid hmm
  have HT := Lib.hid hT
  have HX := Lib.hid (And.intro hxo hxr)
  have HD := Lib.hid hd1
  have HB := Lib.hid hB
  have HG := Lib.hid gr
  have f1 := Blk.at_ hT.blk 1 (v := .slice Ak m ck) rfl
  clear h hd hbw hT hd1 hB hmm hxo hxr gr
  go_enter Try.func28, Try.ntmps28
  by_cases h1 : m = 1024
  · have HR := Lib.hid (show Bat.take s (1, d) = (s, false, 34) by unfold Bat.take; rw [if_pos rfl, if_pos (by rw [← HM.out]; exact h1)])
    have u1 : (m : Int) = 1024 := by omega
    clear h1
    go_wp2_with fail
    go_ret2
    exact out_nil _ _ _ _ _ _ _ HR.out HT.out HB.out rfl
  · have HR := Lib.hid (show Bat.take s (1, d) = ((s.1, s.2 ++ [d]), false, 0) by unfold Bat.take; rw [if_pos rfl, if_neg (by rw [← HM.out]; exact h1)])
    have u1 : ¬ (m : Int) = 1024 := by omega
    go_upto_region 4 with fail
    generalize hwq : w.alloc (.cells #[.int .u8 1, .slice Ad d.length cd] 42) = wq at *
    generalize hgr : w.heap.size = gr at *
    have hS : Below wq.heap.size wq wq.drew := (Below.refl _ _).drew
    have HC1 : Hid (∀ W, Below wq.heap.size wq W → W.cell? ⟨gs, 1, none⟩ = some (.slice Ak m ck)) := Lib.hid fun W hW => (hW.cell (p := ⟨gs, 1, none⟩) HT.out.blk.lt).trans f1
    have HC2 : Hid (∀ W, Below wq.heap.size wq W → W.cell? ⟨gr, 1, none⟩ = some (.slice Ad d.length cd)) := Lib.hid fun W hW => (hW.cell (p := ⟨gr, 1, none⟩) HG.out.lt).trans (Blk.at_ HG.out 1 rfl)
    have HC3 : Hid (∀ W, Below wq.heap.size wq W → True) := Lib.hid fun W hW => trivial
    have hba : Below wq.heap.size wq (wq.drew.alloc (.cells #[.slice Ad d.length cd] 24)) := hS.alloc hS.size _
    have HXO : Hid ((wq.drew.alloc (.cells #[.slice Ad d.length cd] 24)).ownsRow base 24 1 (.slice Ak m ck) m xs) := Lib.hid (own_belowT HX.out.1 hba)
    have HXR : Hid (Row (wq.drew.alloc (.cells #[.slice Ad d.length cd] 24)) (wq.heap.size + 1) (some ⟨wq.heap.size, 0, none⟩) [.slice Ad d.length cd]) := Lib.hid (by
      have := Row.blk (Blk.new_ wq.drew 24 #[.slice Ad d.length cd] rfl) (B := wq.heap.size + 1) (Nat.lt_succ_self _)
      exact this)
    have HXB : Hid (base ≤ (wq.drew.alloc (.cells #[.slice Ad d.length cd] 24)).heap.size) := Lib.hid (by have := HB.out.size; simp; omega)
    have HAP : Hid (∀ w2 v', w2.ownsRow base 24 1 v' (m + 1) (xs ++ [.slice Ad d.length cd]) → (wq.drew.alloc (.cells #[.slice Ad d.length cd] 24)).grownBy w2 (Value.slice Ak m ck).ownBlock → (v'.ownBlock = (Value.slice Ak m ck).ownBlock ∨ v'.ownBlock = some (wq.drew.alloc (.cells #[.slice Ad d.length cd] 24)).heap.size) →
        w2.frozen? ⟨gs, 1, none⟩ = false ∧ w2.cell? ⟨gs, 1, none⟩ = some (.slice Ak m ck) ∧ TS (w2.setCell ⟨gs, 1, none⟩ v') base gs vo v' (s.1, s.2 ++ [d]) ∧ Below base w (w2.setCell ⟨gs, 1, none⟩ v')) := Lib.hid fun w2 v' h1 h2 h3 => by
      have ht := HT.out.below hba
      obtain ⟨k1, k2⟩ := ht.app (own_belowT HD.out hba) HXO.out (HX.out.2.keep (KeepT.below hba)) h2 (by rw [← HM.out]) h1 h3
      have hne : (Value.slice Ak m ck).ownBlock ≠ some gs := fun e => by
        obtain ⟨_, cs, hc⟩ := own_row HXO.out e
        exact Blk.ne_ hc ht.blk (by decide) rfl
      have b2 : Blk w2 gs 57 #[vo, .slice Ak m ck] := ht.blk.grown h2 (fun e => hne e.symm)
      refine ⟨b2.frozen 1, Blk.at_ b2 1 rfl, k1, (((HB.out.trans (hba.mono (by have := HB.out.size; omega))).trans ?_).trans k2)⟩
      exact (Below.refl base _).grown h2 HXB.out (fun g hg => (own_row HXO.out hg).1)
    clear hba f0 f1
    refine wp_region_heldG [7, 8] (fun c W => (c 7 = true ∧ c 8 = true) ∨ Below wq.heap.size wq W) (by kernel_rfl) ?_
    change wpAnyG _ _ _ _ _ _ 12 _ _ wq.drew
    -- take0 take1 take2 take3 take4 take5 take6 one7 one8 take9 take10 one11 done
    refine g_take (i := 0) rfl rfl (by kernel_rfl) (by kernel_rfl) (by kernel_rfl) (by kernel_rfl) (by kernel_rfl) (fun _ _ _ h => h) (.inr hS) (fun L W hL hW => by go_simp; rfl) ?_
    refine g_take (i := 1) rfl rfl (by kernel_rfl) (by kernel_rfl) (by kernel_rfl) (by kernel_rfl) (by kernel_rfl) (fun _ _ _ h => h) (.inr hS) (fun L W hL hW => by go_simp; rfl) ?_
    refine g_take (i := 2) rfl rfl (by kernel_rfl) (by kernel_rfl) (by kernel_rfl) (by kernel_rfl) (by kernel_rfl) (fun _ _ _ h => h) (.inr hS) (fun L W hL hW => by go_simp; rfl) ?_
    refine g_take (i := 3) rfl rfl (by kernel_rfl) (by kernel_rfl) (by kernel_rfl) (by kernel_rfl) (by kernel_rfl) (fun _ _ _ h => h) (.inr hS) (fun L W hL hW => by go_simp; rfl) ?_
    refine g_take (i := 4) rfl rfl (by kernel_rfl) (by kernel_rfl) (by kernel_rfl) (by kernel_rfl) (by kernel_rfl) (fun _ _ _ h => h) (.inr hS) (fun L W hL hW => by have hb := hW.resolve_left (by simp [came, hL 8 (by kernel_rfl)]); have q1 := HC1.out _ hb; have q2 := HC2.out _ hb; have q3 := HC3.out _ hb; go_simp; rfl) ?_
    refine g_take (i := 5) rfl rfl (by kernel_rfl) (by kernel_rfl) (by kernel_rfl) (by kernel_rfl) (by kernel_rfl) (fun _ _ _ h => h) (.inr hS) (fun L W hL hW => by go_simp; rfl) ?_
    refine g_take (i := 6) rfl rfl (by kernel_rfl) (by kernel_rfl) (by kernel_rfl) (by kernel_rfl) (by kernel_rfl) (fun _ _ _ h => h) (.inr hS) (fun L W hL hW => by have hb := hW.resolve_left (by simp [came, hL 7 (by kernel_rfl)]); have q1 := HC1.out _ hb; have q2 := HC2.out _ hb; have q3 := HC3.out _ hb; go_simp; rfl) ?_
    refine g_one (i := 7) rfl rfl (by kernel_rfl) fun K hK => ?_
    go_simp
    have hSa : Below wq.heap.size wq (wq.drew.alloc (.cells #[.slice Ad d.length cd] 24)) := hS.alloc hS.size _
    refine hK _ _ (.inr hSa) ?_
    clear hK K
    refine g_one (i := 8) rfl rfl (by kernel_rfl) fun K hK => ?_
    refine wp_append_row _ (.tmp 19) (.tmp 22) _ rfl base 24 i0 _ 24 Try.underlying37 hi0 hz0 hz1 hz2 rfl (.slice Ak m ck) m xs rfl (by exact HXO.out) (wq.heap.size + 1) (some ⟨wq.heap.size, 0, none⟩) 1 1 [.slice Ad d.length cd] rfl rfl (by exact HXR.out) (by intro u hu; simp only [List.mem_singleton] at hu; subst hu; rfl) (by unfold maxLen; omega) (by omega) (by exact HXB.out) ?_
    intro v' w2 hown2 hgrow _ hvb
    obtain ⟨A2, c2, hv2⟩ := own_form hown2
    subst hv2
    have HF := Lib.hid (HAP.out w2 _ hown2 hgrow hvb)
    clear hown2 hgrow hvb
    have fz := HF.out.1
    have fc := HF.out.2.1
    refine hK _ _ (.inl ⟨by decide, by decide⟩) ?_
    clear hK K
    refine g_take (i := 9) rfl rfl (by kernel_rfl) (by kernel_rfl) (by kernel_rfl) (by kernel_rfl) (by kernel_rfl) (fun _ _ _ h => h) (.inl ⟨by decide, by decide⟩) (fun L W hL hW => by go_simp; rfl) ?_
    refine g_take (i := 10) rfl rfl (by kernel_rfl) (by kernel_rfl) (by kernel_rfl) (by kernel_rfl) (by kernel_rfl) (fun _ _ _ h => h) (.inl ⟨by decide, by decide⟩) (fun L W hL hW => by go_simp; rfl) ?_
    refine g_one (i := 11) rfl rfl (by kernel_rfl) fun K hK => ?_
    go_simp
    refine hK _ _ (.inl ⟨by decide, by decide⟩) ?_
    clear hK K
    refine wpAnyG_done (by kernel_rfl) ?_ _
    go_simp
    go_wp2_with fail
    go_ret2
    unfold TakeOut
    rw [HR.out]
    exact ⟨rfl, HF.out.2.2.2, _, _, HF.out.2.2.1⟩
set_option maxRecDepth 100000 in
set_option maxHeartbeats 4000000 in
theorem take2_any {w : World} {base gs : Nat} {vo vk vd : Value} {s : St} {k : UInt8} {d : List UInt8} (hk : k ≠ 1) (h : TS w base gs vo vk s) (hd : w.ownsRow base 5 1 vd d.length (bs d)) (hm : s.2.length ≤ 1024) (hmo : s.1.length ≤ 1000000000000) (hdl : d.length ≤ 1000000) (hbase : base ≤ w.heap.size) :
    Calls Try.prog 28 #[.pointer (some ⟨gs, 0, none⟩), .agg #[.int .u8 (k.toNat : Nat), vd]] w (TakeOut w base gs s (k, d)) := by
  obtain ⟨j0, hj0, hy0, hy1, hy2⟩ := info_parts infoSS
  obtain ⟨Ad, cd, rfl, hdc, -, hbd⟩ := own_bytes hd
  have gr := Blk.new_ w 42 #[.int .u8 (k.toNat : Nat), .slice Ad d.length cd] rfl
  have hbw : Below w.heap.size w (w.alloc (.cells #[.int .u8 (k.toNat : Nat), .slice Ad d.length cd] 42)) := (Below.refl _ w).alloc (Nat.le_refl _) _
  have hT := h.below hbw
  have hB : Below base w (w.alloc (.cells #[.int .u8 (k.toNat : Nat), .slice Ad d.length cd] 42)) := hbw.mono hbase
  have hbd1 := hbd.grow hbw
  obtain ⟨m, hmm⟩ : ∃ m, m = s.2.length := ⟨_, rfl⟩
  obtain ⟨nd, hnd⟩ : ∃ n, n = d.length := ⟨_, rfl⟩
  obtain ⟨mo, hmoo⟩ : ∃ m, m = s.1.length := ⟨_, rfl⟩
  obtain ⟨Ak, ck, hvk, -, -, -⟩ := hT.kept.reads
  obtain ⟨Ao, co, hvo, -, -, -⟩ := hT.outs.out
  subst hvk
  subst hvo
  have HTx := Lib.hid hT
  rw [← hmm] at hT hm
  rw [← hmoo] at hT hmo
  rw [← hnd] at gr hbw hB hdc hdl hbd1 ⊢
  have HT : Hid (TS (w.alloc (.cells #[.int .u8 (k.toNat : Nat), .slice Ad nd cd] 42)) base gs (.slice Ao mo co) (.slice Ak m ck) s) := Lib.hid (by rw [hnd]; exact hT)
  have HBD0 : Hid (Bytes (w.alloc (.cells #[.int .u8 (k.toNat : Nat), .slice Ad nd cd] 42)) (w.alloc (.cells #[.int .u8 (k.toNat : Nat), .slice Ad nd cd] 42)).heap.size Ad d) := Lib.hid (by rw [hnd]; exact hbd.grow (by rw [← hnd]; exact hbw))
  have f0 := Blk.at_ gr 0 (v := .int .u8 (k.toNat : Nat)) rfl
  have HM := Lib.hid hmm
  have HMO := Lib.hid hmoo
  have HND := Lib.hid hnd
  have HB := Lib.hid hB
  have HG := Lib.hid gr
  have g1 : ¬ ((k.toNat : Nat) : Int) = 1 := fun e => hk (UInt8.toNat_inj.1 (show k.toNat = 1 by omega))
  have HK := Lib.hid hk
  clear h hd hbw hT hB hmm hmoo hnd gr hbd hbd1 hk HTx
  generalize hkk : k.toNat = kk at *
  go_enter Try.func28, Try.ntmps28
  go_upto_region 6 with fail
  generalize hwq : w.alloc (.cells #[.int .u8 (kk : Nat), .slice Ad nd cd] 42) = wq at *
  generalize hgr : w.heap.size = gr at *
  clear g1 f0
  have hS : Below wq.heap.size wq wq.drew := (Below.refl _ _).drew
  have HC1 : Hid (∀ W, Below wq.heap.size wq W → W.cell? ⟨gs, 1, none⟩ = some (.slice Ak m ck)) := Lib.hid fun W hW => (hW.cell (p := ⟨gs, 1, none⟩) HT.out.blk.lt).trans (Blk.at_ HT.out.blk 1 rfl)
  have HC2 : Hid (∀ W, Below wq.heap.size wq W → W.cell? ⟨gr, 1, none⟩ = some (.slice Ad nd cd)) := Lib.hid fun W hW => (hW.cell (p := ⟨gr, 1, none⟩) HG.out.lt).trans (Blk.at_ HG.out 1 rfl)
  have HC3 : Hid (∀ W, Below wq.heap.size wq W → W.cell? ⟨gs, 0, none⟩ = some (.slice Ao mo co)) := Lib.hid fun W hW => (hW.cell (p := ⟨gs, 0, none⟩) HT.out.blk.lt).trans (Blk.at_ HT.out.blk 0 rfl)
  have HBD : Hid (∀ W, Below wq.heap.size wq W → Bytes W W.heap.size Ad d) := Lib.hid fun W hW => HBD0.out.grow hW
  have HBC : Hid (Bytes (wq.drew.alloc (.cells (bs (cnt m)).toArray 5)) (wq.drew.alloc (.cells (bs (cnt m)).toArray 5)).heap.size (some ⟨wq.heap.size, 0, none⟩) (cnt m)) := Lib.hid (Bytes.new_ wq.drew 5 (bs (cnt m)).toArray (0, 0) (cnt m) (by simp) rfl (by simp))
  by_cases h0 : m = 0
  · have HR := Lib.hid (show Bat.take s (k, d) = (s, false, 34) by unfold Bat.take; rw [if_neg HK.out, if_pos (.inl (by rw [← HM.out]; exact h0))])
    have u1 : (m : Int) = 0 := by omega
    refine wp_region_heldG [] (fun _ W => Below wq.heap.size wq W) (by kernel_rfl) ?_
    change wpAnyG _ _ _ _ _ _ 18 _ _ wq.drew
    -- take0 take1 take2 take3 take4 take5 take6 take7G take8G take9G take10G take11G take12G take13G one14G one15G take16G take17 done
    refine g_take (i := 0) rfl rfl (by kernel_rfl) (by kernel_rfl) (by kernel_rfl) (by kernel_rfl) (by kernel_rfl) (fun _ _ _ h => h) hS (fun L W hL hW => by go_simp; rfl) ?_
    refine g_take (i := 1) rfl rfl (by kernel_rfl) (by kernel_rfl) (by kernel_rfl) (by kernel_rfl) (by kernel_rfl) (fun _ _ _ h => h) hS (fun L W hL hW => by go_simp; rfl) ?_
    refine g_take (i := 2) rfl rfl (by kernel_rfl) (by kernel_rfl) (by kernel_rfl) (by kernel_rfl) (by kernel_rfl) (fun _ _ _ h => h) hS (fun L W hL hW => by go_simp; rfl) ?_
    refine g_take (i := 3) rfl rfl (by kernel_rfl) (by kernel_rfl) (by kernel_rfl) (by kernel_rfl) (by kernel_rfl) (fun _ _ _ h => h) hS (fun L W hL hW => by have q1 := HC1.out _ hW; have q2 := HC2.out _ hW; have q3 := HC3.out _ hW; go_simp; rfl) ?_
    refine g_take (i := 4) rfl rfl (by kernel_rfl) (by kernel_rfl) (by kernel_rfl) (by kernel_rfl) (by kernel_rfl) (fun _ _ _ h => h) hS (fun L W hL hW => by go_simp; rfl) ?_
    refine g_take (i := 5) rfl rfl (by kernel_rfl) (by kernel_rfl) (by kernel_rfl) (by kernel_rfl) (by kernel_rfl) (fun _ _ _ h => h) hS (fun L W hL hW => by go_simp; rfl) ?_
    refine g_take (i := 6) rfl rfl (by kernel_rfl) (by kernel_rfl) (by kernel_rfl) (by kernel_rfl) (by kernel_rfl) (fun _ _ _ h => h) hS (fun L W hL hW => by go_simp; rfl) ?_
    refine g_skip (i := 7) rfl (by simp only [Region.wanted, yielded]; go_simp) (by kernel_rfl) (by kernel_rfl) (by kernel_rfl) (by kernel_rfl) (by kernel_rfl) (fun _ _ _ h => h) hS ?_
    refine g_skip (i := 8) rfl (by simp only [Region.wanted, yielded]; go_simp) (by kernel_rfl) (by kernel_rfl) (by kernel_rfl) (by kernel_rfl) (by kernel_rfl) (fun _ _ _ h => h) hS ?_
    refine g_skip (i := 9) rfl (by simp only [Region.wanted, yielded]; go_simp) (by kernel_rfl) (by kernel_rfl) (by kernel_rfl) (by kernel_rfl) (by kernel_rfl) (fun _ _ _ h => h) hS ?_
    refine g_skip (i := 10) rfl (by simp only [Region.wanted, yielded]; go_simp) (by kernel_rfl) (by kernel_rfl) (by kernel_rfl) (by kernel_rfl) (by kernel_rfl) (fun _ _ _ h => h) hS ?_
    refine g_skip (i := 11) rfl (by simp only [Region.wanted, yielded]; go_simp) (by kernel_rfl) (by kernel_rfl) (by kernel_rfl) (by kernel_rfl) (by kernel_rfl) (fun _ _ _ h => h) hS ?_
    refine g_skip (i := 12) rfl (by simp only [Region.wanted, yielded]; go_simp) (by kernel_rfl) (by kernel_rfl) (by kernel_rfl) (by kernel_rfl) (by kernel_rfl) (fun _ _ _ h => h) hS ?_
    refine g_skip (i := 13) rfl (by simp only [Region.wanted, yielded]; go_simp) (by kernel_rfl) (by kernel_rfl) (by kernel_rfl) (by kernel_rfl) (by kernel_rfl) (fun _ _ _ h => h) hS ?_
    refine g_skip (i := 14) rfl (by simp only [Region.wanted, yielded]; go_simp) (by kernel_rfl) (by kernel_rfl) (by kernel_rfl) (by kernel_rfl) (by kernel_rfl) (fun _ _ _ h => h) hS ?_
    refine g_skip (i := 15) rfl (by simp only [Region.wanted, yielded]; go_simp) (by kernel_rfl) (by kernel_rfl) (by kernel_rfl) (by kernel_rfl) (by kernel_rfl) (fun _ _ _ h => h) hS ?_
    refine g_skip (i := 16) rfl (by simp only [Region.wanted, yielded]; go_simp) (by kernel_rfl) (by kernel_rfl) (by kernel_rfl) (by kernel_rfl) (by kernel_rfl) (fun _ _ _ h => h) hS ?_
    refine g_take (i := 17) rfl rfl (by kernel_rfl) (by kernel_rfl) (by kernel_rfl) (by kernel_rfl) (by kernel_rfl) (fun _ _ _ h => h) hS (fun L W hL hW => by go_simp; rfl) ?_
    refine wpAnyG_done (by kernel_rfl) ?_ _
    go_simp
    have HTf := Lib.hid (HT.out.below hS)
    have HBf := Lib.hid (HB.out.trans (hS.mono (by have := HB.out.size; omega)))
    go_wp2_with fail
    go_ret2
    exact out_nil _ _ _ _ _ _ _ HR.out HTf.out HBf.out rfl
  have u1 : ¬ (m : Int) = 0 := by omega
  have u1b : ((m : Int) == 0) = false := by rw [beq_eq_false_iff_ne]; exact u1
  refine wp_region_heldG [] (fun _ W => Below wq.heap.size wq W) (by kernel_rfl) ?_
  change wpAnyG _ _ _ _ _ _ 18 _ _ wq.drew
  -- take0 take1 take2 take3 take4 take5 take6 take7G take8G take9G take10G take11G take12G take13G one14G one15G take16G take17 done
  refine g_take (i := 0) rfl rfl (by kernel_rfl) (by kernel_rfl) (by kernel_rfl) (by kernel_rfl) (by kernel_rfl) (fun _ _ _ h => h) hS (fun L W hL hW => by go_simp; rfl) ?_
  refine g_take (i := 1) rfl rfl (by kernel_rfl) (by kernel_rfl) (by kernel_rfl) (by kernel_rfl) (by kernel_rfl) (fun _ _ _ h => h) hS (fun L W hL hW => by go_simp; rfl) ?_
  refine g_take (i := 2) rfl rfl (by kernel_rfl) (by kernel_rfl) (by kernel_rfl) (by kernel_rfl) (by kernel_rfl) (fun _ _ _ h => h) hS (fun L W hL hW => by go_simp; rfl) ?_
  refine g_take (i := 3) rfl rfl (by kernel_rfl) (by kernel_rfl) (by kernel_rfl) (by kernel_rfl) (by kernel_rfl) (fun _ _ _ h => h) hS (fun L W hL hW => by have q1 := HC1.out _ hW; have q2 := HC2.out _ hW; have q3 := HC3.out _ hW; go_simp; rfl) ?_
  refine g_take (i := 4) rfl rfl (by kernel_rfl) (by kernel_rfl) (by kernel_rfl) (by kernel_rfl) (by kernel_rfl) (fun _ _ _ h => h) hS (fun L W hL hW => by go_simp; rfl) ?_
  refine g_take (i := 5) rfl rfl (by kernel_rfl) (by kernel_rfl) (by kernel_rfl) (by kernel_rfl) (by kernel_rfl) (fun _ _ _ h => h) hS (fun L W hL hW => by go_simp; rfl) ?_
  refine g_take (i := 6) rfl rfl (by kernel_rfl) (by kernel_rfl) (by kernel_rfl) (by kernel_rfl) (by kernel_rfl) (fun _ _ _ h => h) hS (fun L W hL hW => by go_simp; rfl) ?_
  refine g_takeG (i := 7) rfl (by simp only [Region.wanted, yielded]; go_simp) (by kernel_rfl) (by kernel_rfl) (by kernel_rfl) (by kernel_rfl) (by kernel_rfl) (fun _ _ _ h => h) hS (fun L W hL hW => by go_simp; rfl) ?_
  refine g_takeG (i := 8) rfl (by simp only [Region.wanted, yielded]; go_simp) (by kernel_rfl) (by kernel_rfl) (by kernel_rfl) (by kernel_rfl) (by kernel_rfl) (fun _ _ _ h => h) hS (fun L W hL hW => by have q1 := HC1.out _ hW; have q2 := HC2.out _ hW; have q3 := HC3.out _ hW; go_simp; rfl) ?_
  refine g_takeG (i := 9) rfl (by simp only [Region.wanted, yielded]; go_simp) (by kernel_rfl) (by kernel_rfl) (by kernel_rfl) (by kernel_rfl) (by kernel_rfl) (fun _ _ _ h => h) hS (fun L W hL hW => by go_simp; rfl) ?_
  refine g_takeG (i := 10) rfl (by simp only [Region.wanted, yielded]; go_simp) (by kernel_rfl) (by kernel_rfl) (by kernel_rfl) (by kernel_rfl) (by kernel_rfl) (fun _ _ _ h => h) hS (fun L W hL hW => by go_simp; rfl) ?_
  refine g_takeG (i := 11) rfl (by simp only [Region.wanted, yielded]; go_simp) (by kernel_rfl) (by kernel_rfl) (by kernel_rfl) (by kernel_rfl) (by kernel_rfl) (fun _ _ _ h => h) hS (fun L W hL hW => by go_simp; rfl) ?_
  refine g_takeG (i := 12) rfl (by simp only [Region.wanted, yielded]; go_simp) (by kernel_rfl) (by kernel_rfl) (by kernel_rfl) (by kernel_rfl) (by kernel_rfl) (fun _ _ _ h => h) hS (fun L W hL hW => by have q1 := HC1.out _ hW; have q2 := HC2.out _ hW; have q3 := HC3.out _ hW; go_simp; rfl) ?_
  refine g_takeG (i := 13) rfl (by simp only [Region.wanted, yielded]; go_simp) (by kernel_rfl) (by kernel_rfl) (by kernel_rfl) (by kernel_rfl) (by kernel_rfl) (fun _ _ _ h => h) hS (fun L W hL hW => by go_simp; rfl) ?_
  refine g_one (i := 14) rfl (by simp only [Region.wanted, yielded]; go_simp) (by kernel_rfl) fun K hK => ?_
  go_simp
  refine Calls.mono (count_any m (by omega) _) ?_
  rintro e w3 ⟨rfl, rfl⟩
  have hSa : Below wq.heap.size wq (wq.drew.alloc (.cells (bs (cnt m)).toArray 5)) := hS.alloc hS.size _
  refine hK _ _ hSa ?_
  clear hK K
  refine g_one (i := 15) rfl (by simp only [Region.wanted, yielded]; go_simp) (by kernel_rfl) fun K hK => ?_
  go_simp
  refine Calls.mono (equal_any Ad (some ⟨wq.heap.size, 0, none⟩) cd 2 d (cnt m) nd 2 HND.out rfl hdc (by decide) (by omega) _ (by exact HBD.out _ hSa) (by exact HBC.out)) ?_
  rintro e w3 ⟨rfl, hb3⟩
  have hS3 := hSa.trans (hb3.mono hSa.size)
  refine hK _ _ hS3 ?_
  clear hK K
  refine g_takeG (i := 16) rfl (by simp only [Region.wanted, yielded]; go_simp) (by kernel_rfl) (by kernel_rfl) (by kernel_rfl) (by kernel_rfl) (by kernel_rfl) (fun _ _ _ h => h) hS3 (fun L W hL hW => by go_simp; rfl) ?_
  refine g_take (i := 17) rfl rfl (by kernel_rfl) (by kernel_rfl) (by kernel_rfl) (by kernel_rfl) (by kernel_rfl) (fun _ _ _ h => h) hS3 (fun L W hL hW => by go_simp; rfl) ?_
  refine wpAnyG_done (by kernel_rfl) ?_ _
  go_simp
  have HTf := Lib.hid (HT.out.below hS3)
  have HBf := Lib.hid (HB.out.trans (hS3.mono (by have := HB.out.size; omega)))
  clear hb3 hSa
  cases hdd : (d == cnt m)
  · have HR := Lib.hid (show Bat.take s (k, d) = (s, false, 34) by unfold Bat.take; rw [if_neg HK.out, if_pos (.inr (by rw [← HM.out]; intro e; rw [show d = cnt m from e] at hdd; simp at hdd))])
    have u9 : (d != cnt m) = true := by unfold bne; rw [hdd]; rfl
    go_wp2_with fail
    go_ret2
    exact out_nil _ _ _ _ _ _ _ HR.out HTf.out HBf.out rfl
  have HR := Lib.hid (show Bat.take s (k, d) = ((s.1 ++ [s.2], []), true, 0) by
    unfold Bat.take; rw [if_neg HK.out, if_neg (by rw [← HM.out]; intro e; rcases e with e | e; exact h0 e; exact e (by simpa using hdd))])
  have u9 : (d != cnt m) = false := by unfold bne; rw [hdd]; rfl
  clear HT HB HC1 HC2 HC3 HBD HBC HG HBD0 hS hS3
  go_upto_region 8 with fail
  clear hwq hdd u9
  generalize w3 = wq at *
  have hS : Below wq.heap.size wq wq.drew := (Below.refl _ _).drew
  have HC1 : Hid (∀ W, Below wq.heap.size wq W → W.cell? ⟨gs, 1, none⟩ = some (.slice Ak m ck)) := Lib.hid fun W hW => (hW.cell (p := ⟨gs, 1, none⟩) HTf.out.blk.lt).trans (Blk.at_ HTf.out.blk 1 rfl)
  have HC2 : Hid (∀ W, Below wq.heap.size wq W → True) := Lib.hid fun W hW => trivial
  have HC3 : Hid (∀ W, Below wq.heap.size wq W → W.cell? ⟨gs, 0, none⟩ = some (.slice Ao mo co)) := Lib.hid fun W hW => (hW.cell (p := ⟨gs, 0, none⟩) HTf.out.blk.lt).trans (Blk.at_ HTf.out.blk 0 rfl)
  have hba : Below wq.heap.size wq (wq.drew.alloc (.cells #[.slice Ak m ck] 37)) := hS.alloc hS.size _
  obtain ⟨ys, hyo, hyx⟩ := (HTf.out.below hba).outs
  rw [← HMO.out] at hyo
  have HYO := Lib.hid hyo
  have HYX := Lib.hid hyx
  clear hyo hyx
  have HYR : Hid (Row (wq.drew.alloc (.cells #[.slice Ak m ck] 37)) (wq.heap.size + 1) (some ⟨wq.heap.size, 0, none⟩) [.slice Ak m ck]) := Lib.hid (by
    have := Row.blk (Blk.new_ wq.drew 37 #[.slice Ak m ck] rfl) (B := wq.heap.size + 1) (Nat.lt_succ_self _)
    exact this)
  have HXB : Hid (base ≤ (wq.drew.alloc (.cells #[.slice Ak m ck] 37)).heap.size) := Lib.hid (by have := HBf.out.size; simp; omega)
  have HAP : Hid (∀ w2 v', w2.ownsRow base 37 1 v' (mo + 1) (ys ++ [.slice Ak m ck]) → (wq.drew.alloc (.cells #[.slice Ak m ck] 37)).grownBy w2 (Value.slice Ao mo co).ownBlock →
      (w2.frozen? ⟨gs, 0, none⟩ = false ∧ w2.cell? ⟨gs, 0, none⟩ = some (.slice Ao mo co) ∧ ((w2.setCell ⟨gs, 0, none⟩ v').frozen? ⟨gs, 1, none⟩ = false ∧ (w2.setCell ⟨gs, 0, none⟩ v').cell? ⟨gs, 1, none⟩ = some (.slice Ak m ck))) ∧ TS ((w2.setCell ⟨gs, 0, none⟩ v').setCell ⟨gs, 1, none⟩ (.slice none 0 0)) base gs v' (.slice none 0 0) (s.1 ++ [s.2], []) ∧ Below base w ((w2.setCell ⟨gs, 0, none⟩ v').setCell ⟨gs, 1, none⟩ (.slice none 0 0))) := Lib.hid fun w2 v' h1 h2 => by
    have ht := HTf.out.below hba
    have hl := HYO.out.1
    rw [Nat.mul_one] at hl
    obtain ⟨k1, k2⟩ := ht.end_ HYO.out HYX.out (by rw [hl, HMO.out]) h2 (by rw [← HMO.out]) h1
    have hne : (Value.slice Ao mo co).ownBlock ≠ some gs := fun e => by
      obtain ⟨_, cs, hc⟩ := own_row HYO.out e
      exact Blk.ne_ hc ht.blk (by decide) rfl
    have b2 : Blk w2 gs 57 #[.slice Ao mo co, .slice Ak m ck] := ht.blk.grown h2 (fun e => hne e.symm)
    have b3 := b2.set_ 0 v'
    refine ⟨⟨b2.frozen 0, Blk.at_ b2 0 rfl, b3.frozen 1, Blk.at_ b3 1 rfl⟩, k1, (((HBf.out.trans (hba.mono (by have := HBf.out.size; omega))).trans ?_).trans k2)⟩
    exact (Below.refl base _).grown h2 HXB.out (fun g hg => (own_row HYO.out hg).1)
  clear hba
  refine wp_region_heldG [10, 11] (fun c W => (c 10 = true ∧ c 11 = true) ∨ Below wq.heap.size wq W) (by kernel_rfl) ?_
  change wpAnyG _ _ _ _ _ _ 18 _ _ wq.drew
  -- take0 take1 take2 take3 take4 take5 take6 take7 take8 take9 one10 one11 take12 take13 one14 take15 take16 one17 done
  refine g_take (i := 0) rfl rfl (by kernel_rfl) (by kernel_rfl) (by kernel_rfl) (by kernel_rfl) (by kernel_rfl) (fun _ _ _ h => h) (.inr hS) (fun L W hL hW => by go_simp; rfl) ?_
  refine g_take (i := 1) rfl rfl (by kernel_rfl) (by kernel_rfl) (by kernel_rfl) (by kernel_rfl) (by kernel_rfl) (fun _ _ _ h => h) (.inr hS) (fun L W hL hW => by go_simp; rfl) ?_
  refine g_take (i := 2) rfl rfl (by kernel_rfl) (by kernel_rfl) (by kernel_rfl) (by kernel_rfl) (by kernel_rfl) (fun _ _ _ h => h) (.inr hS) (fun L W hL hW => by go_simp; rfl) ?_
  refine g_take (i := 3) rfl rfl (by kernel_rfl) (by kernel_rfl) (by kernel_rfl) (by kernel_rfl) (by kernel_rfl) (fun _ _ _ h => h) (.inr hS) (fun L W hL hW => by go_simp; rfl) ?_
  refine g_take (i := 4) rfl rfl (by kernel_rfl) (by kernel_rfl) (by kernel_rfl) (by kernel_rfl) (by kernel_rfl) (fun _ _ _ h => h) (.inr hS) (fun L W hL hW => by go_simp; rfl) ?_
  refine g_take (i := 5) rfl rfl (by kernel_rfl) (by kernel_rfl) (by kernel_rfl) (by kernel_rfl) (by kernel_rfl) (fun _ _ _ h => h) (.inr hS) (fun L W hL hW => by have hb := hW.resolve_left (by simp [came, hL 11 (by kernel_rfl)]); have q1 := HC1.out _ hb; have q2 := HC2.out _ hb; have q3 := HC3.out _ hb; go_simp; rfl) ?_
  refine g_take (i := 6) rfl rfl (by kernel_rfl) (by kernel_rfl) (by kernel_rfl) (by kernel_rfl) (by kernel_rfl) (fun _ _ _ h => h) (.inr hS) (fun L W hL hW => by go_simp; rfl) ?_
  refine g_take (i := 7) rfl rfl (by kernel_rfl) (by kernel_rfl) (by kernel_rfl) (by kernel_rfl) (by kernel_rfl) (fun _ _ _ h => h) (.inr hS) (fun L W hL hW => by go_simp; rfl) ?_
  refine g_take (i := 8) rfl rfl (by kernel_rfl) (by kernel_rfl) (by kernel_rfl) (by kernel_rfl) (by kernel_rfl) (fun _ _ _ h => h) (.inr hS) (fun L W hL hW => by go_simp; rfl) ?_
  refine g_take (i := 9) rfl rfl (by kernel_rfl) (by kernel_rfl) (by kernel_rfl) (by kernel_rfl) (by kernel_rfl) (fun _ _ _ h => h) (.inr hS) (fun L W hL hW => by have hb := hW.resolve_left (by simp [came, hL 10 (by kernel_rfl)]); have q1 := HC1.out _ hb; have q2 := HC2.out _ hb; have q3 := HC3.out _ hb; go_simp; rfl) ?_
  refine g_one (i := 10) rfl rfl (by kernel_rfl) fun K hK => ?_
  go_simp
  have hSa : Below wq.heap.size wq (wq.drew.alloc (.cells #[.slice Ak m ck] 37)) := hS.alloc hS.size _
  refine hK _ _ (.inr hSa) ?_
  clear hK K
  refine g_one (i := 11) rfl rfl (by kernel_rfl) fun K hK => ?_
  refine wp_append_row _ (.tmp 49) (.tmp 54) _ rfl base 37 j0 _ 24 Try.underlying22 hj0 hy0 hy1 hy2 rfl (.slice Ao mo co) mo ys rfl (by exact HYO.out) (wq.heap.size + 1) (some ⟨wq.heap.size, 0, none⟩) 1 1 [.slice Ak m ck] rfl rfl (by exact HYR.out) (by intro u hu; simp only [List.mem_singleton] at hu; subst hu; rfl) (by unfold maxLen; omega) (by omega) (by exact HXB.out) ?_
  intro v' w2 hown2 hgrow _ hvb
  obtain ⟨A2, c2, hv2⟩ := own_form hown2
  subst hv2
  have HF := Lib.hid (HAP.out w2 _ hown2 hgrow)
  clear hown2 hgrow hvb
  have fz := HF.out.1.1
  have fc := HF.out.1.2.1
  have fd := HF.out.1.2.2.1
  have fe := HF.out.1.2.2.2
  refine hK _ _ (.inl ⟨by decide, by decide⟩) ?_
  clear hK K
  refine g_take (i := 12) rfl rfl (by kernel_rfl) (by kernel_rfl) (by kernel_rfl) (by kernel_rfl) (by kernel_rfl) (fun _ _ _ h => h) (.inl ⟨by decide, by decide⟩) (fun L W hL hW => by go_simp; rfl) ?_
  refine g_take (i := 13) rfl rfl (by kernel_rfl) (by kernel_rfl) (by kernel_rfl) (by kernel_rfl) (by kernel_rfl) (fun _ _ _ h => h) (.inl ⟨by decide, by decide⟩) (fun L W hL hW => by go_simp; rfl) ?_
  refine g_one (i := 14) rfl rfl (by kernel_rfl) fun K hK => ?_
  go_simp
  refine hK _ _ (.inl ⟨by decide, by decide⟩) ?_
  clear hK K
  refine g_take (i := 15) rfl rfl (by kernel_rfl) (by kernel_rfl) (by kernel_rfl) (by kernel_rfl) (by kernel_rfl) (fun _ _ _ h => h) (.inl ⟨by decide, by decide⟩) (fun L W hL hW => by go_simp; rfl) ?_
  refine g_take (i := 16) rfl rfl (by kernel_rfl) (by kernel_rfl) (by kernel_rfl) (by kernel_rfl) (by kernel_rfl) (fun _ _ _ h => h) (.inl ⟨by decide, by decide⟩) (fun L W hL hW => by go_simp; rfl) ?_
  refine g_one (i := 17) rfl rfl (by kernel_rfl) fun K hK => ?_
  go_simp
  refine hK _ _ (.inl ⟨by decide, by decide⟩) ?_
  clear hK K
  refine wpAnyG_done (by kernel_rfl) ?_ _
  go_simp
  go_wp2_with fail
  go_ret2
  unfold TakeOut
  rw [HR.out]
  exact ⟨rfl, HF.out.2.2, _, _, HF.out.2.1⟩
end Go.Proofs.Ytnclbonoenjbeaa.BatW
