/-
  The walk of the statement RecTells.
-/
import Derived.Test.YtboikajfcmgffaaRecForms
namespace Go.Proofs.Ytboikajfcmgffaa.RecW
set_option linter.unusedVariables false
open Go.RowKit Go.Proofs Go.Proofs.Ytboikajfcmgffaa Go.Proofs.Ytboikajfcmgffaa.Wd Go.Proofs.Ytboikajfcmgffaa.CrcW
open Go.Proofs.Ytboikajfcmgffaa.Rec (R four number fine takeErr takeEnd takeRec putErr number_lt)

theorem own_bytes2 {w : World} {base : Nat} {A : Option Addr} {n c : Nat} {l : List UInt8} (h : w.ownsRow base 5 1 (.slice A n c) n (bs l)) : Bytes w w.heap.size A l ∧ n = l.length := by
  obtain ⟨A', c', h1, _, h2, h3⟩ := own_bytes h
  cases h1
  exact ⟨h3, h2⟩
theorem fresh_own {w w' : World} {n : Nat} {l : List UInt8} {e : Ending} (h : Fresh w n l e w') (hn : n = l.length) : ∃ A c, e = .returned (.slice A n c) ∧ l.length ≤ c ∧ c ≤ maxLen ∧ Below w.heap.size w w' ∧ w'.ownsRow w.heap.size 5 1 (.slice A n c) n (bs l) := by
  obtain ⟨v, h1, h2, h3⟩ := h
  subst hn
  obtain ⟨A, c, rfl, hc, _, hb⟩ := own_bytes h2
  exact ⟨A, c, h1, hc, own_cap h2, h3, h2⟩

/-- What stays through the whole walk. -/
structure TellsKept (w : World) (r : R) (A : Option Addr) (c : Nat) (g : Nat) (Ad : Option Addr) (cd : Nat) (Ac : Option Addr) (cc : Nat) (b : List UInt8) (W : World) : Prop where
  hb : Below w.heap.size w W
  hr : Blk W w.heap.size 39 #[.int .u8 (r.1.toNat : Nat), .slice A r.2.length c]
  hx : Blk W g 39 #[.int .u8 (r.1.toNat : Nat), .slice Ad r.2.length cd]
  hd : W.ownsRow w.heap.size 5 1 (.slice Ad r.2.length cd) r.2.length (bs r.2)
  hc : W.ownsRow w.heap.size 5 1 (.slice Ac b.length cc) b.length (bs b)
theorem TellsKept.next {w W W' : World} {r : R} {A Ad Ac : Option Addr} {c cd cc g : Nat} {b : List UInt8} (h : TellsKept w r A c g Ad cd Ac cc b W) (hb : Below W.heap.size W W') : TellsKept w r A c g Ad cd Ac cc b W' :=
  ⟨h.hb.trans (hb.mono h.hb.size), h.hr.below hb h.hr.lt, h.hx.below hb h.hx.lt, own_below h.hd hb, own_below h.hc hb⟩
theorem TellsKept.alloc {w W : World} {r : R} {A Ad Ac : Option Addr} {c cd cc g : Nat} {b : List UInt8} (h : TellsKept w r A c g Ad cd Ac cc b W) (o : Obj) : TellsKept w r A c g Ad cd Ac cc b (W.alloc o) :=
  h.next ((Below.refl _ W).alloc (Nat.le_refl _) _)

set_option maxRecDepth 100000 in
set_option maxHeartbeats 8000000 in
theorem tells_walk (k : UInt8) (A : Option Addr) (c : Nat) (d : List UInt8) (hdc : d.length ≤ c) (hcm : c ≤ maxLen) (Ab : Option Addr) (cb : Nat) (b : List UInt8) (hbc : b.length ≤ cb) (hbm : cb ≤ maxLen) (n : Int) (hn1 : -9223372036854775808 ≤ n) (hn2 : n ≤ 9223372036854775807) (w : World)
    (hI : Bytes w w.heap.size A d) (hJ : Bytes w w.heap.size Ab b) :
    Calls Try.prog 6 #[.agg #[.int .u8 (k.toNat : Nat), .slice A d.length c], .slice Ab b.length cb, .int .i64 n] w fun e w' => e = .returned (.bool true) ∧ Below w.heap.size w w' := by
  unfold maxLen at hcm hbm
  have hz := Blk.new_ w 39 #[.int .u8 (k.toNat : Nat), .slice A d.length c] rfl
  have hB0 : Below w.heap.size w (w.alloc (.cells #[.int .u8 (k.toNat : Nat), .slice A d.length c] 39)) := (Below.refl _ w).alloc (Nat.le_refl _) _
  by_cases h1 : 9000 < d.length
  · have h1' : decide ((9000 : Int) < (d.length : Int)) = true := by simp; omega
    go_enter Try.func6, Try.ntmps6
    go_wp2_with fail
    refine Calls.mono (awake_any _) ?_
    rintro e w7 ⟨rfl, hB7⟩
    go_wp2
    go_ret
    exact ⟨rfl, hB0.trans (hB7.mono hB0.size)⟩
  have h1' : decide ((9000 : Int) < (d.length : Int)) = false := by simp; omega
  by_cases h2 : 9000 < b.length
  · have h2' : decide ((9000 : Int) < (b.length : Int)) = true := by simp; omega
    go_enter Try.func6, Try.ntmps6
    go_wp2_with fail
    refine Calls.mono (awake_any _) ?_
    rintro e w7 ⟨rfl, hB7⟩
    go_wp2
    go_ret
    exact ⟨rfl, hB0.trans (hB7.mono hB0.size)⟩
  have h2' : decide ((9000 : Int) < (b.length : Int)) = false := by simp; omega
  go_enter Try.func6, Try.ntmps6
  go_wp2_with fail
  generalize w.alloc (.cells #[.int .u8 (k.toNat : Nat), .slice A d.length c] 39) = w0 at *
  have hsz0 := hz.lt
  have hS := (Below.refl w0.heap.size w0).drew
  refine wp_region_heldG [] (fun _ W => Below w0.heap.size w0 W) (by kernel_rfl) ?_
  change wpAnyG _ _ _ _ _ _ 11 _ _ w0.drew
  refine g_take (i := 0) rfl rfl (by kernel_rfl) (by kernel_rfl) (by kernel_rfl) (by kernel_rfl) (by kernel_rfl) (fun _ _ _ h => h) hS (fun L W hL hW => by go_simp; rfl) ?_
  refine g_take (i := 1) rfl rfl (by kernel_rfl) (by kernel_rfl) (by kernel_rfl) (by kernel_rfl) (by kernel_rfl) (fun _ _ _ h => h) hS (fun L W hL hW => by have c0 := Blk.at_ (hz.below hW hsz0) 0 rfl; go_simp; rfl) ?_
  refine g_take (i := 2) rfl rfl (by kernel_rfl) (by kernel_rfl) (by kernel_rfl) (by kernel_rfl) (by kernel_rfl) (fun _ _ _ h => h) hS (fun L W hL hW => by go_simp; rfl) ?_
  refine g_take (i := 3) rfl rfl (by kernel_rfl) (by kernel_rfl) (by kernel_rfl) (by kernel_rfl) (by kernel_rfl) (fun _ _ _ h => h) hS (fun L W hL hW => by have c0 := Blk.at_ (hz.below hW hsz0) 1 rfl; go_simp; rfl) ?_
  refine g_take (i := 6) rfl rfl (by kernel_rfl) (by kernel_rfl) (by kernel_rfl) (by kernel_rfl) (by kernel_rfl) (fun _ _ _ h => h) hS (fun L W hL hW => by go_simp; rfl) ?_
  have HD : ∀ W, Below w0.heap.size w0 W → Bytes W W.heap.size A d := fun W hW => (hI.below (hB0.trans (hW.mono (Nat.le_of_lt hsz0)))).more (hB0.trans (hW.mono (Nat.le_of_lt hsz0))).size
  have HJ : ∀ W, Below w0.heap.size w0 W → Bytes W W.heap.size Ab b := fun W hW => (hJ.below (hB0.trans (hW.mono (Nat.le_of_lt hsz0)))).more (hB0.trans (hW.mono (Nat.le_of_lt hsz0))).size
  refine g_two (i := 4) (j := 8) (by kernel_rfl) rfl rfl rfl rfl (fun K hK => ?_) (fun K hK => ?_)
  rotate_left
  focus
    go_simp
    have hzz := Blk.new_ w0.drew 39 #[.int .u8 0, .slice none 0 0] rfl
    have hS1 := hS.alloc hS.size (.cells #[.int .u8 0, .slice none 0 0] 39)
    refine hK _ _ hS1 ?_
    clear hK K
    refine g_one (i := 4) rfl rfl (by kernel_rfl) fun K hK => ?_
    go_simp
    refine Calls.mono (anew_any A c d _ rfl (by omega) _ (HD _ hS1)) ?_
    rintro e w2 hf
    obtain ⟨Ad, cd, rfl, hdd, hdm, hb2, hD2⟩ := fresh_own hf rfl
    have hS2 := hS1.trans (hb2.mono hS1.size)
    refine hK _ _ hS2 ?_
    clear hK K hf
    refine g_take (i := 5) rfl rfl (by kernel_rfl) (by kernel_rfl) (by kernel_rfl) (by kernel_rfl) (by kernel_rfl) (fun _ _ _ h => h) hS2 (fun L W hL hW => by go_simp; rfl) ?_
    refine g_one (i := 7) rfl rfl (by kernel_rfl) fun K hK => ?_
    go_simp
    refine Calls.mono (anew_any Ab cb b _ rfl (by omega) _ (HJ _ hS2)) ?_
    rintro e w3 hf
    obtain ⟨Ac, cc, rfl, hbb, hbm2, hb3, hC3⟩ := fresh_own hf rfl
    have hS3 := hS2.trans (hb3.mono hS2.size)
    refine hK _ _ hS3 ?_
    clear hK K hf
    have hz3 : Blk w3 w0.heap.size 39 #[.int .u8 0, .slice none 0 0] := (hzz.below hb2 hzz.lt).below hb3 (Nat.lt_of_lt_of_le hzz.lt hb2.size)
    have hDe : World.ownsRow w3 w.heap.size 5 1 (.slice Ad d.length cd) d.length (bs d) := own_base (own_base (own_below hD2 hb3) hS1.size) hB0.size
    have hCe : World.ownsRow w3 w.heap.size 5 1 (.slice Ac b.length cc) b.length (bs b) := own_base (own_base hC3 hS2.size) hB0.size
    have z0 : w3.cell? ⟨w0.heap.size, 0, none⟩ = some (.int .u8 0) := Blk.at_ hz3 0 rfl
    have z1 : w3.cell? ⟨w0.heap.size, 1, none⟩ = some (.slice none 0 0) := Blk.at_ hz3 1 rfl
    have f0 : w3.frozen? ⟨w0.heap.size, 0, none⟩ = false := hz3.frozen 0
    have f1 : w3.frozen? ⟨w0.heap.size, 1, none⟩ = false := hz3.frozen 1
    refine g_one (i := 9) rfl rfl (by kernel_rfl) fun K hK => ?_
    go_simp
    have hSe := (hS3.setCell (p := ⟨w0.heap.size, 0, none⟩) (Nat.le_refl _) (.int .u8 (k.toNat : Nat))).setCell (p := ⟨w0.heap.size, 1, none⟩) (Nat.le_refl _) (.slice Ad d.length cd)
    refine hK _ _ hSe ?_
    clear hK K z0 z1 f0 f1
    refine g_take (i := 10) rfl rfl (by kernel_rfl) (by kernel_rfl) (by kernel_rfl) (by kernel_rfl) (by kernel_rfl) (fun _ _ _ h => h) hSe (fun L W hL hW => by go_simp; rfl) ?_
    refine wpAnyG_done (by kernel_rfl) ?_ _
    have hKU := (KeepU8.set_ hz3 (by decide) 0 (.int .u8 (k.toNat : Nat))).trans (KeepU8.set_ (hz3.set_ 0 (.int .u8 (k.toNat : Nat))) (by decide) 1 (.slice Ad d.length cd))
    have KP : TellsKept w (k, d) A c w0.heap.size Ad cd Ac cc b ((w3.setCell ⟨w0.heap.size, 0, none⟩ (.int .u8 (k.toNat : Nat))).setCell ⟨w0.heap.size, 1, none⟩ (.slice Ad d.length cd)) :=
      ⟨hB0.trans (hSe.mono hB0.size), hz.below hSe hsz0, (hz3.set_ 0 _).set_ 1 _, own_u8 hDe hKU, own_u8 hCe hKU⟩
    generalize (w3.setCell ⟨w0.heap.size, 0, none⟩ (.int .u8 (k.toNat : Nat))).setCell ⟨w0.heap.size, 1, none⟩ (.slice Ad d.length cd) = W at *
    generalize w0.heap.size = gx at *
  rotate_left
  focus
    go_simp
    refine Calls.mono (anew_any A c d _ rfl (by omega) _ (HD _ hS)) ?_
    rintro e w1 hf
    obtain ⟨Ad, cd, rfl, hdd, hdm, hb1, hD1⟩ := fresh_own hf rfl
    have hS1 := hS.trans (hb1.mono hS.size)
    refine hK _ _ hS1 ?_
    clear hK K hf
    refine g_take (i := 5) rfl rfl (by kernel_rfl) (by kernel_rfl) (by kernel_rfl) (by kernel_rfl) (by kernel_rfl) (fun _ _ _ h => h) hS1 (fun L W hL hW => by go_simp; rfl) ?_
    refine g_two (i := 7) (j := 8) (by kernel_rfl) rfl rfl rfl rfl (fun K hK => ?_) (fun K hK => ?_)
  focus
    go_simp
    refine Calls.mono (anew_any Ab cb b _ rfl (by omega) _ (HJ _ hS1)) ?_
    rintro e w2 hf
    obtain ⟨Ac, cc, rfl, hbb, hbm2, hb2, hC2⟩ := fresh_own hf rfl
    have hS2 := hS1.trans (hb2.mono hS1.size)
    refine hK _ _ hS2 ?_
    clear hK K hf
    refine g_one (i := 8) rfl rfl (by kernel_rfl) fun K hK => ?_
    go_simp
    have hzz := Blk.new_ w2 39 #[.int .u8 0, .slice none 0 0] rfl
    have hS3 := hS2.alloc hS2.size (.cells #[.int .u8 0, .slice none 0 0] 39)
    refine hK _ _ hS3 ?_
    clear hK K
    refine g_one (i := 9) rfl rfl (by kernel_rfl) fun K hK => ?_
    go_simp
    have hSe := hS2.alloc hS2.size (.cells #[.int .u8 (k.toNat : Nat), .slice Ad d.length cd] 39)
    refine hK _ _ hSe ?_
    clear hK K
    refine g_take (i := 10) rfl rfl (by kernel_rfl) (by kernel_rfl) (by kernel_rfl) (by kernel_rfl) (by kernel_rfl) (fun _ _ _ h => h) hSe (fun L W hL hW => by go_simp; rfl) ?_
    refine wpAnyG_done (by kernel_rfl) ?_ _
    have hbn := (Below.refl _ w2).alloc (Nat.le_refl _) (.cells #[.int .u8 (k.toNat : Nat), .slice Ad d.length cd] 39)
    have hDe := own_base (own_below (own_below hD1 hb2) hbn) hB0.size
    have hCe := own_base (own_base (own_below hC2 hbn) hS1.size) hB0.size
    have KP : TellsKept w (k, d) A c w2.heap.size Ad cd Ac cc b (w2.alloc (.cells #[.int .u8 (k.toNat : Nat), .slice Ad d.length cd] 39)) :=
      ⟨hB0.trans (hSe.mono hB0.size), hz.below hSe hsz0, Blk.new_ _ _ _ rfl, hDe, hCe⟩
    generalize (w2.alloc (.cells #[.int .u8 (k.toNat : Nat), .slice Ad d.length cd] 39)) = W at *
    generalize w2.heap.size = gx at *
  rotate_left
  focus
    go_simp
    have hzz := Blk.new_ w1 39 #[.int .u8 0, .slice none 0 0] rfl
    have hS2 := hS1.alloc hS1.size (.cells #[.int .u8 0, .slice none 0 0] 39)
    refine hK _ _ hS2 ?_
    clear hK K
    refine g_one (i := 7) rfl rfl (by kernel_rfl) fun K hK => ?_
    go_simp
    refine Calls.mono (anew_any Ab cb b _ rfl (by omega) _ (HJ _ hS2)) ?_
    rintro e w3 hf
    obtain ⟨Ac, cc, rfl, hbb, hbm2, hb3, hC3⟩ := fresh_own hf rfl
    have hS3 := hS2.trans (hb3.mono hS2.size)
    refine hK _ _ hS3 ?_
    clear hK K hf
    have hz3 : Blk w3 w1.heap.size 39 #[.int .u8 0, .slice none 0 0] := hzz.below hb3 hzz.lt
    have hDe : World.ownsRow w3 w.heap.size 5 1 (.slice Ad d.length cd) d.length (bs d) := own_base (own_below (own_below hD1 ((Below.refl _ w1).alloc (Nat.le_refl _) _)) hb3) hB0.size
    have hCe : World.ownsRow w3 w.heap.size 5 1 (.slice Ac b.length cc) b.length (bs b) := own_base (own_base hC3 hS2.size) hB0.size
    have z0 : w3.cell? ⟨w1.heap.size, 0, none⟩ = some (.int .u8 0) := Blk.at_ hz3 0 rfl
    have z1 : w3.cell? ⟨w1.heap.size, 1, none⟩ = some (.slice none 0 0) := Blk.at_ hz3 1 rfl
    have f0 : w3.frozen? ⟨w1.heap.size, 0, none⟩ = false := hz3.frozen 0
    have f1 : w3.frozen? ⟨w1.heap.size, 1, none⟩ = false := hz3.frozen 1
    refine g_one (i := 9) rfl rfl (by kernel_rfl) fun K hK => ?_
    go_simp
    have hSe := (hS3.setCell (p := ⟨w1.heap.size, 0, none⟩) hS1.size (.int .u8 (k.toNat : Nat))).setCell (p := ⟨w1.heap.size, 1, none⟩) hS1.size (.slice Ad d.length cd)
    refine hK _ _ hSe ?_
    clear hK K z0 z1 f0 f1
    refine g_take (i := 10) rfl rfl (by kernel_rfl) (by kernel_rfl) (by kernel_rfl) (by kernel_rfl) (by kernel_rfl) (fun _ _ _ h => h) hSe (fun L W hL hW => by go_simp; rfl) ?_
    refine wpAnyG_done (by kernel_rfl) ?_ _
    have hKU := (KeepU8.set_ hz3 (by decide) 0 (.int .u8 (k.toNat : Nat))).trans (KeepU8.set_ (hz3.set_ 0 (.int .u8 (k.toNat : Nat))) (by decide) 1 (.slice Ad d.length cd))
    have KP : TellsKept w (k, d) A c w1.heap.size Ad cd Ac cc b ((w3.setCell ⟨w1.heap.size, 0, none⟩ (.int .u8 (k.toNat : Nat))).setCell ⟨w1.heap.size, 1, none⟩ (.slice Ad d.length cd)) :=
      ⟨hB0.trans (hSe.mono hB0.size), hz.below hSe hsz0, (hz3.set_ 0 _).set_ 1 _, own_u8 hDe hKU, own_u8 hCe hKU⟩
    generalize (w3.setCell ⟨w1.heap.size, 0, none⟩ (.int .u8 (k.toNat : Nat))).setCell ⟨w1.heap.size, 1, none⟩ (.slice Ad d.length cd) = W at *
    generalize w1.heap.size = gx at *
  all_goals
    clear HD HJ hz
    have x0 : W.cell? ⟨gx, 0, none⟩ = some (.int .u8 (k.toNat : Nat)) := Blk.at_ KP.hx 0 rfl
    have x1 : W.cell? ⟨gx, 1, none⟩ = some (.slice Ad d.length cd) := Blk.at_ KP.hx 1 rfl
    have hD0 := (own_bytes2 KP.hd).1
    go_wp2_with fail
    refine Calls.mono (put_any k Ad cd d _ rfl W hD0) ?_
    clear x0 x1 hD0
    rintro e W1 hw
    obtain ⟨Ax, cx, rfl, hb1, hx1, hx2, ho1⟩ := hw.out
    have K1 := KP.next hb1
    clear hw KP
    have r0 : W1.cell? ⟨w.heap.size, 0, none⟩ = some (.int .u8 (k.toNat : Nat)) := Blk.at_ K1.hr 0 rfl
    have r1 : W1.cell? ⟨w.heap.size, 1, none⟩ = some (.slice A d.length c) := Blk.at_ K1.hr 1 rfl
    go_wp2_with fail
    refine Calls.mono (refput_any k A c d _ rfl hdc W1 ((Row.below hI K1.hb).more K1.hb.size)) ?_
    clear r0 r1
    rintro e W2 hw
    obtain ⟨Ay, cy, rfl, hb2, hy1, hy2, ho2⟩ := hw.out
    have K2 := K1.next hb2
    have s1 := (own_bytes2 (own_below ho1 hb2)).1
    have s2 := (own_bytes2 ho2).1
    clear hw K1 ho1 ho2 hb1 hb2
    go_wp2_with fail
    refine Calls.mono (same_any Ax Ay cx cy (putL (k, d)) (putL (k, d)) _ _ rfl rfl _ s1 s2) ?_
    rintro e w' ⟨rfl, rfl⟩
    clear s1 s2
    rw [show (putL (k, d) == putL (k, d)) = true by simp]
    have x0 : W2.cell? ⟨gx, 0, none⟩ = some (.int .u8 (k.toNat : Nat)) := Blk.at_ K2.hx 0 rfl
    have x1 : W2.cell? ⟨gx, 1, none⟩ = some (.slice Ad d.length cd) := Blk.at_ K2.hx 1 rfl
    have r0 : W2.cell? ⟨w.heap.size, 0, none⟩ = some (.int .u8 (k.toNat : Nat)) := Blk.at_ K2.hr 0 rfl
    have r1 : W2.cell? ⟨w.heap.size, 1, none⟩ = some (.slice A d.length c) := Blk.at_ K2.hr 1 rfl
    go_wp2_with fail
    refine Calls.mono (samerec_any Ad A cd c (k, d) (k, d) _ (own_bytes2 K2.hd).1 ((Row.below hI K2.hb).more K2.hb.size)) ?_
    rintro e W3 ⟨rfl, hb3⟩
    clear x0 x1 r0 r1
    rw [show sameB (k, d) (k, d) = true by simp [sameB]]
    have K3 := K2.next hb3
    clear K2 hb3
    go_wp2_with fail
    refine Calls.mono (take_any Ac cc b _ rfl hbb (by omega) W3 (own_bytes2 K3.hc).1) ?_
    rintro e W4 hw
    obtain ⟨Ap, cp, rfl, hb4, hp1, hp2, hp⟩ := hw.out
    have K4 := (K3.next hb4).alloc (.cells #[.int .u8 ((tkRec b).1.toNat : Nat), .slice Ap (tkRec b).2.length cp] 39)
    have bp := Blk.new_ W4 39 #[.int .u8 ((tkRec b).1.toNat : Nat), .slice Ap (tkRec b).2.length cp] rfl
    have hp4 := own_below hp ((Below.refl _ W4).alloc (Nat.le_refl _) (.cells #[.int .u8 ((tkRec b).1.toNat : Nat), .slice Ap (tkRec b).2.length cp] 39))
    clear hw K3 hb4 hp
    go_wp2_with fail
    generalize W4.alloc (.cells #[.int .u8 ((tkRec b).1.toNat : Nat), .slice Ap (tkRec b).2.length cp] 39) = W5 at *
    refine Calls.mono (reftake_any Ab cb b _ rfl hbc (by omega) W5 ((Row.below hJ K4.hb).more K4.hb.size)) ?_
    rintro e W6 hw
    obtain ⟨Aq, cq, rfl, hb6, hq1, hq2, hq⟩ := hw.out
    have hbq := (Below.refl _ W6).alloc (Nat.le_refl _) (.cells #[.int .u8 ((tkRec b).1.toNat : Nat), .slice Aq (tkRec b).2.length cq] 39)
    have K6 := (K4.next hb6).next hbq
    have bp6 := (bp.below hb6 bp.lt).below hbq (Nat.lt_of_lt_of_le bp.lt hb6.size)
    have hp6 := own_below (own_below hp4 hb6) hbq
    have bq := Blk.new_ W6 39 #[.int .u8 ((tkRec b).1.toNat : Nat), .slice Aq (tkRec b).2.length cq] rfl
    have hq6 := own_below hq hbq
    have p0 := Blk.at_ bp6 0 rfl
    have p1 := Blk.at_ bp6 1 rfl
    have q0 := Blk.at_ bq 0 rfl
    have q1 := Blk.at_ bq 1 rfl
    simp only [List.getElem_toArray, List.getElem_cons_zero, List.getElem_cons_succ] at p0 p1 q0 q1
    clear hw K4 hb6 hq bp bp6 hp4 bq hbq
    go_wp2_with fail
    refine Calls.mono (samerec_any Ap Aq cp cq (tkRec b) (tkRec b) _ (own_bytes2 hp6).1 (own_bytes2 hq6).1) ?_
    rintro e W7 ⟨rfl, hb7⟩
    rw [show sameB (tkRec b) (tkRec b) = true by simp [sameB]]
    have K7 := K6.next hb7
    clear K6 hb7 p0 p1 q0 q1 hp6 hq6
    go_wp2_with fail
    refine Calls.mono (all_any Ac cc b hbb (by omega) W7 (own_bytes2 K7.hc).1) ?_
    rintro e W8 hw
    obtain ⟨Al, cl, rfl, hb8, hl1, hl2, hL⟩ := hw.out
    have K8 := K7.next hb8
    clear hw K7 hb8
    go_wp2_with fail
    refine Calls.mono (refall_any Ab cb b _ rfl hbc (by omega) W8 ((Row.below hJ K8.hb).more K8.hb.size)) ?_
    rintro e W9 hw
    obtain ⟨Ao, co, rfl, hb9, ho1, ho2, hO⟩ := hw.out
    have K9 := K8.next hb9
    have hL9 := hL.grow hb9
    clear hw K8 hb9 hL
    by_cases hn3 : n < 0
    rotate_left
    by_cases hn4 : 4096 < n
  all_goals
    go_wp2_with fail
    refine Calls.mono (samerecs_any Al Ao cl co (Rec.all b).1 (Rec.all b).1 _ _ rfl rfl hl1 ho1 hl2 ho2 _ hL9 hO) ?_
    rintro e W10 ⟨rfl, hb10⟩
    rw [show decide ((Rec.all b).1 = (Rec.all b).1) = true by simp]
    have K10 := K9.next hb10
    clear K9 hb10 hL9 hO
    go_wp2_with fail
    refine Calls.mono (same_any Ab Ac cb cc b b _ _ rfl rfl _ ((Row.below hJ K10.hb).more K10.hb.size) (own_bytes2 K10.hc).1) ?_
    rintro e w' ⟨rfl, rfl⟩
    rw [show (b == b) = true by simp]
    go_wp2_with fail
    refine Calls.mono (long_any n hn1 hn2 _) ?_
    rintro e w' ⟨rfl, rfl⟩
    first
      | rw [show Rec.longOf n = 0 by unfold Rec.longOf; rw [if_neg (by omega)]]
      | rw [show Rec.longOf n = n + 9 by unfold Rec.longOf; rw [if_pos (by omega)]; omega]
    go_wp2_with fail
    refine Calls.mono (awake_any _) ?_
    rintro e W11 ⟨rfl, hb11⟩
    go_wp2_with fail
    go_ret
    exact ⟨rfl, K10.hb.trans (hb11.mono K10.hb.size)⟩
end Go.Proofs.Ytboikajfcmgffaa.RecW
