/-
  The chapter's examples of layer 3: the walk of awake.
-/
import Derived.Test.YtboikajfcmgffaaRecWalks9
import Derived.Lib.SlBytesConst
namespace Go.Proofs.Ytboikajfcmgffaa.RecW
set_option linter.unusedVariables false
open Go.RowKit Go.Proofs Go.Proofs.Ytboikajfcmgffaa Go.Proofs.Ytboikajfcmgffaa.Wd Go.Proofs.Ytboikajfcmgffaa.CrcW
open Go.Proofs.Ytboikajfcmgffaa.Crc (sumB sumB_lt)
open Go.Proofs.Ytboikajfcmgffaa.Rec (R four number fine takeErr takeEnd takeRec putErr number_lt)

theorem take_ok (A : Option Addr) (c : Nat) (b : List UInt8) (n : Nat) (hn : n = b.length) (hbc : b.length ≤ c) (hb : b.length ≤ 1000000000000) (w : World) (hI : Bytes w w.heap.size A b) (he : takeErr b = 0)
    (k : UInt8) (d : List UInt8) (m : Nat) (hr : takeRec b = (k, d)) (hm : takeEnd b = m) :
    Calls Try.prog 18 #[.slice A n c] w fun e w' => ∃ A' c', e = .returned (.tuple #[.agg #[.int .u8 (k.toNat : Nat), .slice A' d.length c'], .int .i64 m, .int .i64 0]) ∧ Below w.heap.size w w' ∧ w'.ownsRow w.heap.size 5 1 (.slice A' d.length c') d.length (bs d) :=
  (take_any A c b n hn hbc hb w hI).mono fun e w' ⟨k', d', v, m', h1, h2, h3, h4, _⟩ => by
    obtain ⟨h5, h6⟩ := h4 he
    rw [hr] at h5
    cases h5
    subst h6 hm
    obtain ⟨A', c', rfl⟩ := own_form h3
    exact ⟨A', c', by rw [h1, he]; rfl, h2, h3⟩
theorem take_bad (A : Option Addr) (c : Nat) (b : List UInt8) (n : Nat) (hn : n = b.length) (hbc : b.length ≤ c) (hb : b.length ≤ 1000000000000) (w : World) (hI : Bytes w w.heap.size A b) (x : Nat) (he : takeErr b = x) (hx : x ≠ 0) :
    Calls Try.prog 18 #[.slice A n c] w fun e w' => e = .returned (.tuple #[.agg #[.int .u8 0, .slice none 0 0], .int .i64 0, .int .i64 x]) ∧ Below w.heap.size w w' :=
  (take_any A c b n hn hbc hb w hI).mono fun e w' ⟨k', d', v, m', h1, h2, _, _, h4⟩ => by
    subst he
    obtain ⟨rfl, rfl, rfl, rfl⟩ := h4 hx
    exact ⟨h1, h2⟩
theorem put_ok (k : UInt8) (A : Option Addr) (c : Nat) (d : List UInt8) (n : Nat) (hn : n = d.length) (w : World) (hI : Bytes w w.heap.size A d) (he : putErr (k, d) = 0) :
    Calls Try.prog 15 #[.agg #[.int .u8 (k.toNat : Nat), .slice A n c]] w fun e w' => ∃ A' c', e = .returned (.tuple #[.slice A' (Rec.bytes (k, d)).length c', .int .i64 0]) ∧ Below w.heap.size w w' ∧ w'.ownsRow w.heap.size 5 1 (.slice A' (Rec.bytes (k, d)).length c') (Rec.bytes (k, d)).length (bs (Rec.bytes (k, d))) :=
  (put_any k A c d n hn w hI).mono fun e w' ⟨v, h1, h2, _, h4⟩ => by
    have h5 := h4 he
    obtain ⟨A', c', rfl⟩ := own_form h5
    exact ⟨A', c', by rw [h1, he]; rfl, h2, h5⟩

theorem all_any' (A : Option Addr) (cap : Nat) (b : List UInt8) (n : Nat) (hn : n = b.length) (hbc : b.length ≤ cap) (hreach : b.length ≤ 1000000000000) (w : World) (hI : Bytes w w.heap.size A b) :
    Calls Try.prog 11 #[.slice A n cap] w (AllOut w b) := by subst hn; exact all_any A cap b hbc hreach w hI
/-- The example's record as it is written. -/
def eb : List UInt8 := [83, 47, 137, 169, 1, 2, 0, 0, 0, 97, 98]
theorem eb_eq : Rec.bytes (1, [97, 98]) = eb := by decide +kernel
theorem put_eg (A : Option Addr) (c : Nat) (w : World) (hI : Bytes w w.heap.size A [97, 98]) :
    Calls Try.prog 15 #[.agg #[.int .u8 1, .slice A 2 c]] w fun e w' => ∃ A' c', e = .returned (.tuple #[.slice A' 11 c', .int .i64 0]) ∧ 11 ≤ c' ∧ c' ≤ maxLen ∧ Below w.heap.size w w' ∧ Bytes w' w'.heap.size A' eb :=
  (put_ok 1 A c [97, 98] 2 rfl w hI (by decide)).mono fun e w' ⟨A', c', h1, h2, h3⟩ => by
    rw [eb_eq] at h1 h3
    obtain ⟨_, _, h4, h5, h6, h7⟩ := own_bytes h3
    cases h4
    refine ⟨A', c', h1, h5, ?_, h2, h7⟩
    rcases h3.2 with ⟨h, _⟩ | ⟨g, cap, cur, h, _, _, _, h8, _⟩
    · cases h
    · cases h; exact h8

structure Kept (w : World) (A : Option Addr) (W : World) : Prop where
  b : Below w.heap.size w W
  d : Bytes W W.heap.size A eb
  r : Blk W (w.heap.size + 1) 39 #[.int .u8 1, .slice (some ⟨w.heap.size, 0, none⟩) 2 2]
  ab : Bytes W W.heap.size (some ⟨w.heap.size, 0, none⟩) [97, 98]
theorem Kept.next {w W W' : World} {A : Option Addr} (h : Kept w A W) (hb : Below W.heap.size W W') : Kept w A W' :=
  ⟨h.b.trans (hb.mono h.b.size), h.d.grow hb, h.r.below hb h.r.lt, h.ab.grow hb⟩
theorem Kept.alloc {w W : World} {A : Option Addr} (h : Kept w A W) (o : Obj) : Kept w A (W.alloc o) := h.next ((Below.refl _ W).alloc (Nat.le_refl _) _)
structure Kept2 (w : World) (A : Option Addr) (g : Nat) (A5 : Option Addr) (c5 : Nat) (W : World) : Prop where
  k : Kept w A W
  x : Blk W g 39 #[.int .u8 1, .slice A5 2 c5]
  xd : Bytes W W.heap.size A5 [97, 98]
theorem Kept2.next {w W W' : World} {A A5 : Option Addr} {g c5 : Nat} (h : Kept2 w A g A5 c5 W) (hb : Below W.heap.size W W') : Kept2 w A g A5 c5 W' :=
  ⟨h.k.next hb, h.x.below hb h.x.lt, h.xd.grow hb⟩
theorem Kept2.alloc {w W : World} {A A5 : Option Addr} {g c5 : Nat} (h : Kept2 w A g A5 c5 W) (o : Obj) : Kept2 w A g A5 c5 (W.alloc o) := h.next ((Below.refl _ W).alloc (Nat.le_refl _) _)
theorem take_eb_cut8 : takeErr (eb.take 8) = 32 := by decide
theorem take_eb_cut10 : takeErr (eb.take 10) = 32 := by decide
theorem take_eb_7 : takeErr (eb ++ [7]) = 0 ∧ takeRec (eb ++ [7]) = (1, [97, 98]) ∧ takeEnd (eb ++ [7]) = 11 := by decide +kernel
theorem take_eb_up : takeErr (eb.set 10 99) = 33 := by decide +kernel
theorem all_eb : Rec.all (eb ++ eb ++ [1, 2, 3]) = ([(1, [97, 98]), (1, [97, 98])], 22, 32) := by decide +kernel

set_option maxRecDepth 100000 in
set_option maxHeartbeats 4000000 in
theorem awake_any (w : World) : Calls Try.prog 10 #[] w fun e w' => e = .returned (.bool true) ∧ Below w.heap.size w w' := by
  have kc := fun (w : World) (C : Array Value) (n c : Nat) => Lib.run_convert_bytes_const (P := Try.prog) w 24 5 C n c Try.underlying24 Try.underlying5
  obtain ⟨i0, hi0, hz0, hz1, hz2⟩ := info_parts infoU8
  go_enter Try.func10, Try.ntmps10
  go_wp2_with fail
  have ab0 := Bytes.new_ w 5 #[.int .u8 97, .int .u8 98] (2, 3) [97, 98] rfl rfl (Nat.lt_succ_self w.heap.size)
  have hb0 := (Below.refl w.heap.size w).alloc (Nat.le_refl _) (.cells #[.int .u8 97, .int .u8 98] 5 (2, 3))
  have r0 := Blk.new_ (w.alloc (.cells #[.int .u8 97, .int .u8 98] 5 (2, 3))) 39 #[.int .u8 1, .slice (some ⟨w.heap.size, 0, none⟩) 2 2] (n := w.heap.size + 1) (by simp)
  have hb1 := hb0.alloc (by simp) (.cells #[.int .u8 1, .slice (some ⟨w.heap.size, 0, none⟩) 2 2] 39)
  have ab1 := ((ab0.alloc (by simp) (.cells #[.int .u8 1, .slice (some ⟨w.heap.size, 0, none⟩) 2 2] 39)).more (B' := w.heap.size + 1 + 1) (by omega))
  refine Calls.mono (put_eg _ _ _ (by simp only [World.size_alloc]; exact ab1)) ?_
  rintro e w1 ⟨A1, c1, rfl, hc1, hm1, hb2, hd⟩
  unfold maxLen at hm1
  have K1 : Kept w A1 w1 := ⟨hb1.trans (hb2.mono (by simp; omega)), hd, r0.below hb2 (by simp), Bytes.grow (by simp only [World.size_alloc]; exact ab1) hb2⟩
  clear ab0 hb0 r0 hb1 ab1 hb2 hd kc
  obtain ⟨b1, o1, rfl, hbl1, _⟩ := K1.d.at_ (j := 0) (by decide)
  have i1 : (9 : Int) ≤ (c1 : Int) := by omega
  have i2 : (8 : Int) ≤ (c1 : Int) := by omega
  have i3 : (10 : Int) ≤ (c1 : Int) := by omega
  have i4 : ¬ c1 = 4 := by omega
  go_wp2_with fail
  have P := (K1.d.part 4 9).grow ((Below.refl _ w1).alloc (Nat.le_refl _) (.cells #[.int .u8 1, .int .u8 2, .int .u8 0, .int .u8 0, .int .u8 0] 5))
  have Q := Bytes.new_ w1 5 #[.int .u8 1, .int .u8 2, .int .u8 0, .int .u8 0, .int .u8 0] (0, 0) [1, 2, 0, 0, 0] rfl rfl (Nat.lt_succ_self w1.heap.size)
  have K2 := K1.alloc (.cells #[.int .u8 1, .int .u8 2, .int .u8 0, .int .u8 0, .int .u8 0] 5)
  refine Calls.mono (same_any _ _ _ _ ((eb.take 9).drop 4) [1, 2, 0, 0, 0] _ _ rfl rfl _ P (by simp only [World.size_alloc]; exact Q)) ?_
  rintro e w2 ⟨rfl, rfl⟩
  clear P Q K1
  have e1 : ((eb.take 9).drop 4 == [1, 2, 0, 0, 0]) = true := by decide
  rw [e1]
  generalize w1.alloc (.cells #[.int .u8 1, .int .u8 2, .int .u8 0, .int .u8 0, .int .u8 0] 5) = w2 at *
  go_wp2_with fail
  refine Calls.mono (anew_any _ _ eb _ rfl (by decide) _ K2.d) ?_
  rintro e w3 ⟨v3, rfl, hown, hb3⟩
  have K3 := K2.next hb3
  have hb4 := hb3.alloc hb3.size (.cells #[.int .u8 7] 5)
  go_wp2_with (at_builtin; refine wpList_append_row _ rfl (.tmp 44) (.tmp 45) _ rfl w2.heap.size 5 i0 _ 1 Try.underlying24 hi0 hz0 hz1 hz2 rfl _ 11 _ rfl (hown.alloc _) (w3.heap.size + 1) (some ⟨w3.heap.size, 0, none⟩) 1 1 (bs [7]) rfl rfl (Bytes.new_ w3 5 #[.int .u8 7] (0, 0) [7] rfl rfl (Nat.lt_succ_self _)) (bs_one _) (by unfold maxLen; omega) (by omega) (by simp; exact Nat.le_succ_of_le hb3.size) ?_)
  intro v4 w4 ho4 hgrow _ _
  have hb5 := hb4.grown hgrow (by simp; exact Nat.le_succ_of_le hb3.size) (fun j hj => (own_row hown hj).1)
  have K4 := K2.next hb5
  rw [← bs_append] at ho4
  obtain ⟨A4, c4, rfl, hc4, e4, hd4⟩ := own_bytes ho4
  clear e4 hgrow ho4 hown hb3 hb4 hb5 K3 K2
  go_wp2_with fail
  refine Calls.mono (take_ok A4 c4 (eb ++ [7]) _ rfl (by show 12 ≤ c4; exact hc4) (by decide) _ hd4 take_eb_7.1 1 [97, 98] 11 take_eb_7.2.1 take_eb_7.2.2) ?_
  rintro e w5 ⟨A5, c5, rfl, hb5, ho5⟩
  have K5 := K4.next hb5
  obtain ⟨_, _, h5, hc5, e5, hd5⟩ := own_bytes ho5
  cases h5
  clear e5 ho5 hb5 K4 hd4 hc4
  go_wp2_with fail
  have K6 : Kept2 w (some ⟨b1, o1, none⟩) w5.heap.size A5 c5 (w5.alloc (.cells #[.int .u8 1, .slice A5 2 c5] 39)) := ⟨K5.alloc _, Blk.new_ _ _ _ rfl, hd5.grow ((Below.refl _ w5).alloc (Nat.le_refl _) _)⟩
  generalize hg : w5.heap.size = gx at K6 ⊢
  have HG := Lib.hid hg
  clear hg
  generalize w5.alloc (.cells #[.int .u8 1, .slice A5 2 c5] 39) = w6 at K6 ⊢
  clear K5 hd5
  refine Calls.mono (take_bad _ _ (eb.take 8) _ rfl (by show 8 ≤ c1; omega) (by decide) _ (K6.k.d.head 8) 32 take_eb_cut8 (by omega)) ?_
  rintro e w7 ⟨rfl, hb7⟩
  have K7 := (K6.next hb7).alloc (.cells #[.int .u8 0, .slice none 0 0] 39)
  clear K6 hb7
  go_wp2_with fail
  generalize w7.alloc (.cells #[.int .u8 0, .slice none 0 0] 39) = w8 at K7 ⊢
  refine Calls.mono (take_bad _ _ (eb.take 10) _ rfl (by show 10 ≤ c1; omega) (by decide) _ (K7.k.d.head 10) 32 take_eb_cut10 (by omega)) ?_
  rintro e w9 ⟨rfl, hb9⟩
  have K9 := (K7.next hb9).alloc (.cells #[.int .u8 0, .slice none 0 0] 39)
  clear K7 hb9
  go_wp2_with fail
  generalize w9.alloc (.cells #[.int .u8 0, .slice none 0 0] 39) = w10 at K9 ⊢
  refine Calls.mono (anew_any _ _ eb _ rfl (by decide) _ K9.k.d) ?_
  rintro e w11 ⟨v11, rfl, ho11, hb11⟩
  have K11 := K9.next hb11
  obtain ⟨gc, cc, rfl, hgc, hcc, hmc, hO⟩ := Own1.of_own ho11 (by decide)
  have oc := hO.cell (j := 10) (by decide)
  have of := hO.frozen 10
  have hO2 := hO.set_ 10 (.int .u8 99)
  have hb12 := hb11.setCell (p := ⟨gc, 10, none⟩) hgc (.int .u8 99)
  have K12 := K9.next hb12
  clear K11 K9 hb11 hb12 ho11
  have oc' : w11.cell? ⟨gc, 10, none⟩ = some (.int .u8 98) := oc
  clear oc hO
  unfold maxLen at hmc
  go_wp2_with fail
  have hd12 : Bytes (w11.setCell ⟨gc, 10, none⟩ (.int .u8 99)) (w11.setCell ⟨gc, 10, none⟩ (.int .u8 99)).heap.size (some ⟨gc, 0, none⟩) (eb.set 10 99) := by
    unfold Bytes
    rw [← bs_set]
    exact hO2.row hO2.lt
  generalize w11.setCell ⟨gc, 10, none⟩ (.int .u8 99) = w12 at K12 hd12 ⊢
  clear hO2 oc' of
  refine Calls.mono (take_bad _ _ (eb.set 10 99) _ rfl (by show 11 ≤ cc; exact hcc) (by decide) _ hd12 33 take_eb_up (by omega)) ?_
  rintro e w13 ⟨rfl, hb13⟩
  have K13 := (K12.next hb13).alloc (.cells #[.int .u8 0, .slice none 0 0] 39)
  clear K12 hb13 hd12
  go_wp2_with fail
  generalize w13.alloc (.cells #[.int .u8 0, .slice none 0 0] 39) = w14 at K13 ⊢
  refine Calls.mono (anew_any _ _ eb _ rfl (by decide) _ K13.k.d) ?_
  rintro e w15 ⟨v15, rfl, ho15, hb15⟩
  have K15 := K13.next hb15
  go_wp2_with (at_builtin; refine wpList_append_row _ rfl (.tmp 80) (.tmp 81) _ rfl w14.heap.size 5 i0 _ 1 Try.underlying24 hi0 hz0 hz1 hz2 rfl _ 11 _ rfl ho15 w15.heap.size (some ⟨b1, o1, none⟩) 11 c1 (bs eb) rfl rfl K15.k.d (bs_one _) (by unfold maxLen; omega) (by omega) hb15.size ?_)
  intro v16 w16 ho16 hgrow _ _
  have hb16 := hb15.grown hgrow hb15.size (fun j hj => (own_row ho15 hj).1)
  clear hgrow ho15 hb15 K15
  have hb17 := hb16.alloc hb16.size (.cells #[.int .u8 1, .int .u8 2, .int .u8 3] 5)
  go_wp2_with (at_builtin; refine wpList_append_row _ rfl (.tmp 82) (.tmp 83) _ rfl w14.heap.size 5 i0 _ 1 Try.underlying24 hi0 hz0 hz1 hz2 rfl _ (11 + 11) _ rfl (ho16.alloc _) (w16.heap.size + 1) (some ⟨w16.heap.size, 0, none⟩) 3 3 (bs [1, 2, 3]) rfl rfl (Bytes.new_ w16 5 #[.int .u8 1, .int .u8 2, .int .u8 3] (0, 0) [1, 2, 3] rfl rfl (Nat.lt_succ_self _)) (bs_one _) (by unfold maxLen; omega) (by omega) (by simp; exact Nat.le_succ_of_le hb16.size) ?_)
  intro v18 w18 ho18 hgrow _ _
  have hb18 := hb17.grown hgrow (by simp; exact Nat.le_succ_of_le hb16.size) (fun j hj => (own_row ho16 hj).1)
  have K18 := K13.next hb18
  have ho18' : w18.ownsRow w14.heap.size 5 1 v18 25 (bs (eb ++ eb ++ [1, 2, 3])) := by rw [bs_append, bs_append]; simpa using ho18
  obtain ⟨A18, c18, rfl, hc18, e18, hd18⟩ := own_bytes ho18'
  clear e18 hgrow ho18 ho18' ho16 hb16 hb17 hb18 K13
  go_wp2_with fail
  have q1 : 25 = (eb ++ eb ++ [1, 2, 3]).length := by decide +kernel
  have q2 : (eb ++ eb ++ [1, 2, 3]).length ≤ 1000000000000 := by decide +kernel
  have q3 : (eb ++ eb ++ [1, 2, 3]).length ≤ c18 := by rw [← q1]; exact hc18
  have hall := all_any' A18 c18 (eb ++ eb ++ [1, 2, 3]) 25 q1 q3 q2 w18 hd18
  clear q1 q2 q3
  refine Calls.mono hall ?_
  rintro e w19 ⟨v19, xs, he19, hb19, ho19, hr19⟩
  rw [all_eb] at he19 ho19 hr19
  subst he19
  obtain ⟨A19, c19, rfl⟩ := own_form ho19
  have K19 := K18.next hb19
  clear hb19 ho19 hr19 K18 hd18
  have r0 : w19.cell? ⟨w.heap.size + 1, 0, none⟩ = some (.int .u8 1) := Blk.at_ K19.k.r 0 rfl
  have r1 : w19.cell? ⟨w.heap.size + 1, 1, none⟩ = some (.slice (some ⟨w.heap.size, 0, none⟩) 2 2) := Blk.at_ K19.k.r 1 rfl
  have x0 : w19.cell? ⟨gx, 0, none⟩ = some (.int .u8 1) := Blk.at_ K19.x 0 rfl
  have x1 : w19.cell? ⟨gx, 1, none⟩ = some (.slice A5 2 c5) := Blk.at_ K19.x 1 rfl
  go_wp2_with fail
  refine Calls.mono (samerec_any A5 (some ⟨w.heap.size, 0, none⟩) c5 2 (1, [97, 98]) (1, [97, 98]) _ K19.xd K19.k.ab) ?_
  rintro e w20 ⟨rfl, hb20⟩
  have hs : sameB (1, [97, 98]) (1, [97, 98]) = true := by decide
  rw [hs]
  go_wp2_with fail
  go_ret
  exact ⟨rfl, K19.k.b.trans (hb20.mono K19.k.b.size)⟩
end Go.Proofs.Ytboikajfcmgffaa.RecW
