/-
  The walks of the reference's Take and All.
-/
import Derived.Test.YtnclbonoenjbeaaRecWalks7
namespace Go.Proofs.Ytnclbonoenjbeaa.RecW
set_option linter.unusedVariables false
open Go.RowKit Go.Proofs Go.Proofs.Ytnclbonoenjbeaa Go.Proofs.Ytnclbonoenjbeaa.Wd Go.Proofs.Ytnclbonoenjbeaa.CrcW
open Go.Proofs.Ytnclbonoenjbeaa.Crc (sumB sumB_lt)
open Go.Proofs.Ytnclbonoenjbeaa.Rec (R four number fine takeErr takeEnd takeRec putErr number_lt)

theorem number_take (b : List UInt8) : number (b.take 4) = number b := by
  unfold number
  rcases b with _ | ⟨a, _ | ⟨b, _ | ⟨c, _ | ⟨d, r⟩⟩⟩⟩ <;> simp

theorem refsum_any' (A : Option Addr) (cap : Nat) (zs : List UInt8) (k : Nat) (hk : k = zs.length) (hreach : zs.length ≤ 140737488351232) (w : World) (hI : Bytes w w.heap.size A zs) :
    Calls Try.prog 47 #[.slice A k cap] w fun e W' => e = .returned (.int .u32 (sumB zs : Nat)) ∧ w = W' := by
  subst hk; exact refsum_any A cap zs hreach w hI
set_option maxRecDepth 100000 in
set_option maxHeartbeats 2000000 in
theorem reftake_any (A : Option Addr) (c : Nat) (b : List UInt8) (n : Nat) (hn : n = b.length) (hbc : b.length ≤ c) (hb : b.length ≤ 1000000000000) (w : World) (hI : Bytes w w.heap.size A b) :
    Calls Try.prog 48 #[.slice A n c] w (Took w b) := by
  subst hn
  by_cases h9 : b.length < 9
  · have h9' : (b.length : Int) < 9 := by omega
    have he := Lib.hid (show takeErr b = 32 by unfold takeErr; rw [if_pos h9])
    go_enter Try.func48, Try.ntmps48
    go_wp2
    refine bodyPost_ret (v := .tuple #[.agg #[.int .u8 0, .slice none 0 0], .int .i64 0, .int .i64 32]) (by simp [results, Try.results48, go_sem]) rfl ?_
    exact Took.err (by rw [he.out]; decide) (by rw [he.out]; rfl) ((Below.refl _ w).alloc (Nat.le_refl _) _)
  have h9' : ¬ (b.length : Int) < 9 := by omega
  obtain ⟨bb, off, rfl, hbb, _⟩ := hI.at_ (j := 0) (by omega)
  have h5 : Bytes w w.heap.size (some ⟨bb, off + 5, none⟩) ((b.drop 5).take 4) := by
    unfold Bytes; rw [show bs ((b.drop 5).take 4) = ((bs b).drop 5).take 4 by simp [bs, List.map_drop, List.map_take]]
    exact (Row.drop hI (fun _ _ _ h => by cases h; rfl)).take _
  have h04 : Bytes w w.heap.size (some ⟨bb, off, none⟩) (b.take 4) := by
    unfold Bytes; rw [show bs (b.take 4) = (bs b).take 4 by simp [bs, List.map_take]]
    exact hI.take _
  have hcc : 9 ≤ c := by omega
  have g1 : (9 : Int) ≤ (c : Int) := by omega
  have g2 : (b.length : Int) ≤ (c : Int) := by omega
  have g4 : ¬ c = 5 := by omega
  obtain ⟨nB, hnB⟩ : ∃ nB, nB = number (b.drop 5) := ⟨_, rfl⟩
  have hnl : nB < 4294967296 := by rw [hnB]; exact Rec.number_lt _
  have HN := Lib.hid hnB
  have HN4 := Lib.hid (show number ((b.drop 5).take 4) = nB by rw [number_take, hnB])
  clear hnB
  have hz := Blk.new_ w 42 #[.int .u8 0, .slice none 0 0] rfl
  have hB0 : Below w.heap.size w (w.alloc (.cells #[.int .u8 0, .slice none 0 0] 42)) := (Below.refl _ w).alloc (Nat.le_refl _) _
  have infoR : (Try.prog.info? 42).map (·.size) = some 2 := by kernel_rfl
  have err : ∀ (W : World) (fr : Act) (x : Nat), Blk W w.heap.size 42 #[.int .u8 0, .slice none 0 0] → Below w.heap.size w W → takeErr b = x → x ≠ 0 → fr.tmps.getD 2 undef = .pointer (some ⟨w.heap.size, 0, none⟩) → fr.tmps.getD 3 undef = .int .i64 0 → fr.tmps.getD 4 undef = .int .i64 x → fr.defers = [] →
      bodyPost Try.prog Try.f48 (Took w b) Exit.ret fr (W.setRow w.heap.size #[.int .u8 0, .slice none 0 0]) := by
    intro W fr x h1 h2 h3 h4 h5 h6 h7 h8
    refine bodyPost_ret (results_cell_row3 rfl _ _ w.heap.size 42 #[.int .u8 0, .slice none 0 0] (0, 0) _ h5 (h1.row _) Try.underlying42 rfl (by rw [infoR]; rfl)) h8 ?_
    refine Took.err (by rw [h3]; exact h4) ?_ (below_setRow h2 (Nat.le_refl _) _)
    rw [h6, h7, h3]
  have ERR := Lib.hid err
  clear err
  by_cases h4096 : 4096 < nB
  · have he := Lib.hid (show takeErr b = 31 by unfold takeErr; rw [if_neg h9, if_pos (by rw [← HN.out]; exact h4096)])
    have h4' : (4096 : Int) < (nB : Int) := by omega
    go_enter Try.func48, Try.ntmps48
    go_wp2_with fail
    generalize w.alloc (.cells #[.int .u8 0, .slice none 0 0] 42) = w0 at hz hB0
    refine Calls.mono (refnumber_any _ _ ((b.drop 5).take 4) _ (by simp; omega) (by simp; omega) _ (by exact (h5.below hB0).more hB0.size)) ?_
    rintro e w1 ⟨rfl, hb1⟩
    rw [HN4.out]
    have hz1 := hz.below hb1 hz.lt
    have hB1 := hB0.trans (hb1.mono hB0.size)
    go_wp2_with (refine wpList_put_row rfl rfl 42 _ _ rfl w.heap.size rfl 42 _ #[.int .u8 0, .slice none 0 0] rfl hz1 (by rw [infoR]; rfl) rfl (by simp [Value.oneCell']) ?_)
    exact ERR.out w1 _ 31 hz1 hB1 he.out (by decide) rfl rfl rfl rfl
  have h4' : ¬ (4096 : Int) < (nB : Int) := by omega
  by_cases hend : b.length < 9 + nB
  · have he := Lib.hid (show takeErr b = 32 by unfold takeErr; rw [if_neg h9, if_neg (by rw [← HN.out]; exact h4096), if_pos (by rw [← HN.out]; exact hend)])
    have h9'' : (b.length : Int) < 9 + (nB : Int) := by omega
    go_enter Try.func48, Try.ntmps48
    go_wp2_with fail
    generalize w.alloc (.cells #[.int .u8 0, .slice none 0 0] 42) = w0 at hz hB0
    refine Calls.mono (refnumber_any _ _ ((b.drop 5).take 4) _ (by simp; omega) (by simp; omega) _ (by exact (h5.below hB0).more hB0.size)) ?_
    rintro e w1 ⟨rfl, hb1⟩
    rw [HN4.out]
    have hz1 := hz.below hb1 hz.lt
    have hB1 := hB0.trans (hb1.mono hB0.size)
    go_wp2_with (refine wpList_put_row rfl rfl 42 _ _ rfl w.heap.size rfl 42 _ #[.int .u8 0, .slice none 0 0] rfl hz1 (by rw [infoR]; rfl) rfl (by simp [Value.oneCell']) ?_)
    exact ERR.out w1 _ 32 hz1 hB1 he.out (by decide) rfl rfl rfl rfl
  go_enter Try.func48, Try.ntmps48
  go_wp2_with fail
  generalize w.alloc (.cells #[.int .u8 0, .slice none 0 0] 42) = w0 at hz hB0
  refine Calls.mono (refnumber_any _ _ ((b.drop 5).take 4) _ (by simp; omega) (by simp; omega) _ (by exact (h5.below hB0).more hB0.size)) ?_
  rintro e w1 ⟨rfl, hb1⟩
  rw [HN4.out]
  have hz1 := hz.below hb1 hz.lt
  have hB1 := hB0.trans (hb1.mono hB0.size)
  have hwin : Bytes w w.heap.size (some ⟨bb, off + 4, none⟩) ((b.take (9 + nB)).drop 4) := by
    unfold Bytes; rw [show bs ((b.take (9 + nB)).drop 4) = ((bs b).take (9 + nB)).drop 4 by simp [bs, List.map_drop, List.map_take]]
    exact Row.drop (hI.take _) (fun _ _ _ h => by cases h; rfl)
  have hdat : Bytes w w.heap.size (if c = 9 then some ⟨bb, off, none⟩ else some ⟨bb, off + 9, none⟩) ((b.take (9 + nB)).drop 9) := by
    split
    · have hn0 : nB = 0 := by omega
      subst hn0
      simp only [Nat.add_zero, List.drop_take]
      exact Row.nil
    · unfold Bytes; rw [show bs ((b.take (9 + nB)).drop 9) = ((bs b).take (9 + nB)).drop 9 by simp [bs, List.map_drop, List.map_take]]
      exact Row.drop (hI.take _) (fun _ _ _ h => by cases h; rfl)
  obtain ⟨_, _, e4, _, hk4⟩ := hI.at_ (j := 4) (by omega)
  cases e4
  obtain ⟨k, hk⟩ : ∃ k, k = b[4]'(by omega) := ⟨_, rfl⟩
  rw [← hk] at hk4
  have hkd : b.getD 4 0 = k := by rw [hk]; simp [show 4 < b.length by omega]
  have HK4 := Lib.hid hkd
  clear hk hkd
  have m1 : (4 : Int) ≤ 9 + (nB : Int) := by omega
  have m2 : (9 : Int) + (nB : Int) ≤ (c : Int) := by omega
  have m3 : (9 : Int) ≤ 9 + (nB : Int) := by omega
  have m4 : (4 : Int) < (b.length : Int) := by omega
  have m5 : ¬ c = 4 := by omega
  have hle : 9 + nB ≤ b.length := by omega
  go_wp2_with fail
  have hS := hB1.drew
  have HL1 := Lib.hid (show 9 + nB - 4 = ((b.take (9 + nB)).drop 4).length by simp; omega)
  have HL2 := Lib.hid (show ((b.take (9 + nB)).drop 4).length ≤ 140737488351232 by simp; omega)
  have HL3 := Lib.hid (show 4 = (b.take 4).length by simp; omega)
  have HL4 := Lib.hid (show 4 ≤ (b.take 4).length by simp; omega)
  obtain ⟨nS, hnS⟩ : ∃ nS, nS = sumB ((b.take (9 + nB)).drop 4) := ⟨_, rfl⟩
  have hnSl : nS < 4294967296 := by rw [hnS]; exact sumB_lt _
  have HNS := Lib.hid hnS
  clear hnS
  obtain ⟨nN, hnN⟩ : ∃ nN, nN = number b := ⟨_, rfl⟩
  have HNN := Lib.hid hnN
  clear hnN
  have HL5 := Lib.hid (show 9 + nB - 9 = ((b.take (9 + nB)).drop 9).length by simp; omega)
  have m6 : (4 : Int) ≤ (c : Int) := by omega
  have m7 : (0 : Int) ≤ 9 + (nB : Int) := by omega
  have m8 : max (9 + (nB : Int)) 0 = 9 + (nB : Int) := by omega
  have m9 : ((9 : Int) + (nB : Int)).toNat = 9 + nB := by omega
  have m11 : IntKind.i64.wrap (nS : Int) = (nS : Int) := IntWalk.i64_in _ (by omega)
  have m10 : IntKind.i64.wrap (9 + (nB : Int)) = 9 + (nB : Int) := IntWalk.i64_in _ (by omega)
  refine wp_region_heldG [] (fun _ W => Below w.heap.size w W) (by kernel_rfl) ?_
  change wpAnyG _ _ _ _ _ _ 10 _ _ w1.drew
  refine g_take (i := 0) rfl rfl (by kernel_rfl) (by kernel_rfl) (by kernel_rfl) (by kernel_rfl) (by kernel_rfl) (fun _ _ _ h => h) hS (fun L W hL hW => by go_simp; rfl) ?_
  refine g_take (i := 1) rfl rfl (by kernel_rfl) (by kernel_rfl) (by kernel_rfl) (by kernel_rfl) (by kernel_rfl) (fun _ _ _ h => h) hS (fun L W hL hW => by go_simp; rfl) ?_
  refine g_take (i := 2) rfl rfl (by kernel_rfl) (by kernel_rfl) (by kernel_rfl) (by kernel_rfl) (by kernel_rfl) (fun _ _ _ h => h) hS (fun L W hL hW => by go_simp; rfl) ?_
  refine g_take (i := 3) rfl rfl (by kernel_rfl) (by kernel_rfl) (by kernel_rfl) (by kernel_rfl) (by kernel_rfl) (fun _ _ _ h => h) hS (fun L W hL hW => by go_simp; rfl) ?_
  refine g_take (i := 6) rfl rfl (by kernel_rfl) (by kernel_rfl) (by kernel_rfl) (by kernel_rfl) (by kernel_rfl) (fun _ _ _ h => h) hS (fun L W hL hW => by go_simp; rfl) ?_
  refine g_take (i := 7) rfl rfl (by kernel_rfl) (by kernel_rfl) (by kernel_rfl) (by kernel_rfl) (by kernel_rfl) (fun _ _ _ h => h) hS (fun L W hL hW => by go_simp; rfl) ?_
  refine g_one (i := 4) rfl rfl (by kernel_rfl) fun K hK => ?_
  go_simp
  refine Calls.mono (refsum_any' _ _ ((b.take (9 + nB)).drop 4) _ HL1.out HL2.out _ (by exact (hwin.below hS).more hS.size)) ?_
  rintro e w2 ⟨rfl, rfl⟩
  rw [← HNS.out]
  refine hK _ _ hS ?_
  clear hK K
  refine g_take (i := 5) rfl rfl (by kernel_rfl) (by kernel_rfl) (by kernel_rfl) (by kernel_rfl) (by kernel_rfl) (fun _ _ _ h => h) hS (fun L W hL hW => by go_simp; rfl) ?_
  refine g_one (i := 8) rfl rfl (by kernel_rfl) fun K hK => ?_
  go_simp
  refine Calls.mono (refnumber_any _ _ (b.take 4) _ HL3.out HL4.out _ (by exact (h04.below hS).more hS.size)) ?_
  rintro e w2 ⟨rfl, hb2⟩
  rw [number_take, ← HNN.out]
  have hSK := hS.trans (hb2.mono hS.size)
  have hzK := Blk.below (w := w1.drew) (B := w1.heap.size) hz1 hb2 hz1.lt
  refine hK _ _ hSK ?_
  clear hK K hS hb2 hz1 hB1
  refine g_take (i := 9) rfl rfl (by kernel_rfl) (by kernel_rfl) (by kernel_rfl) (by kernel_rfl) (by kernel_rfl) (fun _ _ _ h => h) hSK (fun L W hL hW => by go_simp; rfl) ?_
  refine wpAnyG_done (by kernel_rfl) ?_ _
  clear m6 m7 m8 m9 m10 m11
  by_cases hs : nS = nN
  case neg =>
    have he := Lib.hid (show takeErr b = 33 by unfold takeErr; rw [if_neg h9, if_neg (by rw [← HN.out]; exact h4096), if_neg (by rw [← HN.out]; exact hend), if_pos (by rw [← HN.out, ← HNS.out, ← HNN.out]; exact hs)])
    have hne : ((nS : Int) != (nN : Int)) = true := by rw [bne_iff_ne]; omega
    clear hs
    go_wp2_with (refine wpList_put_row rfl rfl 42 _ _ rfl w.heap.size rfl 42 _ #[.int .u8 0, .slice none 0 0] rfl hzK (by rw [infoR]; rfl) rfl (by simp [Value.oneCell']) ?_)
    exact ERR.out _ _ 33 hzK hSK he.out (by decide) rfl rfl rfl rfl
  have hne : ((nS : Int) != (nN : Int)) = false := by rw [hs]; simp
  have HS := Lib.hid (show ¬ sumB ((b.take (9 + number (b.drop 5))).drop 4) ≠ number b by rw [← HN.out, ← HNS.out, ← HNN.out]; exact fun h => h hs)
  clear hs
  have hk4' := (hSK.cell (p := ⟨bb, off + 4, none⟩) hbb).trans hk4
  have e30 : fine k = false → takeErr b = 30 := fun hf => by unfold takeErr; rw [if_neg h9, if_neg (by rw [← HN.out]; exact h4096), if_neg (by rw [← HN.out]; exact hend), if_neg HS.out, HK4.out, hf]; rfl
  have E30 := Lib.hid e30
  clear e30
  by_cases hk1 : k.toNat < 1
  · have he := Lib.hid (E30.out (by unfold fine; rw [decide_eq_false (by omega)]; rfl))
    have t1 : decide ((k.toNat : Int) < 1) = true := by simp; omega
    go_wp2_with (refine wpList_put_row rfl rfl 42 _ _ rfl w.heap.size rfl 42 _ #[.int .u8 0, .slice none 0 0] rfl hzK (by rw [infoR]; rfl) rfl (by simp [Value.oneCell']) ?_)
    exact ERR.out _ _ 30 hzK hSK he.out (by decide) rfl rfl rfl rfl
  have t1 : decide ((k.toNat : Int) < 1) = false := by simp; omega
  by_cases hk2 : 2 < k.toNat
  · have he := Lib.hid (E30.out (by unfold fine; rw [decide_eq_false (p := k.toNat ≤ 2) (by omega), Bool.and_false]))
    have t2 : decide ((2 : Int) < (k.toNat : Int)) = true := by simp; omega
    go_wp2_with (refine wpList_put_row rfl rfl 42 _ _ rfl w.heap.size rfl 42 _ #[.int .u8 0, .slice none 0 0] rfl hzK (by rw [infoR]; rfl) rfl (by simp [Value.oneCell']) ?_)
    exact ERR.out _ _ 30 hzK hSK he.out (by decide) rfl rfl rfl rfl
  have t2 : decide ((2 : Int) < (k.toNat : Int)) = false := by simp; omega
  have hf : fine k = true := by unfold fine; rw [decide_eq_true (by omega), decide_eq_true (by omega)]; rfl
  have he := Lib.hid (show takeErr b = 0 by unfold takeErr; rw [if_neg h9, if_neg (by rw [← HN.out]; exact h4096), if_neg (by rw [← HN.out]; exact hend), if_neg HS.out, HK4.out, hf]; rfl)
  clear hf
  obtain ⟨i0, hi0, hz0, hz1, hz2⟩ := info_parts infoU8
  have hD := (Row.below hdat hSK).more hSK.size
  have HD := Lib.hid hD
  clear hD hdat
  go_wp2_with (at_builtin; refine wpList_append_row _ rfl (.tmp 45) (.tmp 49) _ rfl w2.heap.size 5 i0 _ 1 Try.underlying24 hi0 hz0 hz1 hz2 rfl _ 0 [] rfl (own_nil _ _ _) w2.heap.size _ (9 + nB - 9) (c - 9) (bs ((b.take (9 + nB)).drop 9)) (by rfl) (by rw [bs_length]; exact HL5.out) HD.out (bs_one _) (by unfold maxLen; omega) (by omega) (by omega) ?_)
  all_goals
    intro v5 w5 hown hgrow _ _
    have hB5 := hSK.grown hgrow hSK.size (by simp [Value.ownBlock])
    have hz5 := hzK.grown hgrow (by simp [Value.ownBlock])
    have hk5 := (hB5.cell (p := ⟨bb, off + 4, none⟩) hbb).trans hk4
    have hvo := own_one hown
    clear hgrow hk4' hk4 hSK
    have c0 : w5.cell? ⟨w.heap.size, 0, none⟩ = some (.int .u8 0) := Blk.at_ hz5 0 rfl
    have c1 : w5.cell? ⟨w.heap.size, 1, none⟩ = some (.slice none 0 0) := Blk.at_ hz5 1 rfl
    have f0 := hz5.frozen 0
    have f1 := hz5.frozen 1
    obtain ⟨A5, cp5, rfl⟩ := own_form hown
    go_wp2_with fail
    refine bodyPost_ret (results_cell_row3 rfl _ _ w.heap.size 42 _ (0, 0) _ rfl ((hz5.set_ 0 (.int .u8 (k.toNat : Nat))).set_ 1 (.slice A5 nB cp5)).out Try.underlying42 rfl (by rw [infoR]; rfl)) rfl ?_
    refine ⟨k, (b.take (9 + nB)).drop 9, .slice A5 nB cp5, 9 + nB, by rw [he.out]; simp [go_sem], (hB5.setCell (Nat.le_refl _) _).setCell (Nat.le_refl _) _, ?_, fun _ => ⟨?_, ?_⟩, fun h => absurd he.out h⟩
    · have hl : ((b.take (9 + nB)).drop 9).length = nB := by have := HL5.out; omega
      rw [hl]
      refine own_base ?_ (Nat.le_of_lt hzK.lt)
      exact ownsRow_setCell_below (ownsRow_setCell_below hown hzK.lt _) hzK.lt _
    · unfold takeRec takeEnd
      rw [HK4.out, ← HN.out]
    · unfold takeEnd; rw [← HN.out]
end Go.Proofs.Ytnclbonoenjbeaa.RecW
