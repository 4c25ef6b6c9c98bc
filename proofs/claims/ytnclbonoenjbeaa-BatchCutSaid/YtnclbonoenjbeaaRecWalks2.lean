/-
  The walks of slices.Clone over bytes, rec.Take and rec.Put.
-/
import Derived.Test.YtnclbonoenjbeaaRecWalks1
namespace Go.Proofs.Ytnclbonoenjbeaa.RecW
open Go.RowKit Go.Proofs Go.Proofs.Ytnclbonoenjbeaa Go.Proofs.Ytnclbonoenjbeaa.Wd Go.Proofs.Ytnclbonoenjbeaa.CrcW
open Go.Proofs.Ytnclbonoenjbeaa.Crc (sumB sumB_lt)
open Go.Proofs.Ytnclbonoenjbeaa.Rec (four number fine takeErr takeEnd takeRec putErr)

/-- A slice of bytes in memory of the call's own. -/
def Fresh (w : World) (n : Nat) (l : List UInt8) (e : Ending) (w' : World) : Prop :=
  ∃ v, e = .returned v ∧ w'.ownsRow w.heap.size 5 1 v n (bs l) ∧ Below w.heap.size w w'

theorem clone_any (A : Option Addr) (c : Nat) (l : List UInt8) (n : Nat) (hn : n = l.length) (hc : l.length ≤ 1000000) (w : World) (hI : Bytes w w.heap.size A l) :
    Calls Try.prog 39 #[.slice A n c] w (Fresh w n l) := by
  subst hn
  obtain ⟨i0, hi0, hz0, hz1, hz2⟩ := info_parts infoU8
  cases A with
  | none =>
    have hl : l = [] := by
      rcases l with _ | ⟨x, r⟩
      · rfl
      · obtain ⟨b, off, h, _⟩ := hI.at_ (j := 0) (by simp)
        cases h
    subst hl
    have he := fun (W : World) => Lib.run_eql_slice_nil (P := Try.prog) W 24 5 none 0 c 0 0 Try.underlying24
    go_enter Try.func39, Try.ntmps39
    go_wp2
    go_ret
    exact ⟨_, rfl, own_nil _ _ _, Below.refl _ _⟩
  | some ad =>
    have he := fun (W : World) => Lib.run_eql_slice_nil (P := Try.prog) W 24 5 (some ad) l.length c 0 0 Try.underlying24
    go_enter Try.func39, Try.ntmps39
    go_wp2_with (at_builtin; refine wpList_append_row _ rfl (.tmp 5) (.tmp 6) _ rfl w.heap.size 5 i0 _ 1 Try.underlying24 hi0 hz0 hz1 hz2 rfl _ 0 [] rfl (by exact own_empty _ _ (Nat.le_refl _)) w.heap.size (some ad) l.length c (bs l) rfl (bs_length l).symm (by exact hI.alloc (Nat.le_refl _) _) (bs_one l) (by unfold maxLen; omega) (by omega) (by simp) ?_)
    intro v1 w1 hown hgrow _ _
    have hB1 : Below w.heap.size w w1 := ((Below.refl _ w).alloc (Nat.le_refl _) _).grown hgrow (by simp) (by simp [Value.ownBlock])
    go_wp2
    go_ret
    exact ⟨_, rfl, hown, hB1⟩

theorem sum_any' (A : Option Addr) (cap : Nat) (zs : List UInt8) (k : Nat) (hk : k = zs.length) (hreach : zs.length ≤ 140737488351232) (w : World) (hI : Bytes w w.heap.size A zs) :
    Calls Try.prog 31 #[.slice A k cap] w fun e W' => e = .returned (.int .u32 (sumB zs : Nat)) ∧ Below w.heap.size w W' := by
  subst hk; exact sum_any A cap zs hreach w hI
/-- What Take answers. -/
def Took (w : World) (b : List UInt8) (e : Ending) (w' : World) : Prop :=
  ∃ (k : UInt8) (d : List UInt8) (v : Value) (n : Nat), e = .returned (.tuple #[.agg #[.int .u8 (k.toNat : Nat), v], .int .i64 n, .int .i64 (takeErr b : Nat)]) ∧ Below w.heap.size w w' ∧ w'.ownsRow w.heap.size 5 1 v d.length (bs d) ∧
    (takeErr b = 0 → (k, d) = takeRec b ∧ n = takeEnd b) ∧ (takeErr b ≠ 0 → k = 0 ∧ v = .slice none 0 0 ∧ d = [] ∧ n = 0)
theorem Took.err {w w' : World} {b : List UInt8} {e : Ending} (he : takeErr b ≠ 0) (h : e = .returned (.tuple #[.agg #[.int .u8 0, .slice none 0 0], .int .i64 0, .int .i64 (takeErr b : Nat)])) (hB : Below w.heap.size w w') : Took w b e w' :=
  ⟨0, [], _, 0, h, hB, own_nil _ _ _, fun h => absurd h he, fun _ => ⟨rfl, rfl, rfl, rfl⟩⟩

set_option maxRecDepth 100000 in
set_option maxHeartbeats 2000000 in
theorem take_any (A : Option Addr) (c : Nat) (b : List UInt8) (n : Nat) (hn : n = b.length) (hbc : b.length ≤ c) (hb : b.length ≤ 1000000000000) (w : World) (hI : Bytes w w.heap.size A b) :
    Calls Try.prog 27 #[.slice A n c] w (Took w b) := by
  subst hn
  by_cases h9 : b.length < 9
  · have h9' : (b.length : Int) < 9 := by omega
    have he := Lib.hid (show takeErr b = 32 by unfold takeErr; rw [if_pos h9])
    go_enter Try.func27, Try.ntmps27
    go_wp2
    refine bodyPost_ret (v := .tuple #[.agg #[.int .u8 0, .slice none 0 0], .int .i64 0, .int .i64 32]) (by simp [results, Try.results27, go_sem]) rfl ?_
    exact Took.err (by rw [he.out]; decide) (by rw [he.out]; rfl) ((Below.refl _ w).alloc (Nat.le_refl _) _)
  have h9' : ¬ (b.length : Int) < 9 := by omega
  obtain ⟨bb, off, rfl, hbb, _⟩ := hI.at_ (j := 0) (by omega)
  have h5 : Bytes w w.heap.size (some ⟨bb, off + 5, none⟩) (b.drop 5) := by
    unfold Bytes; rw [show bs (b.drop 5) = (bs b).drop 5 by simp [bs, List.map_drop]]
    exact Row.drop hI (fun _ _ _ h => by cases h; rfl)
  have hcc : 9 ≤ c := by omega
  have g1 : (5 : Int) ≤ (b.length : Int) := by omega
  have g2 : (b.length : Int) ≤ (c : Int) := by omega
  have g3 : 5 ≤ b.length := by omega
  have g4 : ¬ c = 5 := by omega
  obtain ⟨nB, hnB⟩ : ∃ nB, nB = number (b.drop 5) := ⟨_, rfl⟩
  have hnl : nB < 4294967296 := by rw [hnB]; exact Rec.number_lt _
  have HN := Lib.hid hnB
  clear hnB
  have hz := Blk.new_ w 42 #[.int .u8 0, .slice none 0 0] rfl
  have hB0 : Below w.heap.size w (w.alloc (.cells #[.int .u8 0, .slice none 0 0] 42)) := (Below.refl _ w).alloc (Nat.le_refl _) _
  have infoR : (Try.prog.info? 42).map (·.size) = some 2 := by kernel_rfl
  have err : ∀ (W : World) (fr : Act) (x : Nat), Blk W w.heap.size 42 #[.int .u8 0, .slice none 0 0] → Below w.heap.size w W → takeErr b = x → x ≠ 0 → fr.tmps.getD 2 undef = .pointer (some ⟨w.heap.size, 0, none⟩) → fr.tmps.getD 3 undef = .int .i64 0 → fr.tmps.getD 4 undef = .int .i64 x → fr.defers = [] →
      bodyPost Try.prog Try.f27 (Took w b) Exit.ret fr (W.setRow w.heap.size #[.int .u8 0, .slice none 0 0]) := by
    intro W fr x h1 h2 h3 h4 h5 h6 h7 h8
    refine bodyPost_ret (results_cell_row3 rfl _ _ w.heap.size 42 #[.int .u8 0, .slice none 0 0] (0, 0) _ h5 (h1.row _) Try.underlying42 rfl (by rw [infoR]; rfl)) h8 ?_
    refine Took.err (by rw [h3]; exact h4) ?_ (below_setRow h2 (Nat.le_refl _) _)
    rw [h6, h7, h3]
  have ERR := Lib.hid err
  clear err
  by_cases h4096 : 4096 < nB
  · have he := Lib.hid (show takeErr b = 31 by unfold takeErr; rw [if_neg h9, if_pos (by rw [← HN.out]; exact h4096)])
    have h4' : (4096 : Int) < (nB : Int) := by omega
    go_enter Try.func27, Try.ntmps27
    go_wp2_with fail
    generalize w.alloc (.cells #[.int .u8 0, .slice none 0 0] 42) = w0 at hz hB0
    refine Calls.mono (number_any _ _ (b.drop 5) _ (by simp) (by simp; omega) _ (by exact (h5.below hB0).more hB0.size)) ?_
    rintro e w1 ⟨rfl, hb1⟩
    rw [← HN.out]
    have hz1 := hz.below hb1 hz.lt
    have hB1 := hB0.trans (hb1.mono hB0.size)
    go_wp2_with (refine wpList_put_row rfl rfl 42 _ _ rfl w.heap.size rfl 42 _ #[.int .u8 0, .slice none 0 0] rfl hz1 (by rw [infoR]; rfl) rfl (by simp [Value.oneCell']) ?_)
    exact ERR.out w1 _ 31 hz1 hB1 he.out (by decide) rfl rfl rfl rfl
  have h4' : ¬ (4096 : Int) < (nB : Int) := by omega
  by_cases hend : b.length < 9 + nB
  · have he := Lib.hid (show takeErr b = 32 by unfold takeErr; rw [if_neg h9, if_neg (by rw [← HN.out]; exact h4096), if_pos (by rw [← HN.out]; exact hend)])
    have h9'' : (b.length : Int) < 9 + (nB : Int) := by omega
    go_enter Try.func27, Try.ntmps27
    go_wp2_with fail
    generalize w.alloc (.cells #[.int .u8 0, .slice none 0 0] 42) = w0 at hz hB0
    refine Calls.mono (number_any _ _ (b.drop 5) _ (by simp) (by simp; omega) _ (by exact (h5.below hB0).more hB0.size)) ?_
    rintro e w1 ⟨rfl, hb1⟩
    rw [← HN.out]
    have hz1 := hz.below hb1 hz.lt
    have hB1 := hB0.trans (hb1.mono hB0.size)
    go_wp2_with (refine wpList_put_row rfl rfl 42 _ _ rfl w.heap.size rfl 42 _ #[.int .u8 0, .slice none 0 0] rfl hz1 (by rw [infoR]; rfl) rfl (by simp [Value.oneCell']) ?_)
    exact ERR.out w1 _ 32 hz1 hB1 he.out (by decide) rfl rfl rfl rfl
  go_enter Try.func27, Try.ntmps27
  go_wp2_with fail
  generalize w.alloc (.cells #[.int .u8 0, .slice none 0 0] 42) = w0 at hz hB0
  refine Calls.mono (number_any _ _ (b.drop 5) _ (by simp) (by simp; omega) _ (by exact (h5.below hB0).more hB0.size)) ?_
  rintro e w1 ⟨rfl, hb1⟩
  rw [← HN.out]
  have hz1 := hz.below hb1 hz.lt
  have hB1 := hB0.trans (hb1.mono hB0.size)
  have hwin : Bytes w w.heap.size (some ⟨bb, off + 4, none⟩) ((b.take (9 + nB)).drop 4) := by
    unfold Bytes; rw [show bs ((b.take (9 + nB)).drop 4) = ((bs b).take (9 + nB)).drop 4 by simp [bs, List.map_drop, List.map_take]]
    exact Row.drop (hI.take _) (fun _ _ _ h => by cases h; rfl)
  have hdat : Bytes w w.heap.size (some ⟨bb, off + 9, none⟩) ((b.take (9 + nB)).drop 9) := by
    unfold Bytes; rw [show bs ((b.take (9 + nB)).drop 9) = ((bs b).take (9 + nB)).drop 9 by simp [bs, List.map_drop, List.map_take]]
    exact Row.drop (hI.take _) (fun _ _ _ h => by cases h; rfl)
  obtain ⟨_, _, e4, _, hk4⟩ := hI.at_ (j := 4) (by omega)
  cases e4
  obtain ⟨k, hk⟩ : ∃ k, k = b[4]'(by omega) := ⟨_, rfl⟩
  rw [← hk] at hk4
  have hkd : b.getD 4 0 = k := by rw [hk]; simp [show 4 < b.length by omega]
  have HK4 := Lib.hid hkd
  clear hk hkd
  have m1 : (4 : Int) ≤ 9 + (nB : Int) := by omega
  have m2 : (9 : Int) + (nB : Int) ≤ (c : Int) := by omega
  have m3 : (9 : Int) ≤ 9 + (nB : Int) := by omega
  have m4 : (4 : Int) < (b.length : Int) := by omega
  have m5 : ¬ c = 4 := by omega
  have hle : 9 + nB ≤ b.length := by omega
  go_wp2_with fail
  refine Calls.mono (sum_any' _ _ ((b.take (9 + nB)).drop 4) _ (by simp; omega) (by simp; omega) _ (by exact (hwin.below hB1).more hB1.size)) ?_
  rintro e w2 ⟨rfl, hb2⟩
  have hz2 := hz1.below hb2 hz1.lt
  have hB2 := hB1.trans (hb2.mono hB1.size)
  clear hz1 hB1 hb1 hb2
  go_wp2_with fail
  refine Calls.mono (number_any _ _ b _ rfl (by omega) _ (by exact (hI.below hB2).more hB2.size)) ?_
  rintro e w3 ⟨rfl, hb3⟩
  have hzK := hz2.below hb3 hz2.lt
  have hBK := hB2.trans (hb3.mono hB2.size)
  clear hz2 hB2 hb3
  by_cases hs : sumB ((b.take (9 + nB)).drop 4) = number b
  case neg =>
    have he := Lib.hid (show takeErr b = 33 by unfold takeErr; rw [if_neg h9, if_neg (by rw [← HN.out]; exact h4096), if_neg (by rw [← HN.out]; exact hend), if_pos (by rw [← HN.out]; exact hs)])
    have hne : (((sumB ((b.take (9 + nB)).drop 4) : Nat) : Int) != ((number b : Nat) : Int)) = true := by rw [bne_iff_ne]; omega
    clear hs
    go_wp2_with (refine wpList_put_row rfl rfl 42 _ _ rfl w.heap.size rfl 42 _ #[.int .u8 0, .slice none 0 0] rfl hzK (by rw [infoR]; rfl) rfl (by simp [Value.oneCell']) ?_)
    exact ERR.out _ _ 33 hzK hBK he.out (by decide) rfl rfl rfl rfl
  have hne : (((sumB ((b.take (9 + nB)).drop 4) : Nat) : Int) != ((number b : Nat) : Int)) = false := by rw [hs]; simp
  have HS := Lib.hid hs
  clear hs
  have hk4' := (hBK.cell (p := ⟨bb, off + 4, none⟩) hbb).trans hk4
  go_wp2_with fail
  refine Calls.mono (kind_any k _) ?_
  rintro e w4 ⟨rfl, rfl⟩
  cases hf : fine k
  case false =>
    have he := Lib.hid (show takeErr b = 30 by unfold takeErr; rw [if_neg h9, if_neg (by rw [← HN.out]; exact h4096), if_neg (by rw [← HN.out]; exact hend), if_neg (by rw [← HN.out]; exact fun h => h HS.out), HK4.out, hf]; rfl)
    clear hf
    go_wp2_with (refine wpList_put_row rfl rfl 42 _ _ rfl w.heap.size rfl 42 _ #[.int .u8 0, .slice none 0 0] rfl hzK (by rw [infoR]; rfl) rfl (by simp [Value.oneCell']) ?_)
    exact ERR.out _ _ 30 hzK hBK he.out (by decide) rfl rfl rfl rfl
  have he := Lib.hid (show takeErr b = 0 by unfold takeErr; rw [if_neg h9, if_neg (by rw [← HN.out]; exact h4096), if_neg (by rw [← HN.out]; exact hend), if_neg (by rw [← HN.out]; exact fun h => h HS.out), HK4.out, hf]; rfl)
  clear hf
  by_cases hc9 : c = 9
  · have hn0 : nB = 0 := by omega
    have hd9 : (b.take (9 + nB)).drop 9 = [] := by subst hn0; simp
    subst hn0
    go_wp2_with fail
    refine wp_region_held (S := fun W => Below w.heap.size w W) (by kernel_rfl) ?_
    have hS := hBK.drew
    change wpAnyH _ _ _ _ _ 12 _ _ w3.drew
    refine held_take (i := 0) rfl rfl (by kernel_rfl) (by kernel_rfl) (by kernel_rfl) (fun _ _ _ h => h) hS (fun W hW => by go_simp; rfl) ?_
    refine held_take (i := 1) rfl rfl (by kernel_rfl) (by kernel_rfl) (by kernel_rfl) (fun _ _ _ h => h) hS (fun W hW => by go_simp; rfl) ?_
    refine held_take (i := 2) rfl rfl (by kernel_rfl) (by kernel_rfl) (by kernel_rfl) (fun _ _ _ h => h) hS (fun W hW => by have hk5 : W.cell? ⟨bb, off + 4, none⟩ = some (.int .u8 (k.toNat : Nat)) := (hW.cell (p := ⟨bb, off + 4, none⟩) hbb).trans hk4; go_simp; rfl) ?_
    refine held_take (i := 3) rfl rfl (by kernel_rfl) (by kernel_rfl) (by kernel_rfl) (fun _ _ _ h => h) hS (fun W hW => by go_simp; rfl) ?_
    refine held_take (i := 4) rfl rfl (by kernel_rfl) (by kernel_rfl) (by kernel_rfl) (fun _ _ _ h => h) hS (fun W hW => by go_simp; rfl) ?_
    refine held_take (i := 5) rfl rfl (by kernel_rfl) (by kernel_rfl) (by kernel_rfl) (fun _ _ _ h => h) hS (fun W hW => by go_simp; rfl) ?_
    refine held_take (i := 8) rfl rfl (by kernel_rfl) (by kernel_rfl) (by kernel_rfl) (fun _ _ _ h => h) hS (fun W hW => by go_simp; rfl) ?_
    refine held_one (i := 6) rfl rfl (by kernel_rfl) fun K hK => ?_
    go_simp
    refine Calls.mono (clone_any _ _ ((b.take (9 + 0)).drop 9) _ (by rw [hd9]; rfl) (by rw [hd9]; decide) _ (by rw [hd9]; exact Row.nil)) ?_
    rintro e w5 ⟨v, rfl, hown, hb5⟩
    have hS5 := hS.trans (hb5.mono hBK.size)
    obtain ⟨A5, c5, rfl, hR5⟩ := own_slice hown
    refine hK _ _ hS5 ?_
    clear hK K
    refine held_one (i := 7) rfl rfl (by kernel_rfl) fun K hK => ?_
    go_simp
    refine hK _ _ hS5 ?_
    clear hK K
    have hz5 := Blk.below (w := w3.drew) (B := w3.heap.size) hzK hb5 hzK.lt
    have c0 := hz5.cell 0
    have c1 := hz5.cell 1
    have f0 := hz5.frozen 0
    have f1 := hz5.frozen 1
    simp only [List.getElem?_toArray, List.getElem?_cons_zero, List.getElem?_cons_succ] at c0 c1
    refine held_one (i := 9) rfl rfl (by kernel_rfl) fun K hK => ?_
    go_simp
    refine hK _ _ ((hS5.setCell (Nat.le_refl _) _).setCell (Nat.le_refl _) _) ?_
    clear hK K
    refine held_one (i := 10) rfl rfl (by kernel_rfl) fun K hK => ?_
    go_simp
    refine hK _ _ ((hS5.setCell (Nat.le_refl _) _).setCell (Nat.le_refl _) _) ?_
    clear hK K
    refine held_one (i := 11) rfl rfl (by kernel_rfl) fun K hK => ?_
    go_simp
    refine hK _ _ ((hS5.setCell (Nat.le_refl _) _).setCell (Nat.le_refl _) _) ?_
    clear hK K
    refine wpAnyH_done (by kernel_rfl) ?_ _
    go_wp2_with fail
    refine bodyPost_ret (results_cell_row3 rfl _ _ w.heap.size 42 _ (0, 0) _ rfl ((hz5.set_ 0 _).set_ 1 _).out Try.underlying42 rfl (by rw [infoR]; rfl)) rfl ?_
    refine ⟨k, (b.take (9 + 0)).drop 9, .slice A5 (0) c5, 9 + 0, by rw [he.out]; simp [go_sem], (hS5.setCell (Nat.le_refl _) _).setCell (Nat.le_refl _) _, ?_, fun _ => ⟨?_, ?_⟩, fun h => absurd he.out h⟩
    · have hl : ((b.take (9 + 0)).drop 9).length = 0 := by rw [hd9]; rfl
      rw [hl]
      refine own_base (ownsRow_setCell_below (ownsRow_setCell_below hown hzK.lt _) hzK.lt _) (Nat.le_of_lt hzK.lt)
    · unfold takeRec takeEnd
      rw [HK4.out, ← HN.out]
    · unfold takeEnd; rw [← HN.out]
  · go_wp2_with fail
    refine wp_region_held (S := fun W => Below w.heap.size w W) (by kernel_rfl) ?_
    have hS := hBK.drew
    change wpAnyH _ _ _ _ _ 12 _ _ w3.drew
    refine held_take (i := 0) rfl rfl (by kernel_rfl) (by kernel_rfl) (by kernel_rfl) (fun _ _ _ h => h) hS (fun W hW => by go_simp; rfl) ?_
    refine held_take (i := 1) rfl rfl (by kernel_rfl) (by kernel_rfl) (by kernel_rfl) (fun _ _ _ h => h) hS (fun W hW => by go_simp; rfl) ?_
    refine held_take (i := 2) rfl rfl (by kernel_rfl) (by kernel_rfl) (by kernel_rfl) (fun _ _ _ h => h) hS (fun W hW => by have hk5 : W.cell? ⟨bb, off + 4, none⟩ = some (.int .u8 (k.toNat : Nat)) := (hW.cell (p := ⟨bb, off + 4, none⟩) hbb).trans hk4; go_simp; rfl) ?_
    refine held_take (i := 3) rfl rfl (by kernel_rfl) (by kernel_rfl) (by kernel_rfl) (fun _ _ _ h => h) hS (fun W hW => by go_simp; rfl) ?_
    refine held_take (i := 4) rfl rfl (by kernel_rfl) (by kernel_rfl) (by kernel_rfl) (fun _ _ _ h => h) hS (fun W hW => by go_simp; rfl) ?_
    refine held_take (i := 5) rfl rfl (by kernel_rfl) (by kernel_rfl) (by kernel_rfl) (fun _ _ _ h => h) hS (fun W hW => by go_simp; rfl) ?_
    refine held_take (i := 8) rfl rfl (by kernel_rfl) (by kernel_rfl) (by kernel_rfl) (fun _ _ _ h => h) hS (fun W hW => by go_simp; rfl) ?_
    refine held_one (i := 6) rfl rfl (by kernel_rfl) fun K hK => ?_
    go_simp
    refine Calls.mono (clone_any _ _ ((b.take (9 + nB)).drop 9) _ (by simp; omega) (by simp; omega) _ (by exact ((hdat.below hBK).more hBK.size).drew)) ?_
    rintro e w5 ⟨v, rfl, hown, hb5⟩
    have hS5 := hS.trans (hb5.mono hBK.size)
    obtain ⟨A5, c5, rfl, hR5⟩ := own_slice hown
    refine hK _ _ hS5 ?_
    clear hK K
    refine held_one (i := 7) rfl rfl (by kernel_rfl) fun K hK => ?_
    go_simp
    refine hK _ _ hS5 ?_
    clear hK K
    have hz5 := Blk.below (w := w3.drew) (B := w3.heap.size) hzK hb5 hzK.lt
    have c0 := hz5.cell 0
    have c1 := hz5.cell 1
    have f0 := hz5.frozen 0
    have f1 := hz5.frozen 1
    simp only [List.getElem?_toArray, List.getElem?_cons_zero, List.getElem?_cons_succ] at c0 c1
    refine held_one (i := 9) rfl rfl (by kernel_rfl) fun K hK => ?_
    go_simp
    refine hK _ _ ((hS5.setCell (Nat.le_refl _) _).setCell (Nat.le_refl _) _) ?_
    clear hK K
    refine held_one (i := 10) rfl rfl (by kernel_rfl) fun K hK => ?_
    go_simp
    refine hK _ _ ((hS5.setCell (Nat.le_refl _) _).setCell (Nat.le_refl _) _) ?_
    clear hK K
    refine held_one (i := 11) rfl rfl (by kernel_rfl) fun K hK => ?_
    go_simp
    refine hK _ _ ((hS5.setCell (Nat.le_refl _) _).setCell (Nat.le_refl _) _) ?_
    clear hK K
    refine wpAnyH_done (by kernel_rfl) ?_ _
    go_wp2_with fail
    refine bodyPost_ret (results_cell_row3 rfl _ _ w.heap.size 42 _ (0, 0) _ rfl ((hz5.set_ 0 _).set_ 1 _).out Try.underlying42 rfl (by rw [infoR]; rfl)) rfl ?_
    refine ⟨k, (b.take (9 + nB)).drop 9, .slice A5 ((9 + (nB : Int)).toNat - 9) c5, 9 + nB, by rw [he.out]; simp [go_sem], (hS5.setCell (Nat.le_refl _) _).setCell (Nat.le_refl _) _, ?_, fun _ => ⟨?_, ?_⟩, fun h => absurd he.out h⟩
    · have hl : ((b.take (9 + nB)).drop 9).length = (9 + (nB : Int)).toNat - 9 := by simp; omega
      rw [hl]
      refine own_base (ownsRow_setCell_below (ownsRow_setCell_below hown hzK.lt _) hzK.lt _) (Nat.le_of_lt hzK.lt)
    · unfold takeRec takeEnd
      rw [HK4.out, ← HN.out]
    · unfold takeEnd; rw [← HN.out]
end Go.Proofs.Ytnclbonoenjbeaa.RecW
