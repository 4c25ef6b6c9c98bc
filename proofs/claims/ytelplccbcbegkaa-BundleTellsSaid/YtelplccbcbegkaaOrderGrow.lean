/-
  The walk of an order's Grow.
-/
import Derived.Test.YtelplccbcbegkaaOrderGrow0
namespace Go.Proofs.Ytelplccbcbegkaa.OrW
set_option linter.unusedVariables false
open Go Go.RowKit Go.Proofs Go.Proofs.Ytelplccbcbegkaa Go.Proofs.Ytelplccbcbegkaa.Wd Go.Proofs.Ytelplccbcbegkaa.GrW Go.Proofs.Ytelplccbcbegkaa.Ord
open Go.Proofs.Ytelplccbcbegkaa.Gr (OK putL)

/-- What Grow answers. -/
def OGrowOut (base : Nat) (F : Nat → Prop) (o n : Nat) (L : List (List Int)) (P A : List Nat) (k : Int) (w : World) (e : Ending) (w' : World) : Prop :=
  if canGrow n k then e = .returned (.int .i64 0) ∧ OUpd base F o (n + k.toNat) (growL L k.toNat) (gro P n k.toNat) (gro A n k.toNat) w w' else e = .returned (.int .i64 2) ∧ w' = w
theorem fr_g0 {w : World} {base o n g : Nat} {F Fg : Nat → Prop} {L : List (List Int)} {P A : List Nat} {vp va : Value} (h : OParts w base F o n L P A g vp va Fg) : base ≤ w.heap.size := Nat.le_of_lt (Nat.lt_of_le_of_lt h.far h.blk.lt)
set_option maxRecDepth 100000 in
set_option maxHeartbeats 8000000 in
theorem growO_any (w : World) (base o n : Nat) (F : Nat → Prop) (L : List (List Int)) (P A : List Nat) (h : OAt w base F o n L P A) (hP : Perm n P A) (hn : n ≤ 10000) (k : Int) :
    Calls Try.prog 42 #[.pointer (some ⟨o, 0, none⟩), .int .i64 k] w (OGrowOut base F o n L P A k w) := by
  obtain ⟨g, vp, va, Fg, hO⟩ := h
  obtain ⟨c0, c1, -⟩ := hO.cells
  have HN := Lib.hid (none_o w o g c0)
  have HG := Lib.hid (grow_all w base g n Fg L hO.gr (fr_g0 hO) hn k)
  have HO := Lib.hid hO
  have HP := Lib.hid hP
  by_cases hk : canGrow n k = true
  · have hk2 : 0 ≤ k ∧ (n : Int) + k ≤ 10000 := by unfold canGrow at hk; simpa using hk
    obtain ⟨m, rfl⟩ : ∃ m : Nat, k = m := ⟨k.toNat, by omega⟩
    have HK := Lib.hid hk
    have hnm : n + m ≤ 10000 := by omega
    clear hO hP hk hk2 c1
    go_enter Try.func42, Try.ntmps42
    go_wp2_with fail
    refine Calls.mono HN.out ?_
    rintro e w' ⟨rfl, rfl⟩
    clear HN
    go_wp2_with fail
    refine Calls.mono HG.out ?_
    intro e w1 h1
    unfold GrowOut at h1
    rw [if_pos HK.out, Int.toNat_natCast] at h1
    obtain ⟨rfl, h1⟩ := h1
    have HU : Hid (OUpd base F o (n + m) (growL L m) (gro P n 0) (gro A n 0) w w1) := Lib.hid (by
      rw [gro_zero, gro_zero]; exact HO.out.upd h1)
    obtain ⟨Fg', hO1, hF1⟩ := HO.out.graph h1
    have c1' := hO1.cells.2.1
    obtain ⟨Ap, cp, hvp⟩ := hO1.rowp
    rw [HP.out.lp] at hvp
    rw [hvp] at c1'
    clear h1 HG hO1 hF1 hvp HO c0
    go_wp2_with fail
    clear c1'
    go_loopw [6] (fun cv wr => ∃ q : Nat, n ≤ q ∧ q ≤ n + m ∧ cv = .int .i64 (q : Nat) ∧ Hid (OUpd base F o (n + m) (growL L m) (gro P n (q - n)) (gro A n (q - n)) w wr)) (fun cv _ => n + m - (intOf cv).toNat)
    case atStart => exact ⟨n, Nat.le_refl _, by omega, rfl, by rw [Nat.sub_self]; exact HU⟩
    case round =>
      clear HU
      obtain ⟨q, hq1, hq2, rfl, HT⟩ := hrel
      have HQI : Hid (n + (q - n) = q) := Lib.hid (by omega)
      have HQS : Hid (q + 1 - n = (q - n) + 1) := Lib.hid (by omega)
      obtain ⟨i, hi⟩ : ∃ i, i = q - n := ⟨_, rfl⟩
      rw [← hi] at HT HQI HQS
      have him : i ≤ m := by omega
      have HI := Lib.hid hi
      clear hi
      obtain ⟨F', ⟨g', vp', va', Fg', hO'⟩, hF1, hF2⟩ := HT.out
      have hE := hO'.exist
      have hG := GS.start hE (fun k hk => hk.2) q
      have hbase := fr_g0 hO'
      obtain ⟨c0, c1, c2⟩ := hO'.cells
      have HL := Lib.hid (len_h hO'.gr)
      obtain ⟨Ap, cp, rfl⟩ := hO'.rowp
      obtain ⟨Aa, ca, rfl⟩ := hO'.rowa
      rw [gro_length, HP.out.lp, HQI.out] at c1 hG
      rw [gro_length, HP.out.la, HQI.out] at c2 hG
      by_cases hlt : q < n + m
      · have HNEXT : Hid (∀ pv av wx, OParts wx base (fun k => (F' k ∧ k < wr.heap.size) ∨ wr.heap.size ≤ k) o (n + m) (growL L m) (gro P n i ++ [q]) (gro A n i ++ [q]) g' pv av (fun k => Fg' k ∧ k < wr.heap.size) → Fr (fun k => F' k ∧ k < wr.heap.size) wr wx → OUpd base F o (n + m) (growL L m) (gro P n (q + 1 - n)) (gro A n (q + 1 - n)) w wx) := Lib.hid (fun pv av wx q1 q2 => by
          rw [HQS.out, gro_succ, gro_succ, HQI.out]
          refine ⟨_, ⟨g', pv, av, _, q1⟩, hF1.trans q2 (fun j hj e => ?_), fun j hj => ?_⟩
          · rcases hF2 j e.1 with e | e
            · exact e
            · omega
          · rcases hj with hj | hj
            · exact hF2 j hj.1
            · have := hF1.size; exact .inr (by omega))
        have HQP : Hid (q = (zs (gro P n i)).length) := Lib.hid (by rw [zs_length, gro_length, HP.out.lp, HQI.out])
        have HQA : Hid (q = (zs (gro A n i)).length) := Lib.hid (by rw [zs_length, gro_length, HP.out.la, HQI.out])
        have hgt : (q : Int) < (n : Int) + (m : Int) := by omega
        have hG0 := hG.below ((Below.refl wr.heap.size wr).drew)
        clear hG hE hO' hF1 hF2 HT HQI HQS HI him
        generalize hP1 : gro P n i = P1 at *
        generalize hA1 : gro A n i = A1 at *
        clear hP1 hA1
        go_wp2_with fail
        refine Calls.mono HL.out ?_
        rintro e w' ⟨rfl, rfl⟩
        clear HL
        go_wp2_with fail
        refine wp_region_heldG [18, 21] (fun cc W => (cc 18 = true ∨ W.cell? ⟨o, 1, none⟩ = some (.slice Ap q cp)) ∧ (cc 21 = true ∨ W.cell? ⟨o, 2, none⟩ = some (.slice Aa q ca))) (by kernel_rfl) ?_
        change wpAnyG _ _ _ _ _ _ 22 _ _ wr.drew
        generalize wr.drew = W0 at *
        have hS : (false = true ∨ W0.cell? ⟨o, 1, none⟩ = some (.slice Ap q cp)) ∧ (false = true ∨ W0.cell? ⟨o, 2, none⟩ = some (.slice Aa q ca)) := ⟨.inr (hG0.blk.at_ 1 rfl), .inr (hG0.blk.at_ 2 rfl)⟩
        refine g_take (i := 0) rfl rfl (by kernel_rfl) (by kernel_rfl) (by kernel_rfl) (by kernel_rfl) (by kernel_rfl) (fun _ _ _ h => h) ⟨.inr (hG0.blk.at_ 1 rfl), .inr (hG0.blk.at_ 2 rfl)⟩ (fun L' W' hL hW => by go_simp; rfl) ?_
        refine g_take (i := 1) rfl rfl (by kernel_rfl) (by kernel_rfl) (by kernel_rfl) (by kernel_rfl) (by kernel_rfl) (fun _ _ _ h => h) ⟨.inr (hG0.blk.at_ 1 rfl), .inr (hG0.blk.at_ 2 rfl)⟩ (fun L' W' hL hW => by go_simp; rfl) ?_
        refine g_take (i := 2) rfl rfl (by kernel_rfl) (by kernel_rfl) (by kernel_rfl) (by kernel_rfl) (by kernel_rfl) (fun _ _ _ h => h) ⟨.inr (hG0.blk.at_ 1 rfl), .inr (hG0.blk.at_ 2 rfl)⟩ (fun L' W' hL hW => by go_simp; rfl) ?_
        refine g_take (i := 3) rfl rfl (by kernel_rfl) (by kernel_rfl) (by kernel_rfl) (by kernel_rfl) (by kernel_rfl) (fun _ _ _ h => h) ⟨.inr (hG0.blk.at_ 1 rfl), .inr (hG0.blk.at_ 2 rfl)⟩ (fun L' W' hL hW => by go_simp; rfl) ?_
        refine g_take (i := 4) rfl rfl (by kernel_rfl) (by kernel_rfl) (by kernel_rfl) (by kernel_rfl) (by kernel_rfl) (fun _ _ _ h => h) ⟨.inr (hG0.blk.at_ 1 rfl), .inr (hG0.blk.at_ 2 rfl)⟩ (fun L' W' hL hW => by go_simp; rfl) ?_
        refine g_take (i := 5) rfl rfl (by kernel_rfl) (by kernel_rfl) (by kernel_rfl) (by kernel_rfl) (by kernel_rfl) (fun _ _ _ h => h) ⟨.inr (hG0.blk.at_ 1 rfl), .inr (hG0.blk.at_ 2 rfl)⟩ (fun L' W' hL hW => by have k1 := hW.1.resolve_left (by simp [came, hL 18 (by kernel_rfl)]); go_simp; rfl) ?_
        refine g_take (i := 6) rfl rfl (by kernel_rfl) (by kernel_rfl) (by kernel_rfl) (by kernel_rfl) (by kernel_rfl) (fun _ _ _ h => h) ⟨.inr (hG0.blk.at_ 1 rfl), .inr (hG0.blk.at_ 2 rfl)⟩ (fun L' W' hL hW => by go_simp; rfl) ?_
        refine g_take (i := 9) rfl rfl (by kernel_rfl) (by kernel_rfl) (by kernel_rfl) (by kernel_rfl) (by kernel_rfl) (fun _ _ _ h => h) ⟨.inr (hG0.blk.at_ 1 rfl), .inr (hG0.blk.at_ 2 rfl)⟩ (fun L' W' hL hW => by go_simp; rfl) ?_
        refine g_take (i := 10) rfl rfl (by kernel_rfl) (by kernel_rfl) (by kernel_rfl) (by kernel_rfl) (by kernel_rfl) (fun _ _ _ h => h) ⟨.inr (hG0.blk.at_ 1 rfl), .inr (hG0.blk.at_ 2 rfl)⟩ (fun L' W' hL hW => by go_simp; rfl) ?_
        refine g_take (i := 11) rfl rfl (by kernel_rfl) (by kernel_rfl) (by kernel_rfl) (by kernel_rfl) (by kernel_rfl) (fun _ _ _ h => h) ⟨.inr (hG0.blk.at_ 1 rfl), .inr (hG0.blk.at_ 2 rfl)⟩ (fun L' W' hL hW => by go_simp; rfl) ?_
        refine g_take (i := 12) rfl rfl (by kernel_rfl) (by kernel_rfl) (by kernel_rfl) (by kernel_rfl) (by kernel_rfl) (fun _ _ _ h => h) ⟨.inr (hG0.blk.at_ 1 rfl), .inr (hG0.blk.at_ 2 rfl)⟩ (fun L' W' hL hW => by have k2 := hW.2.resolve_left (by simp [came, hL 21 (by kernel_rfl)]); go_simp; rfl) ?_
        refine g_take (i := 13) rfl rfl (by kernel_rfl) (by kernel_rfl) (by kernel_rfl) (by kernel_rfl) (by kernel_rfl) (fun _ _ _ h => h) ⟨.inr (hG0.blk.at_ 1 rfl), .inr (hG0.blk.at_ 2 rfl)⟩ (fun L' W' hL hW => by go_simp; rfl) ?_
        refine g_two (i := 7) (j := 14) (by kernel_rfl) rfl rfl rfl rfl (fun K' hK => ?_) (fun K' hK => ?_)
        · go_simp
          have hG1 := hG0.lit
          have hS1 : W0.alloc (.cells #[.int .i64 (q : Nat)] 3) = W0.alloc (.cells #[.int .i64 (q : Nat)] 3) := rfl
          refine hK _ _ ⟨.inr (hG1.blk.at_ 1 rfl), .inr (hG1.blk.at_ 2 rfl)⟩ ?_
          clear hK K' hS1
          generalize W0.alloc (.cells #[.int .i64 (q : Nat)] 3) = W1 at *
          refine g_two (i := 8) (j := 14) (by kernel_rfl) rfl rfl rfl rfl (fun K' hK => ?_) (fun K' hK => ?_)
          · refine wp_push (.tmp 37) (.tmp 39) rfl base (.slice Ap q cp) q (zs P1) HQP.out rfl (by have := hG1.rp; unfold ORow at this; rw [← HQP.out] at this; exact this) W0.heap.size (q : Nat) rfl (hG1.lits W0.heap.size (by simp)).1 (by omega) (Nat.le_trans hbase (by have := hG1.fr.size; omega)) ?_
            intro v8 W2 o8 g8 ob8
            have hG2 := hG1.pushP (y := q) (by unfold ORow; rw [zs_append, List.length_append, ← HQP.out]; exact o8) g8 ob8
            obtain ⟨D8, e8, hv8⟩ := own_form o8
            subst hv8
            refine hK _ _ ⟨.inr (hG2.blk.at_ 1 rfl), .inr (hG2.blk.at_ 2 rfl)⟩ ?_
            clear hK K' o8 g8 ob8
            refine g_one (i := 14) rfl rfl (by kernel_rfl) fun K' hK => ?_
            go_simp
            have hG3 := hG2.lit
            have hS3 : W2.alloc (.cells #[.int .i64 (q : Nat)] 3) = W2.alloc (.cells #[.int .i64 (q : Nat)] 3) := rfl
            refine hK _ _ ⟨.inr (hG3.blk.at_ 1 rfl), .inr (hG3.blk.at_ 2 rfl)⟩ ?_
            clear hK K' hS3
            generalize W2.alloc (.cells #[.int .i64 (q : Nat)] 3) = W3 at *
            refine g_one (i := 15) rfl rfl (by kernel_rfl) fun K' hK => ?_
            refine wp_push (.tmp 44) (.tmp 46) rfl base (.slice Aa q ca) q (zs A1) HQA.out rfl (by have := hG3.ra; unfold ORow at this; rw [← HQA.out] at this; exact this) W2.heap.size (q : Nat) rfl (hG3.lits W2.heap.size (by simp)).1 (by omega) (Nat.le_trans hbase (by have := hG3.fr.size; omega)) ?_
            intro v15 W4 o15 g15 ob15
            have hG4 := hG3.pushA (y := q) (by unfold ORow; rw [zs_append, List.length_append, ← HQA.out]; exact o15) g15 ob15
            obtain ⟨D15, e15, hv15⟩ := own_form o15
            subst hv15
            refine hK _ _ ⟨.inr (hG4.blk.at_ 1 rfl), .inr (hG4.blk.at_ 2 rfl)⟩ ?_
            clear hK K' o15 g15 ob15
            have hD := Lib.hid hG4.done
            have y1 := hG4.blk.at_ 1 rfl
            have x1 := hG4.blk.frozen 1
            have hb2 := hG4.blk.set_ 1 (.slice D8 (q + 1) e8)
            have y2 := hb2.at_ 2 rfl
            have x2 := hb2.frozen 2
            have hS' : (true = true ∨ W4.cell? ⟨o, 1, none⟩ = some (.slice Ap q cp)) := .inl rfl
            refine g_take (i := 16) rfl rfl (by kernel_rfl) (by kernel_rfl) (by kernel_rfl) (by kernel_rfl) (by kernel_rfl) (fun _ _ _ h => h) ⟨.inr y1, .inr (hG4.blk.at_ 2 rfl)⟩ (fun L' W' hL hW => by go_simp; rfl) ?_
            refine g_take (i := 17) rfl rfl (by kernel_rfl) (by kernel_rfl) (by kernel_rfl) (by kernel_rfl) (by kernel_rfl) (fun _ _ _ h => h) ⟨.inr y1, .inr (hG4.blk.at_ 2 rfl)⟩ (fun L' W' hL hW => by go_simp; rfl) ?_
            refine g_one (i := 18) rfl rfl (by kernel_rfl) fun K' hK => ?_
            go_simp
            refine hK _ _ ⟨.inl rfl, .inr y2⟩ ?_
            clear hK K'
            refine g_take (i := 19) rfl rfl (by kernel_rfl) (by kernel_rfl) (by kernel_rfl) (by kernel_rfl) (by kernel_rfl) (fun _ _ _ h => h) ⟨.inl rfl, .inr y2⟩ (fun L' W' hL hW => by go_simp; rfl) ?_
            refine g_take (i := 20) rfl rfl (by kernel_rfl) (by kernel_rfl) (by kernel_rfl) (by kernel_rfl) (by kernel_rfl) (fun _ _ _ h => h) ⟨.inl rfl, .inr y2⟩ (fun L' W' hL hW => by go_simp; rfl) ?_
            refine g_one (i := 21) rfl rfl (by kernel_rfl) fun K' hK => ?_
            go_simp
            refine hK _ _ ⟨.inl rfl, .inl rfl⟩ ?_
            clear hK K'
            refine wpAnyG_done (by kernel_rfl) ?_ _
            have HN := Lib.hid (HNEXT.out _ _ _ hD.out.1 hD.out.2)
            clear hD y1 x1 hb2 y2 x2 hS' HNEXT hG0 hG1 hG2 hG3 hG4
            go_simp
            go_wp2_with fail
            go_roundw
            case rel => exact ⟨q + 1, by omega, by omega, by go_num, HN⟩
            case measure => simp [intOf]; omega
          · go_simp
            have hG2 := hG1.lit
            have hS2 : W1.alloc (.cells #[.int .i64 (q : Nat)] 3) = W1.alloc (.cells #[.int .i64 (q : Nat)] 3) := rfl
            refine hK _ _ ⟨.inr (hG2.blk.at_ 1 rfl), .inr (hG2.blk.at_ 2 rfl)⟩ ?_
            clear hK K' hS2
            generalize W1.alloc (.cells #[.int .i64 (q : Nat)] 3) = W2 at *
            refine g_one (i := 8) rfl rfl (by kernel_rfl) fun K' hK => ?_
            refine wp_push (.tmp 37) (.tmp 39) rfl base (.slice Ap q cp) q (zs P1) HQP.out rfl (by have := hG2.rp; unfold ORow at this; rw [← HQP.out] at this; exact this) W0.heap.size (q : Nat) rfl (hG2.lits W0.heap.size (by simp)).1 (by omega) (Nat.le_trans hbase (by have := hG2.fr.size; omega)) ?_
            intro v8 W3 o8 g8 ob8
            have hG3 := hG2.pushP (y := q) (by unfold ORow; rw [zs_append, List.length_append, ← HQP.out]; exact o8) g8 ob8
            obtain ⟨D8, e8, hv8⟩ := own_form o8
            subst hv8
            refine hK _ _ ⟨.inr (hG3.blk.at_ 1 rfl), .inr (hG3.blk.at_ 2 rfl)⟩ ?_
            clear hK K' o8 g8 ob8
            refine g_one (i := 15) rfl rfl (by kernel_rfl) fun K' hK => ?_
            refine wp_push (.tmp 44) (.tmp 46) rfl base (.slice Aa q ca) q (zs A1) HQA.out rfl (by have := hG3.ra; unfold ORow at this; rw [← HQA.out] at this; exact this) W1.heap.size (q : Nat) rfl (hG3.lits W1.heap.size (by simp)).1 (by omega) (Nat.le_trans hbase (by have := hG3.fr.size; omega)) ?_
            intro v15 W4 o15 g15 ob15
            have hG4 := hG3.pushA (y := q) (by unfold ORow; rw [zs_append, List.length_append, ← HQA.out]; exact o15) g15 ob15
            obtain ⟨D15, e15, hv15⟩ := own_form o15
            subst hv15
            refine hK _ _ ⟨.inr (hG4.blk.at_ 1 rfl), .inr (hG4.blk.at_ 2 rfl)⟩ ?_
            clear hK K' o15 g15 ob15
            have hD := Lib.hid hG4.done
            have y1 := hG4.blk.at_ 1 rfl
            have x1 := hG4.blk.frozen 1
            have hb2 := hG4.blk.set_ 1 (.slice D8 (q + 1) e8)
            have y2 := hb2.at_ 2 rfl
            have x2 := hb2.frozen 2
            have hS' : (true = true ∨ W4.cell? ⟨o, 1, none⟩ = some (.slice Ap q cp)) := .inl rfl
            refine g_take (i := 16) rfl rfl (by kernel_rfl) (by kernel_rfl) (by kernel_rfl) (by kernel_rfl) (by kernel_rfl) (fun _ _ _ h => h) ⟨.inr y1, .inr (hG4.blk.at_ 2 rfl)⟩ (fun L' W' hL hW => by go_simp; rfl) ?_
            refine g_take (i := 17) rfl rfl (by kernel_rfl) (by kernel_rfl) (by kernel_rfl) (by kernel_rfl) (by kernel_rfl) (fun _ _ _ h => h) ⟨.inr y1, .inr (hG4.blk.at_ 2 rfl)⟩ (fun L' W' hL hW => by go_simp; rfl) ?_
            refine g_one (i := 18) rfl rfl (by kernel_rfl) fun K' hK => ?_
            go_simp
            refine hK _ _ ⟨.inl rfl, .inr y2⟩ ?_
            clear hK K'
            refine g_take (i := 19) rfl rfl (by kernel_rfl) (by kernel_rfl) (by kernel_rfl) (by kernel_rfl) (by kernel_rfl) (fun _ _ _ h => h) ⟨.inl rfl, .inr y2⟩ (fun L' W' hL hW => by go_simp; rfl) ?_
            refine g_take (i := 20) rfl rfl (by kernel_rfl) (by kernel_rfl) (by kernel_rfl) (by kernel_rfl) (by kernel_rfl) (fun _ _ _ h => h) ⟨.inl rfl, .inr y2⟩ (fun L' W' hL hW => by go_simp; rfl) ?_
            refine g_one (i := 21) rfl rfl (by kernel_rfl) fun K' hK => ?_
            go_simp
            refine hK _ _ ⟨.inl rfl, .inl rfl⟩ ?_
            clear hK K'
            refine wpAnyG_done (by kernel_rfl) ?_ _
            have HN := Lib.hid (HNEXT.out _ _ _ hD.out.1 hD.out.2)
            clear hD y1 x1 hb2 y2 x2 hS' HNEXT hG0 hG1 hG2 hG3 hG4
            go_simp
            go_wp2_with fail
            go_roundw
            case rel => exact ⟨q + 1, by omega, by omega, by go_num, HN⟩
            case measure => simp [intOf]; omega
        · go_simp
          have hG1 := hG0.lit
          have hS1 : W0.alloc (.cells #[.int .i64 (q : Nat)] 3) = W0.alloc (.cells #[.int .i64 (q : Nat)] 3) := rfl
          refine hK _ _ ⟨.inr (hG1.blk.at_ 1 rfl), .inr (hG1.blk.at_ 2 rfl)⟩ ?_
          clear hK K' hS1
          generalize W0.alloc (.cells #[.int .i64 (q : Nat)] 3) = W1 at *
          refine g_one (i := 7) rfl rfl (by kernel_rfl) fun K' hK => ?_
          go_simp
          have hG2 := hG1.lit
          have hS2 : W1.alloc (.cells #[.int .i64 (q : Nat)] 3) = W1.alloc (.cells #[.int .i64 (q : Nat)] 3) := rfl
          refine hK _ _ ⟨.inr (hG2.blk.at_ 1 rfl), .inr (hG2.blk.at_ 2 rfl)⟩ ?_
          clear hK K' hS2
          generalize W1.alloc (.cells #[.int .i64 (q : Nat)] 3) = W2 at *
          refine g_one (i := 8) rfl rfl (by kernel_rfl) fun K' hK => ?_
          refine wp_push (.tmp 37) (.tmp 39) rfl base (.slice Ap q cp) q (zs P1) HQP.out rfl (by have := hG2.rp; unfold ORow at this; rw [← HQP.out] at this; exact this) W1.heap.size (q : Nat) rfl (hG2.lits W1.heap.size (by simp)).1 (by omega) (Nat.le_trans hbase (by have := hG2.fr.size; omega)) ?_
          intro v8 W3 o8 g8 ob8
          have hG3 := hG2.pushP (y := q) (by unfold ORow; rw [zs_append, List.length_append, ← HQP.out]; exact o8) g8 ob8
          obtain ⟨D8, e8, hv8⟩ := own_form o8
          subst hv8
          refine hK _ _ ⟨.inr (hG3.blk.at_ 1 rfl), .inr (hG3.blk.at_ 2 rfl)⟩ ?_
          clear hK K' o8 g8 ob8
          refine g_one (i := 15) rfl rfl (by kernel_rfl) fun K' hK => ?_
          refine wp_push (.tmp 44) (.tmp 46) rfl base (.slice Aa q ca) q (zs A1) HQA.out rfl (by have := hG3.ra; unfold ORow at this; rw [← HQA.out] at this; exact this) W0.heap.size (q : Nat) rfl (hG3.lits W0.heap.size (by simp)).1 (by omega) (Nat.le_trans hbase (by have := hG3.fr.size; omega)) ?_
          intro v15 W4 o15 g15 ob15
          have hG4 := hG3.pushA (y := q) (by unfold ORow; rw [zs_append, List.length_append, ← HQA.out]; exact o15) g15 ob15
          obtain ⟨D15, e15, hv15⟩ := own_form o15
          subst hv15
          refine hK _ _ ⟨.inr (hG4.blk.at_ 1 rfl), .inr (hG4.blk.at_ 2 rfl)⟩ ?_
          clear hK K' o15 g15 ob15
          have hD := Lib.hid hG4.done
          have y1 := hG4.blk.at_ 1 rfl
          have x1 := hG4.blk.frozen 1
          have hb2 := hG4.blk.set_ 1 (.slice D8 (q + 1) e8)
          have y2 := hb2.at_ 2 rfl
          have x2 := hb2.frozen 2
          have hS' : (true = true ∨ W4.cell? ⟨o, 1, none⟩ = some (.slice Ap q cp)) := .inl rfl
          refine g_take (i := 16) rfl rfl (by kernel_rfl) (by kernel_rfl) (by kernel_rfl) (by kernel_rfl) (by kernel_rfl) (fun _ _ _ h => h) ⟨.inr y1, .inr (hG4.blk.at_ 2 rfl)⟩ (fun L' W' hL hW => by go_simp; rfl) ?_
          refine g_take (i := 17) rfl rfl (by kernel_rfl) (by kernel_rfl) (by kernel_rfl) (by kernel_rfl) (by kernel_rfl) (fun _ _ _ h => h) ⟨.inr y1, .inr (hG4.blk.at_ 2 rfl)⟩ (fun L' W' hL hW => by go_simp; rfl) ?_
          refine g_one (i := 18) rfl rfl (by kernel_rfl) fun K' hK => ?_
          go_simp
          refine hK _ _ ⟨.inl rfl, .inr y2⟩ ?_
          clear hK K'
          refine g_take (i := 19) rfl rfl (by kernel_rfl) (by kernel_rfl) (by kernel_rfl) (by kernel_rfl) (by kernel_rfl) (fun _ _ _ h => h) ⟨.inl rfl, .inr y2⟩ (fun L' W' hL hW => by go_simp; rfl) ?_
          refine g_take (i := 20) rfl rfl (by kernel_rfl) (by kernel_rfl) (by kernel_rfl) (by kernel_rfl) (by kernel_rfl) (fun _ _ _ h => h) ⟨.inl rfl, .inr y2⟩ (fun L' W' hL hW => by go_simp; rfl) ?_
          refine g_one (i := 21) rfl rfl (by kernel_rfl) fun K' hK => ?_
          go_simp
          refine hK _ _ ⟨.inl rfl, .inl rfl⟩ ?_
          clear hK K'
          refine wpAnyG_done (by kernel_rfl) ?_ _
          have HN := Lib.hid (HNEXT.out _ _ _ hD.out.1 hD.out.2)
          clear hD y1 x1 hb2 y2 x2 hS' HNEXT hG0 hG1 hG2 hG3 hG4
          go_simp
          go_wp2_with fail
          go_roundw
          case rel => exact ⟨q + 1, by omega, by omega, by go_num, HN⟩
          case measure => simp [intOf]; omega
      · have hgt : ¬ (q : Int) < (n : Int) + (m : Int) := by omega
        have HF : Hid (OGrowOut base F o n L P A (m : Int) w (.returned (.int .i64 0)) wr) := Lib.hid (by
          have e : i = m := by have := HI.out; omega
          unfold OGrowOut
          rw [if_pos HK.out, Int.toNat_natCast]
          have := HT.out
          rw [e] at this
          exact ⟨rfl, this⟩)
        clear HI him HQI HQS hG hE hO' hF1 hF2 HT
        go_wp2_with fail
        refine Calls.mono HL.out ?_
        rintro e w' ⟨rfl, rfl⟩
        clear HL
        go_wp2_with fail
        go_ret
        exact HF.out
  · have HF : Hid (OGrowOut base F o n L P A k w (.returned (.int .i64 2)) w) := Lib.hid (by
      unfold OGrowOut
      rw [if_neg hk]
      exact ⟨rfl, rfl⟩)
    have HK := Lib.hid hk
    clear hO hP hk c1
    go_enter Try.func42, Try.ntmps42
    go_wp2_with fail
    refine Calls.mono HN.out ?_
    rintro e w' ⟨rfl, rfl⟩
    clear HN
    go_wp2_with fail
    refine Calls.mono HG.out ?_
    intro e w1 h1
    unfold GrowOut at h1
    rw [if_neg HK.out] at h1
    obtain ⟨rfl, rfl⟩ := h1
    clear HG
    go_wp2_with fail
    go_ret
    exact HF.out
end Go.Proofs.Ytelplccbcbegkaa.OrW
