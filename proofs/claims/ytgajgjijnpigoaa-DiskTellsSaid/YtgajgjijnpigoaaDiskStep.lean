/-
  The walk of a step: an operation, with both disks.
-/
import Derived.Test.YtgajgjijnpigoaaDiskStep1
import Derived.Deep.CutBlock
namespace Go.Proofs.Ytgajgjijnpigoaa.Dr
set_option linter.unusedVariables false
open Go Go.RowKit Go.Proofs Go.Proofs.Ytgajgjijnpigoaa Go.Proofs.Ytgajgjijnpigoaa.Wd
open Go.Proofs.Ytgajgjijnpigoaa.Dk (DS upd upd_eq upd_ne Ok newD At Fresh own_empty appD syD trD wrD shD fuseD crashD)
/-- What a step leaves. -/
def StepOut (w : World) (g bm : Nat) (e : Ending) (w' : World) : Prop := e = .returned (.bool true) ∧ ∃ F s v cl k, TD w w' (fun _ => False) F g s bm v cl k
/-- Behind the operation: both answer alike, and the caller's own bytes are still there. -/
def StepMid (w : World) (g bm : Nat) (u : Value) (base q : Nat) (v7 v8 : Value) (wx : World) : Prop :=
  ∃ code : Nat, v7 = .int .i64 code ∧ v8 = .int .i64 code ∧ (∃ F s v cl k, TD w wx (fun j => u.ownBlock = some j) F g s bm v cl k) ∧ ∃ l, wx.ownsRow base 5 1 u q (bs l)
theorem StepMid.mk {w wr w2 : World} {F : Nat → Prop} {g bm : Nat} {s s' : DS} {u : Value} {base q : Nat} {v : Nat → Sl} {cl k : Int} (h : TM w wr (fun j => u.ownBlock = some j) F g s s' bm v cl k) (hn : Dk.Next wr w.heap.size F g s' w2) {l : List UInt8} (ho : wr.ownsRow base 5 1 u q (bs l)) (code : Nat) : StepMid w g bm u base q (.int .i64 code) (.int .i64 code) w2 := by
  obtain ⟨F', h'⟩ := h.next hn
  refine ⟨code, rfl, rfl, ⟨F', s', v, cl, k, h'⟩, l, own_keep ho fun r hr => ?_⟩
  obtain ⟨F2, h1, h2, h3⟩ := hn
  obtain ⟨e1, e2, e3, e4⟩ := h.sub r hr
  exact h2.block r e2 e3
section
variable {w w1 : World} {F : Nat → Prop} {g bm : Nat} {s : DS} {v : Nat → Sl} {cl k : Int}
set_option maxRecDepth 100000 in
set_option maxHeartbeats 16000000 in
theorem step_any (h : TD w w1 (fun _ => False) F g s bm v cl k) (x : Nat) (hx : x < 256) (seg n : Int) (hsb : -9223372036854775808 ≤ seg ∧ seg ≤ 9223372036854775807) (hnb : -9223372036854775808 ≤ n ∧ n ≤ 9223372036854775807) (A : Option Addr) (m c : Nat) (B : List UInt8) (hm : m = B.length) (hmc : m ≤ c) (hcm : c ≤ maxLen) (hI : Bytes w w.heap.size A B)
    (keep : Nat → Int) (hkp : ∀ i, i < 4 → -9223372036854775808 ≤ keep i ∧ keep i ≤ 9223372036854775807) :
    Calls Try.prog 24 #[.pointer (some ⟨g, 0, none⟩), .pointer (some ⟨bm, 0, none⟩), .agg #[.int .u8 (x : Int), .int .i64 seg, .int .i64 n, .slice A m c, .int .i64 (keep 0), .int .i64 (keep 1), .int .i64 (keep 2), .int .i64 (keep 3)]] w1 (StepOut w g bm) := by
  have HBY := Lib.hid (fun (W : World) (hW : Below w.heap.size w W) => bytes_any (x := x) (seg := seg) (n := n) (keep := keep) hm hmc hcm (w := W) hW.size (hI.below hW))
  have hB0 := (Below.refl w1.heap.size w1).alloc (Nat.le_refl _) (.cells #[.int .u8 (x : Int), .int .i64 seg, .int .i64 n, .slice A m c, .int .i64 (keep 0), .int .i64 (keep 1), .int .i64 (keep 2), .int .i64 (keep 3)] 56)
  have hO := Blk.new_ w1 56 #[.int .u8 (x : Int), .int .i64 seg, .int .i64 n, .slice A m c, .int .i64 (keep 0), .int .i64 (keep 1), .int .i64 (keep 2), .int .i64 (keep 3)] rfl
  have hT := (h.mark (E' := fun j => j = w1.heap.size) hB0 (fun j hj => .inr ⟨Nat.le_of_eq hj.symm, by rw [hj]; simp⟩))
  obtain ⟨r, hr1, hr2, hr3⟩ := mod8 x hx
  have HKP := Lib.hid hkp
  clear hm hI hB0 h hkp
  go_enter Try.func24, Try.ntmps24
  go_upto_region 2 with fail
  generalize w1.alloc (.cells #[.int .u8 (x : Int), .int .i64 seg, .int .i64 n, .slice A m c, .int .i64 (keep 0), .int .i64 (keep 1), .int .i64 (keep 2), .int .i64 (keep 3)] 56) = w2 at *
  generalize w1.heap.size = b5 at *
  have HT := Lib.hid hT
  have HO := Lib.hid hO
  clear hT hO
  go_wp2_with (refine wpList_load_row rfl 56 (.tmp 5) rfl b5 rfl 56 _ _ _ HO.out.out Try.underlying56 rfl (by kernel_rfl) ?_)
  refine Calls.mono (HBY.out _ HT.out.low) ?_
  rintro e w3 ⟨u, rfl, hown, hb3⟩
  generalize hq : (B.take 40).length = q at hown
  have hq40 : q ≤ 40 := by rw [← hq, List.length_take]; omega
  have HO3 := Lib.hid (HO.out.below hb3 HO.out.lt)
  obtain ⟨A9, c9, hu⟩ := own_form hown
  have HU := Lib.hid hown
  have HT3 := Lib.hid (HT.out.mark (E' := fun j => j = b5 ∨ u.ownBlock = some j) hb3 (fun j hj => by
    rcases hj with rfl | hj
    · exact .inl rfl
    · obtain ⟨h1, cs, h2⟩ := own_row hown hj
      exact .inr ⟨h1, h2.lt⟩))
  generalize hbb : w2.heap.size = base at *
  subst hu
  clear hq hown hb3 HT HO hbb
  have q0 := HO3.out.at_ 0 rfl
  go_upto_block 0 with fail
  go_cut [7, 8] (fun v7 v8 wx => StepMid w g bm (.slice A9 q c9) base q v7 v8 wx)
  case first =>
    obtain ⟨X, hX⟩ : ∃ X, X = rcells s v cl k := ⟨_, rfl⟩
    have HX := Lib.hid hX
    clear hX
    have HBX : Hid (Blk w3 bm 53 X) := Lib.hid (by rw [HX.out]; exact HT3.out.box)
    rcases (by omega : r = 0 ∨ r = 1 ∨ r = 2 ∨ r = 3 ∨ r = 4 ∨ r = 5 ∨ r = 6 ∨ r = 7) with rfl | rfl | rfl | rfl | rfl | rfl | rfl | rfl
    all_goals simp only [Int.cast_ofNat_Int] at hr1 hr2
    · go_upto_region 8 with fail
      have HT4 := Lib.hid (HT3.out.below ((Below.refl _ w3).drew))
      have HO4 : Hid (Blk w3.drew b5 56 #[.int .u8 (x : Int), .int .i64 seg, .int .i64 n, .slice A m c, .int .i64 (keep 0), .int .i64 (keep 1), .int .i64 (keep 2), .int .i64 (keep 3)]) := Lib.hid HO3.out
      have HB4 : Hid (Blk w3.drew bm 53 X) := Lib.hid HBX.out
      have HL4 : Hid (Below w3.heap.size w3 w3.drew) := Lib.hid ((Below.refl _ w3).drew)
      refine wp_region_heldG [13] (fun cc W => (cc 13 = true ∨ Blk W bm 53 X) ∧ Blk W b5 56 #[.int .u8 (x : Int), .int .i64 seg, .int .i64 n, .slice A m c, .int .i64 (keep 0), .int .i64 (keep 1), .int .i64 (keep 2), .int .i64 (keep 3)]) (by kernel_rfl) ?_
      change wpAnyG _ _ _ _ _ _ 15 _ _ (World.drew _)
      have hS : ((false = true) ∨ Blk w3.drew bm 53 X) ∧ Blk w3.drew b5 56 #[.int .u8 (x : Int), .int .i64 seg, .int .i64 n, .slice A m c, .int .i64 (keep 0), .int .i64 (keep 1), .int .i64 (keep 2), .int .i64 (keep 3)] := ⟨.inr HBX.out, HO3.out⟩
      -- take0 take1 take2 take3 take4 take5 take6 one7 one8 take9 take10 take11 take12 one13 take14 done
      refine g_take (i := 0) rfl rfl (by kernel_rfl) (by kernel_rfl) (by kernel_rfl) (by kernel_rfl) (by kernel_rfl) (fun _ _ _ h => h) hS (fun L W hL hW => by go_simp; rfl) ?_
      refine g_take (i := 1) rfl rfl (by kernel_rfl) (by kernel_rfl) (by kernel_rfl) (by kernel_rfl) (by kernel_rfl) (fun _ _ _ h => h) hS (fun L W hL hW => by go_simp; rfl) ?_
      refine g_take (i := 2) rfl rfl (by kernel_rfl) (by kernel_rfl) (by kernel_rfl) (by kernel_rfl) (by kernel_rfl) (fun _ _ _ h => h) hS (fun L W hL hW => by go_simp; rfl) ?_
      refine g_take (i := 3) rfl rfl (by kernel_rfl) (by kernel_rfl) (by kernel_rfl) (by kernel_rfl) (by kernel_rfl) (fun _ _ _ h => h) hS (fun L W hL hW => run_load_row 53 (.tmp 34) rfl bm (by go_simp) 53 X _ _ (((hW.1.resolve_left (by simp [came, hL 13 (by kernel_rfl)]))).out) Try.underlying53 rfl (by rw [rx_size HX.out]; kernel_rfl)) ?_
      refine g_take (i := 4) rfl rfl (by kernel_rfl) (by kernel_rfl) (by kernel_rfl) (by kernel_rfl) (by kernel_rfl) (fun _ _ _ h => h) hS (fun L W hL hW => by go_simp; rfl) ?_
      refine g_take (i := 5) rfl rfl (by kernel_rfl) (by kernel_rfl) (by kernel_rfl) (by kernel_rfl) (by kernel_rfl) (fun _ _ _ h => h) hS (fun L W hL hW => by have q := hW.2; have p1 := q.at_ 1 rfl; go_simp; rfl) ?_
      refine g_take (i := 6) rfl rfl (by kernel_rfl) (by kernel_rfl) (by kernel_rfl) (by kernel_rfl) (by kernel_rfl) (fun _ _ _ h => h) hS (fun L W hL hW => run_load_row 56 (.tmp 5) rfl b5 (by go_simp) 56 #[.int .u8 (x : Int), .int .i64 seg, .int .i64 n, .slice A m c, .int .i64 (keep 0), .int .i64 (keep 1), .int .i64 (keep 2), .int .i64 (keep 3)] _ _ (hW.2.out) Try.underlying56 rfl (by rw [show (#[.int .u8 (x : Int), .int .i64 seg, .int .i64 n, .slice A m c, .int .i64 (keep 0), .int .i64 (keep 1), .int .i64 (keep 2), .int .i64 (keep 3)] : Array Value).size = 8 from rfl]; kernel_rfl)) ?_
      refine g_one (i := 7) rfl rfl (by kernel_rfl) fun K hK => ?_
      go_simp
      refine Calls.mono (HBY.out _ HT4.out.low) ?_
      rintro e w7 ⟨u7, rfl, hown, hb7⟩
      generalize hq7 : (B.take 40).length = q7 at hown
      obtain ⟨A7, c7, hu7⟩ := own_form hown
      subst hu7
      obtain ⟨hn7, hc7, hm7, -⟩ := own_block hown
      obtain ⟨A7', c7', e7, -, -, hI7⟩ := Dk.own_read hown
      rw [← hn7] at e7
      cases e7
      have HT7 := Lib.hid (HT4.out.below hb7)
      have HO7 := Lib.hid (HO4.out.below hb7 HO4.out.lt)
      have HB7 := Lib.hid (HB4.out.below hb7 HB4.out.lt)
      have HL7 := Lib.hid (HL4.out.trans (hb7.mono HL4.out.size))
      have hS : ((false = true) ∨ Blk w7 bm 53 X) ∧ Blk w7 b5 56 #[.int .u8 (x : Int), .int .i64 seg, .int .i64 n, .slice A m c, .int .i64 (keep 0), .int .i64 (keep 1), .int .i64 (keep 2), .int .i64 (keep 3)] := ⟨.inr HB7.out, HO7.out⟩
      have HI7 := Lib.hid hI7
      have HN7 := Lib.hid hn7
      clear hown hb7 HT4 HO4 HB4 HL4 hI7 hn7 hq7
      refine hK _ _ hS ?_
      clear hK K
      refine g_one (i := 8) rfl rfl (by kernel_rfl) fun K hK => ?_
      go_simp
      have HC := Lib.hid (rappend HT7.out.at_.ok HT7.out.rv HT7.out.lt seg HN7.out hc7 hm7 HI7.out)
      unfold rval at HC
      rw [← HX.out] at HC
      refine Calls.mono HC.out ?_
      rintro e w8 ⟨⟨v8, cl8, k8, rfl, hrv⟩, hb8⟩
      obtain ⟨X9, hX9⟩ : ∃ X9, X9 = rcells ((appD s seg (B.take 40)).2) v8 cl8 k8 := ⟨_, rfl⟩
      unfold rval
      rw [← hX9]
      have HX9 := Lib.hid hX9
      have hne5 : b5 ≠ bm := (HT7.out.sub b5 (.inl rfl)).2.2.2
      have hneu : (Value.slice A9 q c9).ownBlock ≠ some bm := fun e => (HT7.out.sub bm (.inr e)).2.2.2 rfl
      have HM : Hid (TM w (w8.setRow bm X9) (fun j => j = b5 ∨ (Value.slice A9 q c9).ownBlock = some j) F g s ((appD s seg (B.take 40)).2) bm v8 cl8 k8) := Lib.hid (by rw [hX9]; exact HT7.out.keep hb8 hrv)
      have HO9 : Hid (Blk (w8.setRow bm X9) b5 56 #[.int .u8 (x : Int), .int .i64 seg, .int .i64 n, .slice A m c, .int .i64 (keep 0), .int .i64 (keep 1), .int .i64 (keep 2), .int .i64 (keep 3)]) := Lib.hid ((HO7.out.below hb8 HO7.out.lt).rowFar hne5 X9)
      have HU9 : Hid ((w8.setRow bm X9).ownsRow base 5 1 (.slice A9 q c9) q (bs (B.take 40))) := Lib.hid (own_set HU.out (HL7.out.trans (hb8.mono HL7.out.size)) hneu X9)
      have HB8 := Lib.hid (HB7.out.below hb8 HB7.out.lt)
      have hS : ((false = true) ∨ Blk w8 bm 53 X) ∧ Blk w8 b5 56 #[.int .u8 (x : Int), .int .i64 seg, .int .i64 n, .slice A m c, .int .i64 (keep 0), .int .i64 (keep 1), .int .i64 (keep 2), .int .i64 (keep 3)] := ⟨.inr HB8.out, HO7.out.below hb8 HO7.out.lt⟩
      clear hX9 hne5 hneu hrv hb8 HC HT7 HO7 HB7 HL7
      refine hK _ _ hS ?_
      clear hK K
      refine g_take (i := 9) rfl rfl (by kernel_rfl) (by kernel_rfl) (by kernel_rfl) (by kernel_rfl) (by kernel_rfl) (fun _ _ _ h => h) hS (fun L W hL hW => by go_simp; rfl) ?_
      refine g_take (i := 10) rfl rfl (by kernel_rfl) (by kernel_rfl) (by kernel_rfl) (by kernel_rfl) (by kernel_rfl) (fun _ _ _ h => h) hS (fun L W hL hW => by go_simp; rfl) ?_
      refine g_take (i := 11) rfl rfl (by kernel_rfl) (by kernel_rfl) (by kernel_rfl) (by kernel_rfl) (by kernel_rfl) (fun _ _ _ h => h) hS (fun L W hL hW => by go_simp; rfl) ?_
      refine g_take (i := 12) rfl rfl (by kernel_rfl) (by kernel_rfl) (by kernel_rfl) (by kernel_rfl) (by kernel_rfl) (fun _ _ _ h => h) hS (fun L W hL hW => by go_simp; rfl) ?_
      refine g_one (i := 13) rfl rfl (by kernel_rfl) fun K hK => ?_
      have hst := run_cells_row (P := Try.prog) HB8.out (by rw [rx_size HX.out, rx_size HX9.out]) (rx_one HX9.out)
      have hsz := rx_size HX9.out
      go_simp
      clear hst hsz
      refine hK _ _ ⟨.inl rfl, HO9.out⟩ ?_
      clear hK K
      refine g_take (i := 14) rfl rfl (by kernel_rfl) (by kernel_rfl) (by kernel_rfl) (by kernel_rfl) (by kernel_rfl) (fun _ _ _ h => h) ⟨.inl rfl, HO9.out⟩ (fun L W hL hW => by go_simp; rfl) ?_
      refine wpAnyG_done (by kernel_rfl) ?_ _
      go_simp
      generalize w8.setRow bm X9 = w9 at *
      clear HB8 HX HX9
      obtain ⟨hn9, hc9, hm9, -⟩ := own_block HU9.out
      obtain ⟨A9', c9', e9, -, -, hI9⟩ := Dk.own_read HU9.out
      rw [← hn9] at e9
      cases e9
      have hF9 : B.take 40 ≠ [] → ∀ x o, A9 = some ⟨x, o, none⟩ → ¬ F x := fun _ x o e => (HM.out.sub x (.inr (by rw [e]; simp [Value.ownBlock]))).2.2.1
      have HI9 := Lib.hid hI9
      have HF9 := Lib.hid hF9
      have HN9 := Lib.hid hn9
      clear hI9 hF9 hn9
      have q1 := HO9.out.at_ 1 rfl
      go_wp2_with fail
      refine Calls.mono (Dk.append_any HM.out.at_ seg HN9.out hc9 hm9 HI9.out HF9.out) ?_
      rintro e w10 ⟨rfl, hn⟩
      have HMID := Lib.hid (StepMid.mk (HM.out.unmark (fun j hj => .inr hj)) hn HU9.out (appD s seg (B.take 40)).1)
      clear hn HM HU9 HO9
      go_wp2_with fail
      go_meet
      exact HMID.out
    · go_upto_region 8 with fail
      have HT4 := Lib.hid (HT3.out.below ((Below.refl _ w3).drew))
      have HO4 : Hid (Blk w3.drew b5 56 #[.int .u8 (x : Int), .int .i64 seg, .int .i64 n, .slice A m c, .int .i64 (keep 0), .int .i64 (keep 1), .int .i64 (keep 2), .int .i64 (keep 3)]) := Lib.hid HO3.out
      have HB4 : Hid (Blk w3.drew bm 53 X) := Lib.hid HBX.out
      have HL4 : Hid (Below w3.heap.size w3 w3.drew) := Lib.hid ((Below.refl _ w3).drew)
      refine wp_region_heldG [13] (fun cc W => (cc 13 = true ∨ Blk W bm 53 X) ∧ Blk W b5 56 #[.int .u8 (x : Int), .int .i64 seg, .int .i64 n, .slice A m c, .int .i64 (keep 0), .int .i64 (keep 1), .int .i64 (keep 2), .int .i64 (keep 3)]) (by kernel_rfl) ?_
      change wpAnyG _ _ _ _ _ _ 15 _ _ (World.drew _)
      have hS : ((false = true) ∨ Blk w3.drew bm 53 X) ∧ Blk w3.drew b5 56 #[.int .u8 (x : Int), .int .i64 seg, .int .i64 n, .slice A m c, .int .i64 (keep 0), .int .i64 (keep 1), .int .i64 (keep 2), .int .i64 (keep 3)] := ⟨.inr HBX.out, HO3.out⟩
      -- take0 take1 take2 take3 take4 take5 take6 one7 one8 take9 take10 take11 take12 one13 take14 done
      refine g_take (i := 0) rfl rfl (by kernel_rfl) (by kernel_rfl) (by kernel_rfl) (by kernel_rfl) (by kernel_rfl) (fun _ _ _ h => h) hS (fun L W hL hW => by go_simp; rfl) ?_
      refine g_take (i := 1) rfl rfl (by kernel_rfl) (by kernel_rfl) (by kernel_rfl) (by kernel_rfl) (by kernel_rfl) (fun _ _ _ h => h) hS (fun L W hL hW => by go_simp; rfl) ?_
      refine g_take (i := 2) rfl rfl (by kernel_rfl) (by kernel_rfl) (by kernel_rfl) (by kernel_rfl) (by kernel_rfl) (fun _ _ _ h => h) hS (fun L W hL hW => by go_simp; rfl) ?_
      refine g_take (i := 3) rfl rfl (by kernel_rfl) (by kernel_rfl) (by kernel_rfl) (by kernel_rfl) (by kernel_rfl) (fun _ _ _ h => h) hS (fun L W hL hW => run_load_row 53 (.tmp 34) rfl bm (by go_simp) 53 X _ _ (((hW.1.resolve_left (by simp [came, hL 13 (by kernel_rfl)]))).out) Try.underlying53 rfl (by rw [rx_size HX.out]; kernel_rfl)) ?_
      refine g_take (i := 4) rfl rfl (by kernel_rfl) (by kernel_rfl) (by kernel_rfl) (by kernel_rfl) (by kernel_rfl) (fun _ _ _ h => h) hS (fun L W hL hW => by go_simp; rfl) ?_
      refine g_take (i := 5) rfl rfl (by kernel_rfl) (by kernel_rfl) (by kernel_rfl) (by kernel_rfl) (by kernel_rfl) (fun _ _ _ h => h) hS (fun L W hL hW => by have q := hW.2; have p1 := q.at_ 1 rfl; go_simp; rfl) ?_
      refine g_take (i := 6) rfl rfl (by kernel_rfl) (by kernel_rfl) (by kernel_rfl) (by kernel_rfl) (by kernel_rfl) (fun _ _ _ h => h) hS (fun L W hL hW => run_load_row 56 (.tmp 5) rfl b5 (by go_simp) 56 #[.int .u8 (x : Int), .int .i64 seg, .int .i64 n, .slice A m c, .int .i64 (keep 0), .int .i64 (keep 1), .int .i64 (keep 2), .int .i64 (keep 3)] _ _ (hW.2.out) Try.underlying56 rfl (by rw [show (#[.int .u8 (x : Int), .int .i64 seg, .int .i64 n, .slice A m c, .int .i64 (keep 0), .int .i64 (keep 1), .int .i64 (keep 2), .int .i64 (keep 3)] : Array Value).size = 8 from rfl]; kernel_rfl)) ?_
      refine g_one (i := 7) rfl rfl (by kernel_rfl) fun K hK => ?_
      go_simp
      refine Calls.mono (HBY.out _ HT4.out.low) ?_
      rintro e w7 ⟨u7, rfl, hown, hb7⟩
      generalize hq7 : (B.take 40).length = q7 at hown
      obtain ⟨A7, c7, hu7⟩ := own_form hown
      subst hu7
      obtain ⟨hn7, hc7, hm7, -⟩ := own_block hown
      obtain ⟨A7', c7', e7, -, -, hI7⟩ := Dk.own_read hown
      rw [← hn7] at e7
      cases e7
      have HT7 := Lib.hid (HT4.out.below hb7)
      have HO7 := Lib.hid (HO4.out.below hb7 HO4.out.lt)
      have HB7 := Lib.hid (HB4.out.below hb7 HB4.out.lt)
      have HL7 := Lib.hid (HL4.out.trans (hb7.mono HL4.out.size))
      have hS : ((false = true) ∨ Blk w7 bm 53 X) ∧ Blk w7 b5 56 #[.int .u8 (x : Int), .int .i64 seg, .int .i64 n, .slice A m c, .int .i64 (keep 0), .int .i64 (keep 1), .int .i64 (keep 2), .int .i64 (keep 3)] := ⟨.inr HB7.out, HO7.out⟩
      have HI7 := Lib.hid hI7
      have HN7 := Lib.hid hn7
      clear hown hb7 HT4 HO4 HB4 HL4 hI7 hn7 hq7
      refine hK _ _ hS ?_
      clear hK K
      refine g_one (i := 8) rfl rfl (by kernel_rfl) fun K hK => ?_
      go_simp
      have HC := Lib.hid (rappend HT7.out.at_.ok HT7.out.rv HT7.out.lt seg HN7.out hc7 hm7 HI7.out)
      unfold rval at HC
      rw [← HX.out] at HC
      refine Calls.mono HC.out ?_
      rintro e w8 ⟨⟨v8, cl8, k8, rfl, hrv⟩, hb8⟩
      obtain ⟨X9, hX9⟩ : ∃ X9, X9 = rcells ((appD s seg (B.take 40)).2) v8 cl8 k8 := ⟨_, rfl⟩
      unfold rval
      rw [← hX9]
      have HX9 := Lib.hid hX9
      have hne5 : b5 ≠ bm := (HT7.out.sub b5 (.inl rfl)).2.2.2
      have hneu : (Value.slice A9 q c9).ownBlock ≠ some bm := fun e => (HT7.out.sub bm (.inr e)).2.2.2 rfl
      have HM : Hid (TM w (w8.setRow bm X9) (fun j => j = b5 ∨ (Value.slice A9 q c9).ownBlock = some j) F g s ((appD s seg (B.take 40)).2) bm v8 cl8 k8) := Lib.hid (by rw [hX9]; exact HT7.out.keep hb8 hrv)
      have HO9 : Hid (Blk (w8.setRow bm X9) b5 56 #[.int .u8 (x : Int), .int .i64 seg, .int .i64 n, .slice A m c, .int .i64 (keep 0), .int .i64 (keep 1), .int .i64 (keep 2), .int .i64 (keep 3)]) := Lib.hid ((HO7.out.below hb8 HO7.out.lt).rowFar hne5 X9)
      have HU9 : Hid ((w8.setRow bm X9).ownsRow base 5 1 (.slice A9 q c9) q (bs (B.take 40))) := Lib.hid (own_set HU.out (HL7.out.trans (hb8.mono HL7.out.size)) hneu X9)
      have HB8 := Lib.hid (HB7.out.below hb8 HB7.out.lt)
      have hS : ((false = true) ∨ Blk w8 bm 53 X) ∧ Blk w8 b5 56 #[.int .u8 (x : Int), .int .i64 seg, .int .i64 n, .slice A m c, .int .i64 (keep 0), .int .i64 (keep 1), .int .i64 (keep 2), .int .i64 (keep 3)] := ⟨.inr HB8.out, HO7.out.below hb8 HO7.out.lt⟩
      clear hX9 hne5 hneu hrv hb8 HC HT7 HO7 HB7 HL7
      refine hK _ _ hS ?_
      clear hK K
      refine g_take (i := 9) rfl rfl (by kernel_rfl) (by kernel_rfl) (by kernel_rfl) (by kernel_rfl) (by kernel_rfl) (fun _ _ _ h => h) hS (fun L W hL hW => by go_simp; rfl) ?_
      refine g_take (i := 10) rfl rfl (by kernel_rfl) (by kernel_rfl) (by kernel_rfl) (by kernel_rfl) (by kernel_rfl) (fun _ _ _ h => h) hS (fun L W hL hW => by go_simp; rfl) ?_
      refine g_take (i := 11) rfl rfl (by kernel_rfl) (by kernel_rfl) (by kernel_rfl) (by kernel_rfl) (by kernel_rfl) (fun _ _ _ h => h) hS (fun L W hL hW => by go_simp; rfl) ?_
      refine g_take (i := 12) rfl rfl (by kernel_rfl) (by kernel_rfl) (by kernel_rfl) (by kernel_rfl) (by kernel_rfl) (fun _ _ _ h => h) hS (fun L W hL hW => by go_simp; rfl) ?_
      refine g_one (i := 13) rfl rfl (by kernel_rfl) fun K hK => ?_
      have hst := run_cells_row (P := Try.prog) HB8.out (by rw [rx_size HX.out, rx_size HX9.out]) (rx_one HX9.out)
      have hsz := rx_size HX9.out
      go_simp
      clear hst hsz
      refine hK _ _ ⟨.inl rfl, HO9.out⟩ ?_
      clear hK K
      refine g_take (i := 14) rfl rfl (by kernel_rfl) (by kernel_rfl) (by kernel_rfl) (by kernel_rfl) (by kernel_rfl) (fun _ _ _ h => h) ⟨.inl rfl, HO9.out⟩ (fun L W hL hW => by go_simp; rfl) ?_
      refine wpAnyG_done (by kernel_rfl) ?_ _
      go_simp
      generalize w8.setRow bm X9 = w9 at *
      clear HB8 HX HX9
      obtain ⟨hn9, hc9, hm9, -⟩ := own_block HU9.out
      obtain ⟨A9', c9', e9, -, -, hI9⟩ := Dk.own_read HU9.out
      rw [← hn9] at e9
      cases e9
      have hF9 : B.take 40 ≠ [] → ∀ x o, A9 = some ⟨x, o, none⟩ → ¬ F x := fun _ x o e => (HM.out.sub x (.inr (by rw [e]; simp [Value.ownBlock]))).2.2.1
      have HI9 := Lib.hid hI9
      have HF9 := Lib.hid hF9
      have HN9 := Lib.hid hn9
      clear hI9 hF9 hn9
      have q1 := HO9.out.at_ 1 rfl
      go_wp2_with fail
      refine Calls.mono (Dk.append_any HM.out.at_ seg HN9.out hc9 hm9 HI9.out HF9.out) ?_
      rintro e w10 ⟨rfl, hn⟩
      have HMID := Lib.hid (StepMid.mk (HM.out.unmark (fun j hj => .inr hj)) hn HU9.out (appD s seg (B.take 40)).1)
      clear hn HM HU9 HO9
      go_wp2_with fail
      go_meet
      exact HMID.out
    · go_upto_region 11 with fail
      have HT4 := Lib.hid (HT3.out.below ((Below.refl _ w3).drew))
      have HO4 : Hid (Blk w3.drew b5 56 #[.int .u8 (x : Int), .int .i64 seg, .int .i64 n, .slice A m c, .int .i64 (keep 0), .int .i64 (keep 1), .int .i64 (keep 2), .int .i64 (keep 3)]) := Lib.hid HO3.out
      have HB4 : Hid (Blk w3.drew bm 53 X) := Lib.hid HBX.out
      have HL4 : Hid (Below w3.heap.size w3 w3.drew) := Lib.hid ((Below.refl _ w3).drew)
      refine wp_region_heldG [11] (fun cc W => (cc 11 = true ∨ Blk W bm 53 X) ∧ Blk W b5 56 #[.int .u8 (x : Int), .int .i64 seg, .int .i64 n, .slice A m c, .int .i64 (keep 0), .int .i64 (keep 1), .int .i64 (keep 2), .int .i64 (keep 3)]) (by kernel_rfl) ?_
      change wpAnyG _ _ _ _ _ _ 13 _ _ (World.drew _)
      have hS : ((false = true) ∨ Blk w3.drew bm 53 X) ∧ Blk w3.drew b5 56 #[.int .u8 (x : Int), .int .i64 seg, .int .i64 n, .slice A m c, .int .i64 (keep 0), .int .i64 (keep 1), .int .i64 (keep 2), .int .i64 (keep 3)] := ⟨.inr HBX.out, HO3.out⟩
      -- take0 take1 take2 take3 take4 take5 one6 take7 take8 take9 take10 one11 take12 done
      refine g_take (i := 0) rfl rfl (by kernel_rfl) (by kernel_rfl) (by kernel_rfl) (by kernel_rfl) (by kernel_rfl) (fun _ _ _ h => h) hS (fun L W hL hW => by go_simp; rfl) ?_
      refine g_take (i := 1) rfl rfl (by kernel_rfl) (by kernel_rfl) (by kernel_rfl) (by kernel_rfl) (by kernel_rfl) (fun _ _ _ h => h) hS (fun L W hL hW => by go_simp; rfl) ?_
      refine g_take (i := 2) rfl rfl (by kernel_rfl) (by kernel_rfl) (by kernel_rfl) (by kernel_rfl) (by kernel_rfl) (fun _ _ _ h => h) hS (fun L W hL hW => by go_simp; rfl) ?_
      refine g_take (i := 3) rfl rfl (by kernel_rfl) (by kernel_rfl) (by kernel_rfl) (by kernel_rfl) (by kernel_rfl) (fun _ _ _ h => h) hS (fun L W hL hW => run_load_row 53 (.tmp 54) rfl bm (by go_simp) 53 X _ _ (((hW.1.resolve_left (by simp [came, hL 11 (by kernel_rfl)]))).out) Try.underlying53 rfl (by rw [rx_size HX.out]; kernel_rfl)) ?_
      refine g_take (i := 4) rfl rfl (by kernel_rfl) (by kernel_rfl) (by kernel_rfl) (by kernel_rfl) (by kernel_rfl) (fun _ _ _ h => h) hS (fun L W hL hW => by go_simp; rfl) ?_
      refine g_take (i := 5) rfl rfl (by kernel_rfl) (by kernel_rfl) (by kernel_rfl) (by kernel_rfl) (by kernel_rfl) (fun _ _ _ h => h) hS (fun L W hL hW => by have q := hW.2; have p1 := q.at_ 1 rfl; go_simp; rfl) ?_
      refine g_one (i := 6) rfl rfl (by kernel_rfl) fun K hK => ?_
      go_simp
      have HC := Lib.hid (rsync HT4.out.at_.ok HT4.out.rv HT4.out.lt seg)
      unfold rval at HC
      rw [← HX.out] at HC
      refine Calls.mono HC.out ?_
      rintro e w8 ⟨⟨v8, cl8, k8, rfl, hrv⟩, hb8⟩
      obtain ⟨X9, hX9⟩ : ∃ X9, X9 = rcells ((syD s seg).2) v8 cl8 k8 := ⟨_, rfl⟩
      unfold rval
      rw [← hX9]
      have HX9 := Lib.hid hX9
      have hne5 : b5 ≠ bm := (HT4.out.sub b5 (.inl rfl)).2.2.2
      have hneu : (Value.slice A9 q c9).ownBlock ≠ some bm := fun e => (HT4.out.sub bm (.inr e)).2.2.2 rfl
      have HM : Hid (TM w (w8.setRow bm X9) (fun j => j = b5 ∨ (Value.slice A9 q c9).ownBlock = some j) F g s ((syD s seg).2) bm v8 cl8 k8) := Lib.hid (by rw [hX9]; exact HT4.out.keep hb8 hrv)
      have HO9 : Hid (Blk (w8.setRow bm X9) b5 56 #[.int .u8 (x : Int), .int .i64 seg, .int .i64 n, .slice A m c, .int .i64 (keep 0), .int .i64 (keep 1), .int .i64 (keep 2), .int .i64 (keep 3)]) := Lib.hid ((HO4.out.below hb8 HO4.out.lt).rowFar hne5 X9)
      have HU9 : Hid ((w8.setRow bm X9).ownsRow base 5 1 (.slice A9 q c9) q (bs (B.take 40))) := Lib.hid (own_set HU.out (HL4.out.trans (hb8.mono HL4.out.size)) hneu X9)
      have HB8 := Lib.hid (HB4.out.below hb8 HB4.out.lt)
      have hS : ((false = true) ∨ Blk w8 bm 53 X) ∧ Blk w8 b5 56 #[.int .u8 (x : Int), .int .i64 seg, .int .i64 n, .slice A m c, .int .i64 (keep 0), .int .i64 (keep 1), .int .i64 (keep 2), .int .i64 (keep 3)] := ⟨.inr HB8.out, HO4.out.below hb8 HO4.out.lt⟩
      clear hX9 hne5 hneu hrv hb8 HC HT4 HO4 HB4 HL4
      refine hK _ _ hS ?_
      clear hK K
      refine g_take (i := 7) rfl rfl (by kernel_rfl) (by kernel_rfl) (by kernel_rfl) (by kernel_rfl) (by kernel_rfl) (fun _ _ _ h => h) hS (fun L W hL hW => by go_simp; rfl) ?_
      refine g_take (i := 8) rfl rfl (by kernel_rfl) (by kernel_rfl) (by kernel_rfl) (by kernel_rfl) (by kernel_rfl) (fun _ _ _ h => h) hS (fun L W hL hW => by go_simp; rfl) ?_
      refine g_take (i := 9) rfl rfl (by kernel_rfl) (by kernel_rfl) (by kernel_rfl) (by kernel_rfl) (by kernel_rfl) (fun _ _ _ h => h) hS (fun L W hL hW => by go_simp; rfl) ?_
      refine g_take (i := 10) rfl rfl (by kernel_rfl) (by kernel_rfl) (by kernel_rfl) (by kernel_rfl) (by kernel_rfl) (fun _ _ _ h => h) hS (fun L W hL hW => by go_simp; rfl) ?_
      refine g_one (i := 11) rfl rfl (by kernel_rfl) fun K hK => ?_
      have hst := run_cells_row (P := Try.prog) HB8.out (by rw [rx_size HX.out, rx_size HX9.out]) (rx_one HX9.out)
      have hsz := rx_size HX9.out
      go_simp
      clear hst hsz
      refine hK _ _ ⟨.inl rfl, HO9.out⟩ ?_
      clear hK K
      refine g_take (i := 12) rfl rfl (by kernel_rfl) (by kernel_rfl) (by kernel_rfl) (by kernel_rfl) (by kernel_rfl) (fun _ _ _ h => h) ⟨.inl rfl, HO9.out⟩ (fun L W hL hW => by go_simp; rfl) ?_
      refine wpAnyG_done (by kernel_rfl) ?_ _
      go_simp
      generalize w8.setRow bm X9 = w9 at *
      clear HB8 HX HX9
      have q1 := HO9.out.at_ 1 rfl
      go_wp2_with fail
      refine Calls.mono (Dk.sync_any HM.out.at_ seg) ?_
      rintro e w10 ⟨rfl, hn⟩
      have HMID := Lib.hid (StepMid.mk (HM.out.unmark (fun j hj => .inr hj)) hn HU9.out (syD s seg).1)
      clear hn HM HU9 HO9
      go_wp2_with fail
      go_meet
      exact HMID.out
    · go_upto_region 14 with fail
      have HT4 := Lib.hid (HT3.out.below ((Below.refl _ w3).drew))
      have HO4 : Hid (Blk w3.drew b5 56 #[.int .u8 (x : Int), .int .i64 seg, .int .i64 n, .slice A m c, .int .i64 (keep 0), .int .i64 (keep 1), .int .i64 (keep 2), .int .i64 (keep 3)]) := Lib.hid HO3.out
      have HB4 : Hid (Blk w3.drew bm 53 X) := Lib.hid HBX.out
      have HL4 : Hid (Below w3.heap.size w3 w3.drew) := Lib.hid ((Below.refl _ w3).drew)
      refine wp_region_heldG [13] (fun cc W => (cc 13 = true ∨ Blk W bm 53 X) ∧ Blk W b5 56 #[.int .u8 (x : Int), .int .i64 seg, .int .i64 n, .slice A m c, .int .i64 (keep 0), .int .i64 (keep 1), .int .i64 (keep 2), .int .i64 (keep 3)]) (by kernel_rfl) ?_
      change wpAnyG _ _ _ _ _ _ 15 _ _ (World.drew _)
      have hS : ((false = true) ∨ Blk w3.drew bm 53 X) ∧ Blk w3.drew b5 56 #[.int .u8 (x : Int), .int .i64 seg, .int .i64 n, .slice A m c, .int .i64 (keep 0), .int .i64 (keep 1), .int .i64 (keep 2), .int .i64 (keep 3)] := ⟨.inr HBX.out, HO3.out⟩
      -- take0 take1 take2 take3 take4 take5 take6 take7 one8 take9 take10 take11 take12 one13 take14 done
      refine g_take (i := 0) rfl rfl (by kernel_rfl) (by kernel_rfl) (by kernel_rfl) (by kernel_rfl) (by kernel_rfl) (fun _ _ _ h => h) hS (fun L W hL hW => by go_simp; rfl) ?_
      refine g_take (i := 1) rfl rfl (by kernel_rfl) (by kernel_rfl) (by kernel_rfl) (by kernel_rfl) (by kernel_rfl) (fun _ _ _ h => h) hS (fun L W hL hW => by go_simp; rfl) ?_
      refine g_take (i := 2) rfl rfl (by kernel_rfl) (by kernel_rfl) (by kernel_rfl) (by kernel_rfl) (by kernel_rfl) (fun _ _ _ h => h) hS (fun L W hL hW => by go_simp; rfl) ?_
      refine g_take (i := 3) rfl rfl (by kernel_rfl) (by kernel_rfl) (by kernel_rfl) (by kernel_rfl) (by kernel_rfl) (fun _ _ _ h => h) hS (fun L W hL hW => run_load_row 53 (.tmp 71) rfl bm (by go_simp) 53 X _ _ (((hW.1.resolve_left (by simp [came, hL 13 (by kernel_rfl)]))).out) Try.underlying53 rfl (by rw [rx_size HX.out]; kernel_rfl)) ?_
      refine g_take (i := 4) rfl rfl (by kernel_rfl) (by kernel_rfl) (by kernel_rfl) (by kernel_rfl) (by kernel_rfl) (fun _ _ _ h => h) hS (fun L W hL hW => by go_simp; rfl) ?_
      refine g_take (i := 5) rfl rfl (by kernel_rfl) (by kernel_rfl) (by kernel_rfl) (by kernel_rfl) (by kernel_rfl) (fun _ _ _ h => h) hS (fun L W hL hW => by have q := hW.2; have p1 := q.at_ 1 rfl; have p2 := q.at_ 2 rfl; go_simp; rfl) ?_
      refine g_take (i := 6) rfl rfl (by kernel_rfl) (by kernel_rfl) (by kernel_rfl) (by kernel_rfl) (by kernel_rfl) (fun _ _ _ h => h) hS (fun L W hL hW => by go_simp; rfl) ?_
      refine g_take (i := 7) rfl rfl (by kernel_rfl) (by kernel_rfl) (by kernel_rfl) (by kernel_rfl) (by kernel_rfl) (fun _ _ _ h => h) hS (fun L W hL hW => by have q := hW.2; have p1 := q.at_ 1 rfl; have p2 := q.at_ 2 rfl; go_simp; rfl) ?_
      refine g_one (i := 8) rfl rfl (by kernel_rfl) fun K hK => ?_
      go_simp
      have HC := Lib.hid (rtrunc HT4.out.at_.ok HT4.out.rv HT4.out.lt seg n)
      unfold rval at HC
      rw [← HX.out] at HC
      refine Calls.mono HC.out ?_
      rintro e w8 ⟨⟨v8, cl8, k8, rfl, hrv⟩, hb8⟩
      obtain ⟨X9, hX9⟩ : ∃ X9, X9 = rcells ((trD s seg n).2) v8 cl8 k8 := ⟨_, rfl⟩
      unfold rval
      rw [← hX9]
      have HX9 := Lib.hid hX9
      have hne5 : b5 ≠ bm := (HT4.out.sub b5 (.inl rfl)).2.2.2
      have hneu : (Value.slice A9 q c9).ownBlock ≠ some bm := fun e => (HT4.out.sub bm (.inr e)).2.2.2 rfl
      have HM : Hid (TM w (w8.setRow bm X9) (fun j => j = b5 ∨ (Value.slice A9 q c9).ownBlock = some j) F g s ((trD s seg n).2) bm v8 cl8 k8) := Lib.hid (by rw [hX9]; exact HT4.out.keep hb8 hrv)
      have HO9 : Hid (Blk (w8.setRow bm X9) b5 56 #[.int .u8 (x : Int), .int .i64 seg, .int .i64 n, .slice A m c, .int .i64 (keep 0), .int .i64 (keep 1), .int .i64 (keep 2), .int .i64 (keep 3)]) := Lib.hid ((HO4.out.below hb8 HO4.out.lt).rowFar hne5 X9)
      have HU9 : Hid ((w8.setRow bm X9).ownsRow base 5 1 (.slice A9 q c9) q (bs (B.take 40))) := Lib.hid (own_set HU.out (HL4.out.trans (hb8.mono HL4.out.size)) hneu X9)
      have HB8 := Lib.hid (HB4.out.below hb8 HB4.out.lt)
      have hS : ((false = true) ∨ Blk w8 bm 53 X) ∧ Blk w8 b5 56 #[.int .u8 (x : Int), .int .i64 seg, .int .i64 n, .slice A m c, .int .i64 (keep 0), .int .i64 (keep 1), .int .i64 (keep 2), .int .i64 (keep 3)] := ⟨.inr HB8.out, HO4.out.below hb8 HO4.out.lt⟩
      clear hX9 hne5 hneu hrv hb8 HC HT4 HO4 HB4 HL4
      refine hK _ _ hS ?_
      clear hK K
      refine g_take (i := 9) rfl rfl (by kernel_rfl) (by kernel_rfl) (by kernel_rfl) (by kernel_rfl) (by kernel_rfl) (fun _ _ _ h => h) hS (fun L W hL hW => by go_simp; rfl) ?_
      refine g_take (i := 10) rfl rfl (by kernel_rfl) (by kernel_rfl) (by kernel_rfl) (by kernel_rfl) (by kernel_rfl) (fun _ _ _ h => h) hS (fun L W hL hW => by go_simp; rfl) ?_
      refine g_take (i := 11) rfl rfl (by kernel_rfl) (by kernel_rfl) (by kernel_rfl) (by kernel_rfl) (by kernel_rfl) (fun _ _ _ h => h) hS (fun L W hL hW => by go_simp; rfl) ?_
      refine g_take (i := 12) rfl rfl (by kernel_rfl) (by kernel_rfl) (by kernel_rfl) (by kernel_rfl) (by kernel_rfl) (fun _ _ _ h => h) hS (fun L W hL hW => by go_simp; rfl) ?_
      refine g_one (i := 13) rfl rfl (by kernel_rfl) fun K hK => ?_
      have hst := run_cells_row (P := Try.prog) HB8.out (by rw [rx_size HX.out, rx_size HX9.out]) (rx_one HX9.out)
      have hsz := rx_size HX9.out
      go_simp
      clear hst hsz
      refine hK _ _ ⟨.inl rfl, HO9.out⟩ ?_
      clear hK K
      refine g_take (i := 14) rfl rfl (by kernel_rfl) (by kernel_rfl) (by kernel_rfl) (by kernel_rfl) (by kernel_rfl) (fun _ _ _ h => h) ⟨.inl rfl, HO9.out⟩ (fun L W hL hW => by go_simp; rfl) ?_
      refine wpAnyG_done (by kernel_rfl) ?_ _
      go_simp
      generalize w8.setRow bm X9 = w9 at *
      clear HB8 HX HX9
      have q1 := HO9.out.at_ 1 rfl
      have q2 := HO9.out.at_ 2 rfl
      go_wp2_with fail
      refine Calls.mono (Dk.trunc_any HM.out.at_ seg n) ?_
      rintro e w10 ⟨rfl, hn⟩
      have HMID := Lib.hid (StepMid.mk (HM.out.unmark (fun j hj => .inr hj)) hn HU9.out (trD s seg n).1)
      clear hn HM HU9 HO9
      go_wp2_with fail
      go_meet
      exact HMID.out
    · go_upto_region 17 with fail
      have HT4 := Lib.hid (HT3.out.below ((Below.refl _ w3).drew))
      have HO4 : Hid (Blk w3.drew b5 56 #[.int .u8 (x : Int), .int .i64 seg, .int .i64 n, .slice A m c, .int .i64 (keep 0), .int .i64 (keep 1), .int .i64 (keep 2), .int .i64 (keep 3)]) := Lib.hid HO3.out
      have HB4 : Hid (Blk w3.drew bm 53 X) := Lib.hid HBX.out
      have HL4 : Hid (Below w3.heap.size w3 w3.drew) := Lib.hid ((Below.refl _ w3).drew)
      refine wp_region_heldG [13] (fun cc W => (cc 13 = true ∨ Blk W bm 53 X) ∧ Blk W b5 56 #[.int .u8 (x : Int), .int .i64 seg, .int .i64 n, .slice A m c, .int .i64 (keep 0), .int .i64 (keep 1), .int .i64 (keep 2), .int .i64 (keep 3)]) (by kernel_rfl) ?_
      change wpAnyG _ _ _ _ _ _ 15 _ _ (World.drew _)
      have hS : ((false = true) ∨ Blk w3.drew bm 53 X) ∧ Blk w3.drew b5 56 #[.int .u8 (x : Int), .int .i64 seg, .int .i64 n, .slice A m c, .int .i64 (keep 0), .int .i64 (keep 1), .int .i64 (keep 2), .int .i64 (keep 3)] := ⟨.inr HBX.out, HO3.out⟩
      -- take0 take1 take2 take3 take4 take5 take6 one7 one8 take9 take10 take11 take12 one13 take14 done
      refine g_take (i := 0) rfl rfl (by kernel_rfl) (by kernel_rfl) (by kernel_rfl) (by kernel_rfl) (by kernel_rfl) (fun _ _ _ h => h) hS (fun L W hL hW => by go_simp; rfl) ?_
      refine g_take (i := 1) rfl rfl (by kernel_rfl) (by kernel_rfl) (by kernel_rfl) (by kernel_rfl) (by kernel_rfl) (fun _ _ _ h => h) hS (fun L W hL hW => by go_simp; rfl) ?_
      refine g_take (i := 2) rfl rfl (by kernel_rfl) (by kernel_rfl) (by kernel_rfl) (by kernel_rfl) (by kernel_rfl) (fun _ _ _ h => h) hS (fun L W hL hW => by go_simp; rfl) ?_
      refine g_take (i := 3) rfl rfl (by kernel_rfl) (by kernel_rfl) (by kernel_rfl) (by kernel_rfl) (by kernel_rfl) (fun _ _ _ h => h) hS (fun L W hL hW => run_load_row 53 (.tmp 92) rfl bm (by go_simp) 53 X _ _ (((hW.1.resolve_left (by simp [came, hL 13 (by kernel_rfl)]))).out) Try.underlying53 rfl (by rw [rx_size HX.out]; kernel_rfl)) ?_
      refine g_take (i := 4) rfl rfl (by kernel_rfl) (by kernel_rfl) (by kernel_rfl) (by kernel_rfl) (by kernel_rfl) (fun _ _ _ h => h) hS (fun L W hL hW => by go_simp; rfl) ?_
      refine g_take (i := 5) rfl rfl (by kernel_rfl) (by kernel_rfl) (by kernel_rfl) (by kernel_rfl) (by kernel_rfl) (fun _ _ _ h => h) hS (fun L W hL hW => by have q := hW.2; have p1 := q.at_ 1 rfl; go_simp; rfl) ?_
      refine g_take (i := 6) rfl rfl (by kernel_rfl) (by kernel_rfl) (by kernel_rfl) (by kernel_rfl) (by kernel_rfl) (fun _ _ _ h => h) hS (fun L W hL hW => run_load_row 56 (.tmp 5) rfl b5 (by go_simp) 56 #[.int .u8 (x : Int), .int .i64 seg, .int .i64 n, .slice A m c, .int .i64 (keep 0), .int .i64 (keep 1), .int .i64 (keep 2), .int .i64 (keep 3)] _ _ (hW.2.out) Try.underlying56 rfl (by rw [show (#[.int .u8 (x : Int), .int .i64 seg, .int .i64 n, .slice A m c, .int .i64 (keep 0), .int .i64 (keep 1), .int .i64 (keep 2), .int .i64 (keep 3)] : Array Value).size = 8 from rfl]; kernel_rfl)) ?_
      refine g_one (i := 7) rfl rfl (by kernel_rfl) fun K hK => ?_
      go_simp
      refine Calls.mono (HBY.out _ HT4.out.low) ?_
      rintro e w7 ⟨u7, rfl, hown, hb7⟩
      generalize hq7 : (B.take 40).length = q7 at hown
      obtain ⟨A7, c7, hu7⟩ := own_form hown
      subst hu7
      obtain ⟨hn7, hc7, hm7, -⟩ := own_block hown
      obtain ⟨A7', c7', e7, -, -, hI7⟩ := Dk.own_read hown
      rw [← hn7] at e7
      cases e7
      have HT7 := Lib.hid (HT4.out.below hb7)
      have HO7 := Lib.hid (HO4.out.below hb7 HO4.out.lt)
      have HB7 := Lib.hid (HB4.out.below hb7 HB4.out.lt)
      have HL7 := Lib.hid (HL4.out.trans (hb7.mono HL4.out.size))
      have hS : ((false = true) ∨ Blk w7 bm 53 X) ∧ Blk w7 b5 56 #[.int .u8 (x : Int), .int .i64 seg, .int .i64 n, .slice A m c, .int .i64 (keep 0), .int .i64 (keep 1), .int .i64 (keep 2), .int .i64 (keep 3)] := ⟨.inr HB7.out, HO7.out⟩
      have HI7 := Lib.hid hI7
      have HN7 := Lib.hid hn7
      clear hown hb7 HT4 HO4 HB4 HL4 hI7 hn7 hq7
      refine hK _ _ hS ?_
      clear hK K
      refine g_one (i := 8) rfl rfl (by kernel_rfl) fun K hK => ?_
      go_simp
      have HC := Lib.hid (rwrite (c := c7) HT7.out.at_.ok HT7.out.rv HT7.out.lt seg HN7.out HI7.out)
      unfold rval at HC
      rw [← HX.out] at HC
      refine Calls.mono HC.out ?_
      rintro e w8 ⟨⟨v8, cl8, k8, rfl, hrv⟩, hb8⟩
      obtain ⟨X9, hX9⟩ : ∃ X9, X9 = rcells ((wrD s seg (B.take 40)).2) v8 cl8 k8 := ⟨_, rfl⟩
      unfold rval
      rw [← hX9]
      have HX9 := Lib.hid hX9
      have hne5 : b5 ≠ bm := (HT7.out.sub b5 (.inl rfl)).2.2.2
      have hneu : (Value.slice A9 q c9).ownBlock ≠ some bm := fun e => (HT7.out.sub bm (.inr e)).2.2.2 rfl
      have HM : Hid (TM w (w8.setRow bm X9) (fun j => j = b5 ∨ (Value.slice A9 q c9).ownBlock = some j) F g s ((wrD s seg (B.take 40)).2) bm v8 cl8 k8) := Lib.hid (by rw [hX9]; exact HT7.out.keep hb8 hrv)
      have HO9 : Hid (Blk (w8.setRow bm X9) b5 56 #[.int .u8 (x : Int), .int .i64 seg, .int .i64 n, .slice A m c, .int .i64 (keep 0), .int .i64 (keep 1), .int .i64 (keep 2), .int .i64 (keep 3)]) := Lib.hid ((HO7.out.below hb8 HO7.out.lt).rowFar hne5 X9)
      have HU9 : Hid ((w8.setRow bm X9).ownsRow base 5 1 (.slice A9 q c9) q (bs (B.take 40))) := Lib.hid (own_set HU.out (HL7.out.trans (hb8.mono HL7.out.size)) hneu X9)
      have HB8 := Lib.hid (HB7.out.below hb8 HB7.out.lt)
      have hS : ((false = true) ∨ Blk w8 bm 53 X) ∧ Blk w8 b5 56 #[.int .u8 (x : Int), .int .i64 seg, .int .i64 n, .slice A m c, .int .i64 (keep 0), .int .i64 (keep 1), .int .i64 (keep 2), .int .i64 (keep 3)] := ⟨.inr HB8.out, HO7.out.below hb8 HO7.out.lt⟩
      clear hX9 hne5 hneu hrv hb8 HC HT7 HO7 HB7 HL7
      refine hK _ _ hS ?_
      clear hK K
      refine g_take (i := 9) rfl rfl (by kernel_rfl) (by kernel_rfl) (by kernel_rfl) (by kernel_rfl) (by kernel_rfl) (fun _ _ _ h => h) hS (fun L W hL hW => by go_simp; rfl) ?_
      refine g_take (i := 10) rfl rfl (by kernel_rfl) (by kernel_rfl) (by kernel_rfl) (by kernel_rfl) (by kernel_rfl) (fun _ _ _ h => h) hS (fun L W hL hW => by go_simp; rfl) ?_
      refine g_take (i := 11) rfl rfl (by kernel_rfl) (by kernel_rfl) (by kernel_rfl) (by kernel_rfl) (by kernel_rfl) (fun _ _ _ h => h) hS (fun L W hL hW => by go_simp; rfl) ?_
      refine g_take (i := 12) rfl rfl (by kernel_rfl) (by kernel_rfl) (by kernel_rfl) (by kernel_rfl) (by kernel_rfl) (fun _ _ _ h => h) hS (fun L W hL hW => by go_simp; rfl) ?_
      refine g_one (i := 13) rfl rfl (by kernel_rfl) fun K hK => ?_
      have hst := run_cells_row (P := Try.prog) HB8.out (by rw [rx_size HX.out, rx_size HX9.out]) (rx_one HX9.out)
      have hsz := rx_size HX9.out
      go_simp
      clear hst hsz
      refine hK _ _ ⟨.inl rfl, HO9.out⟩ ?_
      clear hK K
      refine g_take (i := 14) rfl rfl (by kernel_rfl) (by kernel_rfl) (by kernel_rfl) (by kernel_rfl) (by kernel_rfl) (fun _ _ _ h => h) ⟨.inl rfl, HO9.out⟩ (fun L W hL hW => by go_simp; rfl) ?_
      refine wpAnyG_done (by kernel_rfl) ?_ _
      go_simp
      generalize w8.setRow bm X9 = w9 at *
      clear HB8 HX HX9
      obtain ⟨hn9, hc9, hm9, -⟩ := own_block HU9.out
      obtain ⟨A9', c9', e9, -, -, hI9⟩ := Dk.own_read HU9.out
      rw [← hn9] at e9
      cases e9
      have hF9 : B.take 40 ≠ [] → ∀ x o, A9 = some ⟨x, o, none⟩ → ¬ F x := fun _ x o e => (HM.out.sub x (.inr (by rw [e]; simp [Value.ownBlock]))).2.2.1
      have HI9 := Lib.hid hI9
      have HF9 := Lib.hid hF9
      have HN9 := Lib.hid hn9
      clear hI9 hF9 hn9
      have q1 := HO9.out.at_ 1 rfl
      go_wp2_with fail
      refine Calls.mono (Dk.write_any HM.out.at_ seg HN9.out HI9.out HF9.out) ?_
      rintro e w10 ⟨rfl, hn⟩
      have HMID := Lib.hid (StepMid.mk (HM.out.unmark (fun j hj => .inr hj)) hn HU9.out (wrD s seg (B.take 40)).1)
      clear hn HM HU9 HO9
      go_wp2_with fail
      go_meet
      exact HMID.out
    · have HT4 := HT3
      have HO4 := HO3
      have HB4 := HBX
      have HL4 : Hid (Below w3.heap.size w3 w3) := Lib.hid (Below.refl _ w3)
      clear HT3 HO3 HBX
      go_wp2_with (refine wpList_load_row rfl 53 (.tmp 112) rfl bm rfl 53 X _ _ HB4.out.out Try.underlying53 rfl (by rw [rx_size HX.out]; kernel_rfl) ?_)
      have HC := Lib.hid (rsyncHead HT4.out.at_.ok HT4.out.rv HT4.out.lt)
      unfold rval at HC
      rw [← HX.out] at HC
      refine Calls.mono HC.out ?_
      rintro e w8 ⟨⟨v8, cl8, k8, rfl, hrv⟩, hb8⟩
      obtain ⟨X9, hX9⟩ : ∃ X9, X9 = rcells ((shD s).2) v8 cl8 k8 := ⟨_, rfl⟩
      unfold rval
      rw [← hX9]
      have HX9 := Lib.hid hX9
      have hne5 : b5 ≠ bm := (HT4.out.sub b5 (.inl rfl)).2.2.2
      have hneu : (Value.slice A9 q c9).ownBlock ≠ some bm := fun e => (HT4.out.sub bm (.inr e)).2.2.2 rfl
      have HM : Hid (TM w (w8.setRow bm X9) (fun j => j = b5 ∨ (Value.slice A9 q c9).ownBlock = some j) F g s ((shD s).2) bm v8 cl8 k8) := Lib.hid (by rw [hX9]; exact HT4.out.keep hb8 hrv)
      have HO9 : Hid (Blk (w8.setRow bm X9) b5 56 #[.int .u8 (x : Int), .int .i64 seg, .int .i64 n, .slice A m c, .int .i64 (keep 0), .int .i64 (keep 1), .int .i64 (keep 2), .int .i64 (keep 3)]) := Lib.hid ((HO4.out.below hb8 HO4.out.lt).rowFar hne5 X9)
      have HU9 : Hid ((w8.setRow bm X9).ownsRow base 5 1 (.slice A9 q c9) q (bs (B.take 40))) := Lib.hid (own_set HU.out (HL4.out.trans (hb8.mono HL4.out.size)) hneu X9)
      have HB8 := Lib.hid (HB4.out.below hb8 HB4.out.lt)
      clear hX9 hne5 hneu hrv hb8 HC HT4 HO4 HB4 HL4
      go_upto_region 21 with (refine wpList_put_row rfl rfl 53 (.tmp 117) _ rfl bm rfl 53 X X9 rfl HB8.out (by rw [rx_size HX9.out]; kernel_rfl) (by rw [rx_size HX.out, rx_size HX9.out]) (rx_one HX9.out) ?_)
      generalize w8.setRow bm X9 = w9 at *
      clear HB8 HX HX9
      go_wp2_with fail
      refine Calls.mono (Dk.syncHead_any HM.out.at_) ?_
      rintro e w10 ⟨rfl, hn⟩
      have HMID := Lib.hid (StepMid.mk (HM.out.unmark (fun j hj => .inr hj)) hn HU9.out (shD s).1)
      clear hn HM HU9 HO9
      go_wp2_with fail
      go_meet
      exact HMID.out
    · go_upto_region 23 with fail
      have HT4 := Lib.hid (HT3.out.below ((Below.refl _ w3).drew))
      have HO4 : Hid (Blk w3.drew b5 56 #[.int .u8 (x : Int), .int .i64 seg, .int .i64 n, .slice A m c, .int .i64 (keep 0), .int .i64 (keep 1), .int .i64 (keep 2), .int .i64 (keep 3)]) := Lib.hid HO3.out
      have HB4 : Hid (Blk w3.drew bm 53 X) := Lib.hid HBX.out
      have HL4 : Hid (Below w3.heap.size w3 w3.drew) := Lib.hid ((Below.refl _ w3).drew)
      refine wp_region_heldG [10] (fun cc W => (cc 10 = true ∨ Blk W bm 53 X) ∧ Blk W b5 56 #[.int .u8 (x : Int), .int .i64 seg, .int .i64 n, .slice A m c, .int .i64 (keep 0), .int .i64 (keep 1), .int .i64 (keep 2), .int .i64 (keep 3)]) (by kernel_rfl) ?_
      change wpAnyG _ _ _ _ _ _ 11 _ _ (World.drew _)
      have hS : ((false = true) ∨ Blk w3.drew bm 53 X) ∧ Blk w3.drew b5 56 #[.int .u8 (x : Int), .int .i64 seg, .int .i64 n, .slice A m c, .int .i64 (keep 0), .int .i64 (keep 1), .int .i64 (keep 2), .int .i64 (keep 3)] := ⟨.inr HBX.out, HO3.out⟩
      -- take0 take1 take2 take3 take4 take5 take6 take7 one8 take9 one10 done
      refine g_take (i := 0) rfl rfl (by kernel_rfl) (by kernel_rfl) (by kernel_rfl) (by kernel_rfl) (by kernel_rfl) (fun _ _ _ h => h) hS (fun L W hL hW => by go_simp; rfl) ?_
      refine g_take (i := 1) rfl rfl (by kernel_rfl) (by kernel_rfl) (by kernel_rfl) (by kernel_rfl) (by kernel_rfl) (fun _ _ _ h => h) hS (fun L W hL hW => by go_simp; rfl) ?_
      refine g_take (i := 2) rfl rfl (by kernel_rfl) (by kernel_rfl) (by kernel_rfl) (by kernel_rfl) (by kernel_rfl) (fun _ _ _ h => h) hS (fun L W hL hW => by go_simp; rfl) ?_
      refine g_take (i := 3) rfl rfl (by kernel_rfl) (by kernel_rfl) (by kernel_rfl) (by kernel_rfl) (by kernel_rfl) (fun _ _ _ h => h) hS (fun L W hL hW => run_load_row 53 (.tmp 124) rfl bm (by go_simp) 53 X _ _ (((hW.1.resolve_left (by simp [came, hL 10 (by kernel_rfl)]))).out) Try.underlying53 rfl (by rw [rx_size HX.out]; kernel_rfl)) ?_
      refine g_take (i := 4) rfl rfl (by kernel_rfl) (by kernel_rfl) (by kernel_rfl) (by kernel_rfl) (by kernel_rfl) (fun _ _ _ h => h) hS (fun L W hL hW => by go_simp; rfl) ?_
      refine g_take (i := 5) rfl rfl (by kernel_rfl) (by kernel_rfl) (by kernel_rfl) (by kernel_rfl) (by kernel_rfl) (fun _ _ _ h => h) hS (fun L W hL hW => by have q := hW.2; have p1 := q.at_ 1 rfl; have p2 := q.at_ 2 rfl; go_simp; rfl) ?_
      refine g_take (i := 6) rfl rfl (by kernel_rfl) (by kernel_rfl) (by kernel_rfl) (by kernel_rfl) (by kernel_rfl) (fun _ _ _ h => h) hS (fun L W hL hW => by go_simp; rfl) ?_
      refine g_take (i := 7) rfl rfl (by kernel_rfl) (by kernel_rfl) (by kernel_rfl) (by kernel_rfl) (by kernel_rfl) (fun _ _ _ h => h) hS (fun L W hL hW => by have q := hW.2; have p1 := q.at_ 1 rfl; have p2 := q.at_ 2 rfl; go_simp; rfl) ?_
      refine g_one (i := 8) rfl rfl (by kernel_rfl) fun K hK => ?_
      go_simp
      have HC := Lib.hid (rfuse HT4.out.rv HT4.out.lt n seg)
      unfold rval at HC
      rw [← HX.out] at HC
      refine Calls.mono HC.out ?_
      rintro e w8 ⟨⟨v8, cl8, k8, rfl, hrv⟩, hb8⟩
      obtain ⟨X9, hX9⟩ : ∃ X9, X9 = rcells (fuseD n seg s) v8 cl8 k8 := ⟨_, rfl⟩
      unfold rval
      rw [← hX9]
      have HX9 := Lib.hid hX9
      have hne5 : b5 ≠ bm := (HT4.out.sub b5 (.inl rfl)).2.2.2
      have hneu : (Value.slice A9 q c9).ownBlock ≠ some bm := fun e => (HT4.out.sub bm (.inr e)).2.2.2 rfl
      have HM : Hid (TM w (w8.setRow bm X9) (fun j => j = b5 ∨ (Value.slice A9 q c9).ownBlock = some j) F g s (fuseD n seg s) bm v8 cl8 k8) := Lib.hid (by rw [hX9]; exact HT4.out.keep hb8 hrv)
      have HO9 : Hid (Blk (w8.setRow bm X9) b5 56 #[.int .u8 (x : Int), .int .i64 seg, .int .i64 n, .slice A m c, .int .i64 (keep 0), .int .i64 (keep 1), .int .i64 (keep 2), .int .i64 (keep 3)]) := Lib.hid ((HO4.out.below hb8 HO4.out.lt).rowFar hne5 X9)
      have HU9 : Hid ((w8.setRow bm X9).ownsRow base 5 1 (.slice A9 q c9) q (bs (B.take 40))) := Lib.hid (own_set HU.out (HL4.out.trans (hb8.mono HL4.out.size)) hneu X9)
      have HB8 := Lib.hid (HB4.out.below hb8 HB4.out.lt)
      have hS : ((false = true) ∨ Blk w8 bm 53 X) ∧ Blk w8 b5 56 #[.int .u8 (x : Int), .int .i64 seg, .int .i64 n, .slice A m c, .int .i64 (keep 0), .int .i64 (keep 1), .int .i64 (keep 2), .int .i64 (keep 3)] := ⟨.inr HB8.out, HO4.out.below hb8 HO4.out.lt⟩
      clear hX9 hne5 hneu hrv hb8 HC HT4 HO4 HB4 HL4
      refine hK _ _ hS ?_
      clear hK K
      refine g_take (i := 9) rfl rfl (by kernel_rfl) (by kernel_rfl) (by kernel_rfl) (by kernel_rfl) (by kernel_rfl) (fun _ _ _ h => h) hS (fun L W hL hW => by go_simp; rfl) ?_
      refine g_one (i := 10) rfl rfl (by kernel_rfl) fun K hK => ?_
      have hst := run_cells_row (P := Try.prog) HB8.out (by rw [rx_size HX.out, rx_size HX9.out]) (rx_one HX9.out)
      have hsz := rx_size HX9.out
      go_simp
      clear hst hsz
      refine hK _ _ ⟨.inl rfl, HO9.out⟩ ?_
      clear hK K
      refine wpAnyG_done (by kernel_rfl) ?_ _
      go_simp
      generalize w8.setRow bm X9 = w9 at *
      clear HB8 HX HX9
      have q1 := HO9.out.at_ 1 rfl
      have q2 := HO9.out.at_ 2 rfl
      go_wp2_with fail
      refine Calls.mono (Dk.fuse_any HM.out.at_ n seg hnb.2 hsb.2) ?_
      rintro e w10 ⟨⟨vv, rfl⟩, hn⟩
      have HMID := Lib.hid (StepMid.mk (HM.out.unmark (fun j hj => .inr hj)) hn HU9.out 0)
      clear hn HM HU9 HO9
      go_wp2_with fail
      go_meet
      exact HMID.out
    · go_upto_region 4 with fail
      have HT4 := Lib.hid (HT3.out.below ((Below.refl _ w3).drew))
      have HO4 : Hid (Blk w3.drew b5 56 #[.int .u8 (x : Int), .int .i64 seg, .int .i64 n, .slice A m c, .int .i64 (keep 0), .int .i64 (keep 1), .int .i64 (keep 2), .int .i64 (keep 3)]) := Lib.hid HO3.out
      have HB4 : Hid (Blk w3.drew bm 53 X) := Lib.hid HBX.out
      have HL4 : Hid (Below w3.heap.size w3 w3.drew) := Lib.hid ((Below.refl _ w3).drew)
      refine wp_region_heldG [8] (fun cc W => (cc 8 = true ∨ Blk W bm 53 X) ∧ Blk W b5 56 #[.int .u8 (x : Int), .int .i64 seg, .int .i64 n, .slice A m c, .int .i64 (keep 0), .int .i64 (keep 1), .int .i64 (keep 2), .int .i64 (keep 3)]) (by kernel_rfl) ?_
      change wpAnyG _ _ _ _ _ _ 9 _ _ (World.drew _)
      have hS : ((false = true) ∨ Blk w3.drew bm 53 X) ∧ Blk w3.drew b5 56 #[.int .u8 (x : Int), .int .i64 seg, .int .i64 n, .slice A m c, .int .i64 (keep 0), .int .i64 (keep 1), .int .i64 (keep 2), .int .i64 (keep 3)] := ⟨.inr HBX.out, HO3.out⟩
      -- take0 take1 take2 take3 take4 take5 one6 take7 one8 done
      refine g_take (i := 0) rfl rfl (by kernel_rfl) (by kernel_rfl) (by kernel_rfl) (by kernel_rfl) (by kernel_rfl) (fun _ _ _ h => h) hS (fun L W hL hW => by go_simp; rfl) ?_
      refine g_take (i := 1) rfl rfl (by kernel_rfl) (by kernel_rfl) (by kernel_rfl) (by kernel_rfl) (by kernel_rfl) (fun _ _ _ h => h) hS (fun L W hL hW => by go_simp; rfl) ?_
      refine g_take (i := 2) rfl rfl (by kernel_rfl) (by kernel_rfl) (by kernel_rfl) (by kernel_rfl) (by kernel_rfl) (fun _ _ _ h => h) hS (fun L W hL hW => by go_simp; rfl) ?_
      refine g_take (i := 3) rfl rfl (by kernel_rfl) (by kernel_rfl) (by kernel_rfl) (by kernel_rfl) (by kernel_rfl) (fun _ _ _ h => h) hS (fun L W hL hW => run_load_row 53 (.tmp 18) rfl bm (by go_simp) 53 X _ _ (((hW.1.resolve_left (by simp [came, hL 8 (by kernel_rfl)]))).out) Try.underlying53 rfl (by rw [rx_size HX.out]; kernel_rfl)) ?_
      refine g_take (i := 4) rfl rfl (by kernel_rfl) (by kernel_rfl) (by kernel_rfl) (by kernel_rfl) (by kernel_rfl) (fun _ _ _ h => h) hS (fun L W hL hW => by go_simp; rfl) ?_
      refine g_take (i := 5) rfl rfl (by kernel_rfl) (by kernel_rfl) (by kernel_rfl) (by kernel_rfl) (by kernel_rfl) (fun _ _ _ h => h) hS (fun L W hL hW => by have q := hW.2; have p4 := q.at_ 4 rfl; have p5 := q.at_ 5 rfl; have p6 := q.at_ 6 rfl; have p7 := q.at_ 7 rfl; go_simp; rfl) ?_
      refine g_one (i := 6) rfl rfl (by kernel_rfl) fun K hK => ?_
      go_simp
      have HC := Lib.hid (rcrash HT4.out.at_.ok HT4.out.rv HT4.out.lt keep HKP.out)
      unfold rval at HC
      rw [← HX.out] at HC
      refine Calls.mono HC.out ?_
      rintro e w8 ⟨⟨v8, cl8, k8, rfl, hrv⟩, hb8⟩
      obtain ⟨X9, hX9⟩ : ∃ X9, X9 = rcells (crashD keep s) v8 cl8 k8 := ⟨_, rfl⟩
      unfold rval
      rw [← hX9]
      have HX9 := Lib.hid hX9
      have hne5 : b5 ≠ bm := (HT4.out.sub b5 (.inl rfl)).2.2.2
      have hneu : (Value.slice A9 q c9).ownBlock ≠ some bm := fun e => (HT4.out.sub bm (.inr e)).2.2.2 rfl
      have HM : Hid (TM w (w8.setRow bm X9) (fun j => j = b5 ∨ (Value.slice A9 q c9).ownBlock = some j) F g s (crashD keep s) bm v8 cl8 k8) := Lib.hid (by rw [hX9]; exact HT4.out.keep hb8 hrv)
      have HO9 : Hid (Blk (w8.setRow bm X9) b5 56 #[.int .u8 (x : Int), .int .i64 seg, .int .i64 n, .slice A m c, .int .i64 (keep 0), .int .i64 (keep 1), .int .i64 (keep 2), .int .i64 (keep 3)]) := Lib.hid ((HO4.out.below hb8 HO4.out.lt).rowFar hne5 X9)
      have HU9 : Hid ((w8.setRow bm X9).ownsRow base 5 1 (.slice A9 q c9) q (bs (B.take 40))) := Lib.hid (own_set HU.out (HL4.out.trans (hb8.mono HL4.out.size)) hneu X9)
      have HB8 := Lib.hid (HB4.out.below hb8 HB4.out.lt)
      have hS : ((false = true) ∨ Blk w8 bm 53 X) ∧ Blk w8 b5 56 #[.int .u8 (x : Int), .int .i64 seg, .int .i64 n, .slice A m c, .int .i64 (keep 0), .int .i64 (keep 1), .int .i64 (keep 2), .int .i64 (keep 3)] := ⟨.inr HB8.out, HO4.out.below hb8 HO4.out.lt⟩
      clear hX9 hne5 hneu hrv hb8 HC HT4 HO4 HB4 HL4
      refine hK _ _ hS ?_
      clear hK K
      refine g_take (i := 7) rfl rfl (by kernel_rfl) (by kernel_rfl) (by kernel_rfl) (by kernel_rfl) (by kernel_rfl) (fun _ _ _ h => h) hS (fun L W hL hW => by go_simp; rfl) ?_
      refine g_one (i := 8) rfl rfl (by kernel_rfl) fun K hK => ?_
      have hst := run_cells_row (P := Try.prog) HB8.out (by rw [rx_size HX.out, rx_size HX9.out]) (rx_one HX9.out)
      have hsz := rx_size HX9.out
      go_simp
      clear hst hsz
      refine hK _ _ ⟨.inl rfl, HO9.out⟩ ?_
      clear hK K
      refine wpAnyG_done (by kernel_rfl) ?_ _
      go_simp
      generalize w8.setRow bm X9 = w9 at *
      clear HB8 HX HX9
      have q4 := HO9.out.at_ 4 rfl
      have q5 := HO9.out.at_ 5 rfl
      have q6 := HO9.out.at_ 6 rfl
      have q7 := HO9.out.at_ 7 rfl
      go_wp2_with fail
      refine Calls.mono (Dk.crash_any HM.out.at_ keep HKP.out) ?_
      rintro e w10 ⟨⟨vv, rfl⟩, hn⟩
      have HMID := Lib.hid (StepMid.mk (HM.out.unmark (fun j hj => .inr hj)) hn HU9.out 0)
      clear hn HM HU9 HO9
      go_wp2_with fail
      go_meet
      exact HMID.out
  case rest =>
    obtain ⟨code, rfl, rfl, hT2, hU2⟩ := hcut
    have HS2 := Lib.hid (And.intro hT2 hU2)
    clear hT2 hU2 HU HT3 HO3 HBY HKP q0 hr1 hr2
    go_wp2_with fail
    go_loopw [140] (fun i wr => ∃ j : Nat, j ≤ q ∧ i = .int .i64 j ∧ Hid ((∃ F s v cl k, TD w wr (fun j => (Value.slice A9 q c9).ownBlock = some j) F g s bm v cl k) ∧ ∃ l, wr.ownsRow base 5 1 (.slice A9 q c9) q (bs l))) (fun i _ => q - (intOf i).toNat)
    case atStart => exact ⟨0, Nat.zero_le _, rfl, HS2⟩
    case round =>
      obtain ⟨j, hj, rfl, HS⟩ := hrel
      clear HS2
      by_cases hlt : j < q
      · obtain ⟨⟨F3, s3, v3, cl3, k3, hT⟩, l3, hU⟩ := HS.out
        obtain ⟨hl3, hc3, hm3, hblk⟩ := own_block hU
        rcases hblk with ⟨-, -, h0, -⟩ | ⟨g9, rfl, -, -⟩
        · omega
        have hjl : j < l3.length := by omega
        have qa := hU.cellAt j (by omega)
        rw [List.getElem?_eq_getElem (by rw [bs_length]; exact hjl), bs_get] at qa
        have qf := hU.frozenAt j
        have hst := (hU.stored j (.int .u8 ((l3[j] + 1).toNat : Nat))).1
        rw [bs_set] at hst
        have HN : Hid ((∃ F s v cl k, TD w (wr.setCell ⟨g9, j, none⟩ (.int .u8 ((l3[j] + 1).toNat : Nat))) (fun j => (Value.slice (some ⟨g9, 0, none⟩) q c9).ownBlock = some j) F g s bm v cl k) ∧ ∃ l, (wr.setCell ⟨g9, j, none⟩ (.int .u8 ((l3[j] + 1).toNat : Nat))).ownsRow base 5 1 (.slice (some ⟨g9, 0, none⟩) q c9) q (bs l)) :=
          Lib.hid ⟨⟨F3, s3, v3, cl3, k3, hT.own (Fr.setCell (p := ⟨g9, j, none⟩) (Fr.refl _ _) (.inl (by simp [Value.ownBlock])) _)⟩, _, hst⟩
        have hw := u8_succ l3[j]
        have i1 : (0 : Int) ≤ (j : Int) := by omega
        have i2 : (j : Int) < (q : Int) := by omega
        generalize l3[j] + 1 = y1 at *
        generalize l3[j] = y at *
        clear hT hU hst HS hl3 hjl
        go_wp2_with fail
        go_roundw
        case rel => exact ⟨j + 1, by omega, by go_num, HN⟩
        case measure => simp [intOf]; omega
      · have hjq : j = q := by omega
        subst hjq
        obtain ⟨⟨F3, s3, v3, cl3, k3, hT⟩, -⟩ := HS.out
        have HF : Hid (∃ F s v cl k, TD w wr (fun _ => False) F g s bm v cl k) := Lib.hid ⟨F3, s3, v3, cl3, k3, hT.unmark (fun _ h => h.elim)⟩
        clear hT HS hlt
        go_wp2_with fail
        go_ret
        exact ⟨rfl, HF.out⟩
end
end Go.Proofs.Ytgajgjijnpigoaa.Dr
