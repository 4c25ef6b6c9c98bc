/-
  The walks of scanned and awake.
-/
import Derived.Test.YtnclbonoenjbeaaBatScan
import Derived.Lib.SlBytesConst
import Derived.Test.YtnclbonoenjbeaaBatWalks2
import Derived.Test.YtnclbonoenjbeaaBatCut2
import Derived.Test.YtnclbonoenjbeaaBatPlain2
namespace Go.Proofs.Ytnclbonoenjbeaa.BatW
set_option linter.unusedVariables false
open Go.RowKit Go.Proofs Go.Proofs.Ytnclbonoenjbeaa Go.Proofs.Ytnclbonoenjbeaa.Wd Go.Proofs.Ytnclbonoenjbeaa.RecW
open Go.Proofs.Ytnclbonoenjbeaa.Bat (B cnt scan put wrong)

theorem scanned_any (A : Option Addr) (c : Nat) (b : List UInt8) (n : Nat) (hn : n = b.length) (hbc : n ≤ c) (hreach : n ≤ 1000000000000) {x te er : Nat} {ll : List B} (h : scan b = (ll, te, er)) (hx : x = ll.length) (w : World) (hI : Bytes w w.heap.size A b) :
    Calls Try.prog 26 #[.slice A n c, .int .i64 x, .int .i64 te, .int .i64 er] w fun e w' => e = .returned (.bool true) ∧ Below w.heap.size w w' := by
  have HC := Lib.hid (bscan_any A c b n hn hbc hreach w hI)
  have H := Lib.hid h
  have HX := Lib.hid hx
  clear hn hx h hI
  go_enter Try.func26, Try.ntmps26
  go_wp2_with fail
  refine Calls.mono HC.out ?_
  rintro e w1 ⟨A1, c1, rfl, hb, h1, h2, h3⟩
  rw [H.out]
  dsimp only
  rw [← HX.out]
  clear HC h3 h1 h2
  go_wp2_with fail
  go_ret
  exact ⟨rfl, hb⟩
/-- The example's batch. -/
def ab : B := [[97, 98]]
theorem ab_right : wrong ab = 0 := by decide
theorem ab_long : (put ab).length = 22 := by rw [Bat.put_length]; decide
theorem ab_scan : scan (put ab) = ([ab], 22, 0) := by
  have := Bat.scan_put ab_right []
  rw [List.append_nil, Bat.scan_nil, ab_long] at this
  exact this
theorem ab_cut : scan ((put ab).take 21) = ([], 0, 32) := Bat.scan_cut ab_right (by rw [ab_long]; decide)
theorem ab_two : scan ((put ab ++ put ab) ++ [1]) = ([ab, ab], 44, 32) := by
  rw [List.append_assoc, Bat.scan_put ab_right, Bat.scan_put ab_right, Bat.scan_few (by decide) (by decide), ab_long]; rfl
theorem c_scan : scan (Rec.bytes ((2 : UInt8), [0, 0])) = ([], 0, 34) := by
  have h : Rec.putErr ((2 : UInt8), [0, 0]) = 0 := by decide
  obtain ⟨h1, h2, h3⟩ := Rec.take_bytes h []
  rw [List.append_nil] at h1 h2 h3
  unfold Bat.scan
  rw [Rec.all_ok h1, h2]
  rfl
theorem wpList_wanted {P : Program} {ops : Array Oper} {rest : List Oper} {o : Oper} {a : Act} {w : World} {Q : Exit → Act → World → Prop} (hw : Region.wanted o (yielded ops a.tmps) = true)
    (h : ∀ K : Act → World → Prop, (∀ a w, wpList P ops Q rest a w → K a w) → o.wp P a w K Q) : wpList P ops Q (o :: rest) a w :=
  wpList_step fun K hK => by rw [if_pos hw]; exact h K hK
theorem own_rd {w : World} {base : Nat} {e : TypeId} {A : Option Addr} {n c : Nat} {l : List UInt8} (h : w.ownsRow base e 1 (.slice A n c) n (bs l)) : Bytes w w.heap.size A l := by
  obtain ⟨A', c', ee, _, _, hr⟩ := own_bytes h
  cases ee
  exact hr
/-- The example's world. -/
def abw (w : World) : World := (w.alloc (.cells #[.int .u8 97, .int .u8 98] 5 (2, 3))).alloc (.cells #[.slice (some ⟨w.heap.size, 0, none⟩) 2 2] 24)
theorem ab_rows (w : World) : BRows (abw w) (abw w).heap.size (some ⟨w.heap.size + 1, 0, none⟩) ab ∧ Below w.heap.size w (abw w) := by
  have hs0 : (w.alloc (.cells #[.int .u8 97, .int .u8 98] 5 (2, 3))).heap.size = w.heap.size + 1 := by simp
  have y0 : Bytes (w.alloc (.cells #[.int .u8 97, .int .u8 98] 5 (2, 3))) (w.heap.size + 1) (some ⟨w.heap.size, 0, none⟩) [97, 98] := Bytes.new_ w 5 _ (2, 3) [97, 98] rfl rfl (by omega)
  have hb : Below (w.heap.size + 1) (w.alloc (.cells #[.int .u8 97, .int .u8 98] 5 (2, 3))) (abw w) := (Below.refl _ _).alloc (by omega) _
  have y1 := (Row.below y0 hb).more (B' := (abw w).heap.size) (by unfold abw; simp)
  have z1 : Blk (abw w) (w.heap.size + 1) 24 #[.slice (some ⟨w.heap.size, 0, none⟩) 2 2] := Blk.new_ (w.alloc (.cells #[.int .u8 97, .int .u8 98] 5 (2, 3))) 24 _ hs0.symm
  refine ⟨BRows.of_row (xs := [.slice (some ⟨w.heap.size, 0, none⟩) 2 2]) (Row.blk z1 z1.lt) (Reads.one ⟨some ⟨w.heap.size, 0, none⟩, 2, rfl, Nat.le_refl _, by simp [maxLen], y1⟩), ?_⟩
  exact ((Below.refl _ w).alloc (Nat.le_refl _) _).alloc (by simp) _
set_option maxRecDepth 100000 in
set_option maxHeartbeats 8000000 in
theorem awake_any (w : World) : Calls Try.prog 11 #[] w fun e w' => e = .returned (.bool true) ∧ Below w.heap.size w w' := by
  obtain ⟨hr0, hB0⟩ := ab_rows w
  obtain ⟨i0, hi0, hz0, hz1, hz2⟩ := info_parts infoU8
  have HP0 := Lib.hid (bput_any (some ⟨w.heap.size + 1, 0, none⟩) 1 1 ab rfl (by simp [maxLen]) (abw w) hr0)
  have HB0 := Lib.hid hB0
  clear hr0 hB0
  have kc := fun (w : World) (C : Array Value) (n c : Nat) => Lib.run_convert_bytes_const (P := Try.prog) w 24 5 C n c Try.underlying24 Try.underlying5
  go_enter Try.func11, Try.ntmps11
  go_wp2_with fail
  clear kc
  refine Calls.mono HP0.out ?_
  rintro e w1 ⟨A1, c1, rfl, hb1, h1, h2, ho1⟩
  have hB1 := HB0.out.trans (hb1.mono HB0.out.size)
  rw [ab_long] at h1 ho1 ⊢
  rw [ab_right]
  have ho1 := own_base ho1 HB0.out.size
  clear HP0 HB0 hb1
  have z2 : Bytes (w1.alloc (.cells #[.int .u8 0, .int .u8 0] 5)) (w1.heap.size + 1) (some ⟨w1.heap.size, 0, none⟩) [0, 0] := Bytes.new_ w1 5 _ (0, 0) [0, 0] rfl rfl (by omega)
  have hs2 : (w1.alloc (.cells #[.int .u8 0, .int .u8 0] 5)).heap.size = w1.heap.size + 1 := by simp
  have hb2 : Below w1.heap.size w1 (w1.alloc (.cells #[.int .u8 0, .int .u8 0] 5)) := (Below.refl _ w1).alloc (Nat.le_refl _) _
  have HP1 := put_any 2 (some ⟨w1.heap.size, 0, none⟩) 2 [0, 0] 2 rfl (w1.alloc (.cells #[.int .u8 0, .int .u8 0] 5)) (by rw [hs2]; exact z2)
  simp only [BatW.u2] at HP1
  have HP1 := Lib.hid HP1
  have HB2 := Lib.hid (hB1.trans (hb2.mono hB1.size))
  have HO1 := Lib.hid (own_belowT ho1 hb2)
  clear z2 hs2 hb2 hB1 ho1
  go_wp2_with fail
  refine Calls.mono HP1.out ?_
  rintro e w2 hw
  obtain ⟨A2, c2, rfl, hb3, h4, h5, ho2⟩ := hw.out
  have hpe : Rec.putErr ((2 : UInt8), [0, 0]) = 0 := by decide
  have hpl : putL ((2 : UInt8), [0, 0]) = Rec.bytes ((2 : UInt8), [0, 0]) := by unfold putL; rw [if_pos hpe]
  have hll : (Rec.bytes ((2 : UInt8), [0, 0])).length = 11 := Rec.bytes_length _
  rw [hpl, hll] at h4 ho2 ⊢
  rw [hpe]
  have HB3 := Lib.hid (HB2.out.trans (hb3.mono HB2.out.size))
  have HO1b := Lib.hid (own_belowT HO1.out hb3)
  have HO2 := Lib.hid (own_base ho2 HB2.out.size)
  clear HP1 HB2 HO1 hw hb3 hpe hpl hll ho2 h5 h2
  have HCU := Lib.hid (cut_any none 0 [] 0 rfl (Nat.le_refl _) (by omega) w2 Row.nil)
  go_wp2_with fail
  refine Calls.mono HCU.out ?_
  rintro e w3 ⟨v3, xs3, rfl, hb4, ho3, hx3, -⟩
  have hx3 := hx3 rfl
  subst hx3
  have hl3 : (cut []).length = 1 := rfl
  rw [hl3] at ho3
  obtain ⟨A3, c3, rfl, hr3⟩ := own_slice ho3
  obtain ⟨b3, o3, rfl, hb3lt, hc3⟩ := hr3 0 (by decide)
  have HC3 : Hid (w3.cell? ⟨b3, o3, none⟩ = some (.slice none 0 0)) := Lib.hid hc3
  have HB4 := Lib.hid (HB3.out.trans (hb4.mono HB3.out.size))
  have HO1c := Lib.hid (own_belowT HO1b.out hb4)
  have HO2c := Lib.hid (own_belowT HO2.out hb4)
  clear HCU hb4 ho3 hl3 hr3 hc3 HB3 HO1b HO2
  have HS1 : Calls Try.prog 26 #[.slice A1 22 c1, .int .i64 1, .int .i64 22, .int .i64 0] w3 _ := scanned_any A1 c1 (put ab) 22 ab_long.symm h1 (by decide) ab_scan rfl w3 (own_rd HO1c.out)
  have HS1 := Lib.hid HS1
  have g1 : (21 : Int) ≤ (c1 : Int) := by omega
  go_wp2_with fail
  refine Calls.mono HS1.out ?_
  rintro e w4 ⟨rfl, hb5⟩
  have HB5 := Lib.hid (HB4.out.trans (hb5.mono HB4.out.size))
  have HO1d := Lib.hid (own_belowT HO1c.out hb5)
  have HO2d := Lib.hid (own_belowT HO2c.out hb5)
  have HC4 : Hid (w4.cell? ⟨b3, o3, none⟩ = some (.slice none 0 0)) := Lib.hid ((hb5.cell (p := ⟨b3, o3, none⟩) hb3lt).trans HC3.out)
  have hb4lt : b3 < w4.heap.size := Nat.lt_of_lt_of_le hb3lt hb5.size
  have HS2 : Calls Try.prog 26 #[.slice A1 21 c1, .int .i64 0, .int .i64 0, .int .i64 32] w4 _ := scanned_any A1 c1 ((put ab).take 21) 21 (by rw [List.length_take, ab_long]; rfl) (by omega) (by decide) ab_cut rfl w4 ((own_rd HO1d.out).head 21)
  have HS2 := Lib.hid HS2
  clear HS1 hb5 HO1c HO2c HC3 HB4 hb3lt
  go_wp2_with fail
  refine Calls.mono HS2.out ?_
  rintro e w5 ⟨rfl, hb6⟩
  have HB6 := Lib.hid (HB5.out.trans (hb6.mono HB5.out.size))
  have HO1e := Lib.hid (own_belowT HO1d.out hb6)
  have HO2e := Lib.hid (own_belowT HO2d.out hb6)
  have HC5 : Hid (w5.cell? ⟨b3, o3, none⟩ = some (.slice none 0 0)) := Lib.hid ((hb6.cell (p := ⟨b3, o3, none⟩) hb4lt).trans HC4.out)
  have hb5lt : b3 < w5.heap.size := Nat.lt_of_lt_of_le hb4lt hb6.size
  have HAN := Lib.hid (anew_any A1 c1 (put ab) 22 ab_long.symm (by rw [ab_long]; decide) w5 (own_rd HO1e.out))
  clear HS2 hb6 HO1d HO2d HC4 HB5 hb4lt
  go_wp2_with fail
  refine Calls.mono HAN.out ?_
  rintro e w6 ⟨v6, rfl, ho6, hb7⟩
  have HB7 := Lib.hid (HB6.out.trans (hb7.mono HB6.out.size))
  have HO1f := Lib.hid (own_belowT HO1e.out hb7)
  have HB57 := Lib.hid hb7
  have HO6 := Lib.hid ho6
  have HZ := Lib.hid hb7.size
  have hl22 : (bs (put ab)).length = 22 := by rw [bs_length, ab_long]
  have HL := Lib.hid hl22
  obtain ⟨A6, c6, rfl⟩ := own_form ho6
  clear HAN hb7 HO1e ho6 hl22
  go_wp2_with (at_builtin; refine wpList_wanted (by simp only [Region.wanted, yielded]; go_simp) fun K hK => ?_; refine wp_append_row _ (.tmp 40) (.tmp 41) _ rfl w5.heap.size 5 i0 _ 1 Try.underlying24 hi0 hz0 hz1 hz2 rfl _ 22 (bs (put ab)) rfl (by exact HO6.out) w6.heap.size A1 22 c1 (bs (put ab)) rfl (by exact HL.out.symm) (by exact own_rd HO1f.out) (bs_one _) (by unfold maxLen; omega) (by omega) (by exact HZ.out) ?_)
  intro v7 w7 ho7 hgrow _ _
  refine hK _ _ ?_
  clear hK K
  have HB58 := Lib.hid (HB57.out.grown hgrow HZ.out (fun g hg => (own_row HO6.out hg).1))
  have hb8 : Below w7.heap.size w7 (w7.alloc (.cells #[.int .u8 1] 5)) := (Below.refl _ w7).alloc (Nat.le_refl _) _
  have HB59 := Lib.hid (HB58.out.trans (hb8.mono HB58.out.size))
  have HO8 := Lib.hid (own_belowT ho7 hb8)
  have y8 : Bytes (w7.alloc (.cells #[.int .u8 1] 5)) (w7.heap.size + 1) (some ⟨w7.heap.size, 0, none⟩) [1] := Bytes.new_ w7 5 _ (0, 0) [1] rfl rfl (by omega)
  have Y8 := Lib.hid y8
  have HZ8 := Lib.hid HB59.out.size
  obtain ⟨A7, c7, rfl⟩ := own_form ho7
  clear ho7 hgrow HB57 HB58 hb8 y8 HO6 HO1f HB7
  go_wp2_with (at_builtin; refine wpList_wanted (by simp only [Region.wanted, yielded]; go_simp) fun K hK => ?_; refine wp_append_row _ (.tmp 42) (.tmp 43) _ rfl w5.heap.size 5 i0 _ 1 Try.underlying24 hi0 hz0 hz1 hz2 rfl _ 44 (bs (put ab) ++ bs (put ab)) rfl (by exact HO8.out) (w7.heap.size + 1) (some ⟨w7.heap.size, 0, none⟩) 1 1 (bs [1]) rfl rfl (by exact Y8.out) (bs_one _) (by unfold maxLen; omega) (by omega) (by exact HZ8.out) ?_)
  intro v9 w9 ho9 hgrow _ _
  refine hK _ _ ?_
  clear hK K
  have HB9 := Lib.hid (HB59.out.grown hgrow HZ8.out (fun g hg => (own_row HO8.out hg).1))
  rw [← bs_append, ← bs_append] at ho9
  have HO2g := Lib.hid (own_belowT HO2e.out HB9.out)
  have HC9 : Hid (w9.cell? ⟨b3, o3, none⟩ = some (.slice none 0 0)) := Lib.hid ((HB9.out.cell (p := ⟨b3, o3, none⟩) hb5lt).trans HC5.out)
  have hb9lt : b3 < w9.heap.size := Nat.lt_of_lt_of_le hb5lt HB9.out.size
  have HB10 := Lib.hid (HB6.out.trans (HB9.out.mono HB6.out.size))
  obtain ⟨A9, c9, rfl⟩ := own_form ho9
  have hle9 := own_bytes ho9
  have hc9 : 45 ≤ c9 := by obtain ⟨A', c', ee, h, _⟩ := hle9; cases ee; exact h
  have HS3 : Calls Try.prog 26 #[.slice A9 45 c9, .int .i64 2, .int .i64 44, .int .i64 32] w9 _ := scanned_any A9 c9 ((put ab ++ put ab) ++ [1]) 45 (by rw [List.length_append, List.length_append, ab_long]; rfl) hc9 (by decide) ab_two rfl w9 (own_rd ho9)
  have HS3 := Lib.hid HS3
  clear hle9 ho9 hgrow HB59 HO8 Y8 HZ8 HO2e HC5 hb5lt HB6 HB9
  go_wp2_with fail
  refine Calls.mono HS3.out ?_
  rintro e w10 ⟨rfl, hb11⟩
  have HB11 := Lib.hid (HB10.out.trans (hb11.mono HB10.out.size))
  have HO2h := Lib.hid (own_belowT HO2g.out hb11)
  have HC10 : Hid (w10.cell? ⟨b3, o3, none⟩ = some (.slice none 0 0)) := Lib.hid ((hb11.cell (p := ⟨b3, o3, none⟩) hb9lt).trans HC9.out)
  have hb10lt : b3 < w10.heap.size := Nat.lt_of_lt_of_le hb9lt hb11.size
  have HS4 : Calls Try.prog 26 #[.slice A2 11 c2, .int .i64 0, .int .i64 0, .int .i64 34] w10 _ := scanned_any A2 c2 (Rec.bytes ((2 : UInt8), [0, 0])) 11 (show 11 = (Rec.bytes ((2 : UInt8), [0, 0])).length from (Rec.bytes_length ((2 : UInt8), [0, 0])).symm) h4 (by decide) c_scan rfl w10 (own_rd HO2h.out)
  have HS4 := Lib.hid HS4
  clear HS3 hb11 HO2g HC9 hb9lt HB10
  go_wp2_with fail
  refine Calls.mono HS4.out ?_
  rintro e w11 ⟨rfl, hb12⟩
  have HB12 := Lib.hid (HB11.out.trans (hb12.mono HB11.out.size))
  have c0 : w11.cell? ⟨b3, o3, none⟩ = some (.slice none 0 0) := (hb12.cell (p := ⟨b3, o3, none⟩) hb10lt).trans HC10.out
  clear HS4 hb12 HO2h HC10 hb10lt HB11
  go_wp2_with fail
  go_ret
  exact ⟨rfl, HB12.out⟩
end Go.Proofs.Ytnclbonoenjbeaa.BatW
