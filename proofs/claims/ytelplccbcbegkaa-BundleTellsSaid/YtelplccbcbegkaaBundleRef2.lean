/-
  The document's bundle: steps.
-/
import Derived.Test.YtelplccbcbegkaaBundleRefPl
namespace Go.Proofs.Ytelplccbcbegkaa.OrW
set_option linter.unusedVariables false
open Go Go.RowKit Go.Proofs Go.Proofs.Ytelplccbcbegkaa Go.Proofs.Ytelplccbcbegkaa.Wd Go.Proofs.Ytelplccbcbegkaa.GrW Go.Proofs.Ytelplccbcbegkaa.Ord
open Go.Proofs.Ytelplccbcbegkaa.Gr (OK putL outs intos Path edgesTo ev)

theorem made_zeros (k : Nat) : madeCells #[Value.int .i64 0] k = (iv (zs (List.replicate k 0))).toArray := by
  apply Array.ext
  · simp [madeCells, iv, zs]
  · intro i h1 h2
    simp [madeCells, iv, zs, Nat.mod_one]
theorem make_zeros (n : Nat) (hn : n ≤ 30000) (W : World) : (Instr.makeSlice 27 (.int .i64 (n : Int)) (.int .i64 (n : Int))).run Try.prog W = .ok (.slice (some ⟨W.heap.size, 0, none⟩) n n) (W.alloc (.cells (iv (zs (List.replicate n 0))).toArray 3)) := by
  obtain ⟨j0, hj0, hy0, hy1, hy2⟩ := info_parts infoInt0
  have h := run_make (P := Try.prog) W 27 3 j0 _ Try.underlying27 hj0 hy0 .i64 .i64 (n : Int) (n : Int) (by omega) (Int.le_refl _) (by rw [hy2]; omega) (by omega)
  rw [Int.toNat_natCast, hy1, Nat.mul_one] at h
  rw [h, ← made_zeros]
  rfl
/-- The row of distances, in a block of its own. -/
structure SF (w wr : World) (n : Nat) (A : Option Addr) (q c : Nat) (f : List Nat) : Prop where
  low : Below w.heap.size w wr
  b0 : Blk wr w.heap.size 53 #[.int .i64 (n : Int), .slice A q c]
  row : Blk wr (w.heap.size + 1) 3 (iv (zs f)).toArray
section
variable {w wr w' : World} {n : Nat} {A : Option Addr} {q c : Nat} {f : List Nat}
theorem SF.below (h : SF w wr n A q c f) (hb : Below wr.heap.size wr w') : SF w w' n A q c f := ⟨h.low.trans (hb.mono h.low.size), h.b0.below hb h.b0.lt, h.row.below hb h.row.lt⟩
theorem SF.set_ (h : SF w wr n A q c f) (i x : Nat) : SF w (wr.setCell ⟨w.heap.size + 1, i, none⟩ (.int .i64 (x : Int))) n A q c (f.set i x) :=
  ⟨h.low.setCell (p := ⟨w.heap.size + 1, i, none⟩) (Nat.le_succ _) _, h.b0.farN (by omega) _, by
    have h2 := h.row.set_ i (.int .i64 (x : Int))
    have e : (iv (zs f)).toArray.setIfInBounds i (.int .i64 (x : Int)) = (iv (zs (f.set i x))).toArray := by
      rw [← zs_set]
      simp [iv, List.map_set]
    rw [e] at h2
    exact h2⟩
theorem SF.at_ (h : SF w wr n A q c f) {i : Nat} (hi : i < f.length) : wr.cell? ⟨w.heap.size + 1, i, none⟩ = some (.int .i64 ((f.getD i 0 : Nat) : Int)) ∧ wr.frozen? ⟨w.heap.size + 1, i, none⟩ = false := by
  refine ⟨(h.row.cell i).trans ?_, h.row.frozen i⟩
  simp [iv, zs, List.getD, hi]
end
set_option maxRecDepth 100000 in
set_option maxHeartbeats 16000000 in
theorem steps_any (w : World) (n : Nat) (hn : n ≤ 30000) (L : List (List Int)) (ok : OK n L) (A : Option Addr) (q c : Nat) (hq : q = (edgesTo L n).length) (hqc : q ≤ c) (hcm : c ≤ maxLen) (hbig : q ≤ 1000000) (hE : EdgesAt w w.heap.size A (edgesTo L n)) (s tz : Nat) (hs : s < n) (htz : tz < n) :
    Calls Try.prog 44 #[rv n A q c, .int .i64 (s : Nat), .int .i64 (tz : Nat)] w fun e w' => ∃ r : Int, e = .returned (.int .i64 r) ∧ (-1 ≤ r ∧ r ≤ (n : Int)) ∧ StepsIs L tz s r ∧ Below w.heap.size w w' := by
  have HOK := Lib.hid ok
  have HQ := Lib.hid hq
  have HE := Lib.hid hE
  have hmk := make_zeros n hn
  have h0 : Blk (w.alloc (.cells #[.int .i64 (n : Int), .slice A q c] 53)) w.heap.size 53 #[.int .i64 (n : Int), .slice A q c] := Blk.new_ w _ _ rfl
  have hB0 : Below w.heap.size w (w.alloc (.cells #[.int .i64 (n : Int), .slice A q c] 53)) := (Below.refl _ w).alloc (Nat.le_refl _) _
  have HS0 : Hid (SF w ((w.alloc (.cells #[.int .i64 (n : Int), .slice A q c] 53)).alloc (.cells (iv (zs (List.replicate n 0))).toArray 3)) n A q c (List.replicate n 0)) := Lib.hid ⟨hB0.alloc (by simp) _, h0.alloc _, Blk.new_ _ _ _ (by simp)⟩
  have HW0 := Lib.hid (Wave.start (n := n) (L := L) (tz := tz) htz)
  have i1 : (0 : Int) ≤ (tz : Int) := by omega
  have i2 : (tz : Int) < (n : Int) := by omega
  have c0 := h0.at_ 0 rfl
  obtain ⟨a0, a1⟩ := HS0.out.at_ (i := tz) (by simpa using htz)
  have HS1 := Lib.hid (HS0.out.set_ tz 1)
  generalize (List.replicate n 0).getD tz 0 = z0 at a0
  generalize hwm : (w.alloc (.cells #[.int .i64 (n : Int), .slice A q c] 53)).alloc (.cells (iv (zs (List.replicate n 0))).toArray 3) = wm at *
  clear ok hq hE h0 hB0 HS0
  unfold maxLen at hcm
  unfold rv
  go_enter Try.func44, Try.ntmps44
  go_wp2_with fail
  clear hmk c0 a0 a1 hwm
  go_loopw [8] (fun kv wr => ∃ (k : Nat) (f : List Nat), 1 ≤ k ∧ k ≤ n + 1 ∧ kv = .int .i64 k ∧ Hid (SF w wr n A q c f ∧ Wave n L tz k 0 f)) (fun kv _ => n + 1 - (intOf kv).toNat)
  case atStart => exact ⟨1, _, Nat.le_refl _, by omega, rfl, Lib.hid ⟨HS1.out, HW0.out⟩⟩
  case round =>
    clear HS1 HW0
    obtain ⟨k, f, hk1, hk2, rfl, HK⟩ := hrel
    have c0 := HK.out.1.b0.at_ 0 rfl
    by_cases hkn : k ≤ n
    · have i3 : (k : Int) ≤ (n : Int) := by omega
      go_wp2_with fail
      clear c0
      go_loopw [9] (fun iv_ wr => ∃ (i : Nat) (f : List Nat), i ≤ q ∧ iv_ = .int .i64 i ∧ Hid (SF w wr n A q c f ∧ Wave n L tz k i f)) (fun iv_ _ => q - (intOf iv_).toNat)
      case atStart => exact ⟨0, f, Nat.zero_le _, rfl, HK⟩
      case round =>
        clear HK
        obtain ⟨i, f, hi, rfl, HI⟩ := hrel
        have HSF := Lib.hid HI.out.1
        have HWV := Lib.hid HI.out.2
        have c1 := HI.out.1.b0.at_ 1 rfl
        clear HI
        by_cases hiq : i < q
        · have hil : i < (edgesTo L n).length := by have := HQ.out; omega
          obtain ⟨b, off, rfl, hb, p1, p2⟩ := HE.out i hil
          obtain ⟨x, y, hxy, hx, hy, -⟩ := Gr.edge_of HOK.out hil
          rw [hxy] at p1 p2
          have q1 := (HSF.out.low.cell (p := ⟨b, _, none⟩) hb).trans p1
          have q2 := (HSF.out.low.cell (p := ⟨b, _, none⟩) hb).trans p2
          have HXY := Lib.hid (And.intro hil hxy)
          have i4 : (0 : Int) ≤ (i : Int) := by omega
          have i5 : (i : Int) < (q : Int) := by omega
          have HBX := Lib.hid (Blk.new_ wr 34 #[.int .i64 (x : Int), .int .i64 (y : Int)] rfl)
          have HSa := Lib.hid (HSF.out.below ((Below.refl _ wr).alloc (Nat.le_refl _) (.cells #[.int .i64 (x : Int), .int .i64 (y : Int)] 34)))
          have e0 := HBX.out.at_ 0 rfl
          have e1 := HBX.out.at_ 1 rfl
          generalize hwx : wr.alloc (.cells #[.int .i64 (x : Int), .int .i64 (y : Int)] 34) = wx at *
          generalize hbx : wr.heap.size = bx at *
          have hfl := HWV.out.len
          obtain ⟨g1, f1⟩ := HSa.out.at_ (i := x) (by rw [hfl]; exact hx)
          obtain ⟨g2, f2⟩ := HSa.out.at_ (i := y) (by rw [hfl]; exact hy)
          have HFX : Hid (f.getD x 0 = f.getD x 0) := Lib.hid rfl
          have HSK : Hid (∀ fy fx, f.getD y 0 = fy → f.getD x 0 = fx → ¬ (fy = k ∧ fx = 0) → Wave n L tz k (i + 1) f) := Lib.hid (fun fy fx h1 h2 h3 => HWV.out.skip HXY.out.1 HXY.out.2 (by rw [h1, h2]; exact h3))
          have HFO : Hid (∀ fy fx, f.getD y 0 = fy → f.getD x 0 = fx → fy = k → fx = 0 → Wave n L tz k (i + 1) (f.set x (k + 1))) := Lib.hid (fun fy fx h1 h2 h3 h4 => HWV.out.found hk1 HXY.out.1 HXY.out.2 (by rw [h1, h3]) (by rw [h2, h4]))
          generalize hfy : f.getD y 0 = fy at *
          generalize hfx : f.getD x 0 = fx at *
          have HSK1 := Lib.hid (HSK.out fy fx rfl rfl)
          have HFO1 := Lib.hid (HFO.out fy fx rfl rfl)
          have j1 : (0 : Int) ≤ (x : Int) := by omega
          have j2 : (x : Int) < (n : Int) := by omega
          have j3 : (0 : Int) ≤ (y : Int) := by omega
          have j4 : (y : Int) < (n : Int) := by omega
          clear p1 p2 hb hil hxy hfl HSK HFO HFX HWV HSF HXY hfx hfy
          by_cases hy0 : fy = k
          · have b1 : ((fy : Int) == (k : Int)) = true := by rw [beq_iff_eq]; omega
            by_cases hx0 : fx = 0
            · have b2 : ((fx : Int) == 0) = true := by rw [beq_iff_eq]; omega
              have HSN := Lib.hid (HSa.out.set_ x (k + 1))
              have HN := Lib.hid (HFO1.out hy0 hx0)
              have HNN : Hid (SF w (wx.setCell ⟨w.heap.size + 1, x, none⟩ (.int .i64 ((k : Int) + 1))) n _ q c (f.set x (k + 1)) ∧ Wave n L tz k (i + 1) (f.set x (k + 1))) := Lib.hid ⟨by have := HSN.out; rw [show ((k + 1 : Nat) : Int) = (k : Int) + 1 by omega] at this; exact this, HN.out⟩
              clear hy0 hx0 HSK1 HFO1 HSN HN HSa HBX
              go_wp2_with fail
              go_roundw
              case rel => exact ⟨i + 1, _, by omega, by go_num, HNN⟩
              case measure => simp [intOf]; omega
            · have b2 : ((fx : Int) == 0) = false := by rw [beq_eq_false_iff_ne]; omega
              have HNN := Lib.hid (And.intro HSa.out (HSK1.out (fun h => hx0 h.2)))
              clear hy0 hx0 HSK1 HFO1 HSa HBX
              go_wp2_with fail
              go_roundw
              case rel => exact ⟨i + 1, f, by omega, by go_num, HNN⟩
              case measure => simp [intOf]; omega
          · have b1 : ((fy : Int) == (k : Int)) = false := by rw [beq_eq_false_iff_ne]; omega
            have HNN := Lib.hid (And.intro HSa.out (HSK1.out (fun h => hy0 h.1)))
            clear hy0 HSK1 HFO1 HSa HBX
            go_wp2_with fail
            go_roundw
            case rel => exact ⟨i + 1, f, by omega, by go_num, HNN⟩
            case measure => simp [intOf]; omega
        · have hie : i = q := by omega
          have i5 : ¬ (i : Int) < (q : Int) := by omega
          have HN : Hid (SF w wr n A q c f ∧ Wave n L tz (k + 1) 0 f) := Lib.hid ⟨HSF.out, by
            have h := HWV.out
            rw [hie, HQ.out] at h
            exact h.round HOK.out hk1⟩
          clear HSF HWV hie
          go_wp2_with fail
          go_roundw
          case rel => exact ⟨k + 1, f, by omega, by omega, by go_num, HN⟩
          case measure => simp [intOf]; omega
    · have i3 : ¬ (k : Int) ≤ (n : Int) := by omega
      have hke : k = n + 1 := by omega
      have hfl := HK.out.2.len
      obtain ⟨g1, f1⟩ := HK.out.1.at_ (i := s) (by rw [hfl]; exact hs)
      have HD : Hid (StepsIs L tz s ((f.getD s 0 : Nat) - 1 : Int)) := Lib.hid (by
        have h := HK.out.2
        rw [hke] at h
        exact h.done HOK.out htz s)
      have hfs : f.getD s 0 ≤ n + 1 := by
        have h := HD.out
        rcases h with ⟨d, h1, h2⟩ | ⟨h1, h2⟩
        · have := h1.few HOK.out htz
          omega
        · omega
      have HL := Lib.hid HK.out.1.low
      generalize f.getD s 0 = fs at *
      have j1 : (0 : Int) ≤ (s : Int) := by omega
      have j2 : (s : Int) < (n : Int) := by omega
      clear HK hke hfl
      go_wp2_with fail
      go_ret
      exact ⟨(fs : Int) - 1, by go_num, by omega, HD.out, HL.out⟩
end Go.Proofs.Ytelplccbcbegkaa.OrW
