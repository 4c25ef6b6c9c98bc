/-
  The document's order: Grow.
-/
import Derived.Test.YtelplccbcbegkaaOrderRef2
namespace Go.Proofs.Ytelplccbcbegkaa.OrW
set_option linter.unusedVariables false
open Go Go.RowKit Go.Proofs Go.Proofs.Ytelplccbcbegkaa Go.Proofs.Ytelplccbcbegkaa.Wd Go.Proofs.Ytelplccbcbegkaa.GrW Go.Proofs.Ytelplccbcbegkaa.Ord
open Go.Proofs.Ytelplccbcbegkaa.Gr (OK putL outs intos Path edgesTo ev)

/-- What the document's Grow answers. -/
def GrowR (w : World) (n : Nat) (A : Option Addr) (q c : Nat) (Am : Option Addr) (cm : Nat) (V : List Nat) (k : Int) (e : Ending) (w' : World) : Prop :=
  if canGrow n k = true then ∃ A' c', e = .returned (.tuple #[ov (n + k.toNat) A q c A' (n + k.toNat) c', .int .i64 0]) ∧ w'.ownsRow w.heap.size 3 1 (.slice A' (n + k.toNat) c') (n + k.toNat) (iv (zs (gro V n k.toNat))) ∧ Below w.heap.size w w'
  else e = .returned (.tuple #[ov n A q c Am n cm, .int .i64 2]) ∧ Below w.heap.size w w'
set_option maxRecDepth 100000 in
set_option maxHeartbeats 4000000 in
theorem growR_any (w : World) (n : Nat) (hn : n ≤ 10000) (A : Option Addr) (q c : Nat) (Am : Option Addr) (cm : Nat) (V : List Nat) (hV : V.length = n) (hI : Nums w w.heap.size Am (zs V)) (k : Int) :
    Calls Try.prog 46 #[ov n A q c Am n cm, .int .i64 k] w (GrowR w n A q c Am cm V k) := by
  obtain ⟨i0, hi0, hz0, hz1, hz2⟩ := info_parts infoInt0
  have HV := Lib.hid hV
  have HI := Lib.hid hI
  have hB0 : Below w.heap.size w ((w.alloc (.cells #[.int .i64 (n : Int), .slice A q c, .slice Am n cm] 55)).alloc (.cells #[.int .i64 0, .slice none 0 0, .slice none 0 0] 55)) := ((Below.refl _ w).alloc (Nat.le_refl _) _).alloc (by simp) _
  have hX : Blk ((w.alloc (.cells #[.int .i64 (n : Int), .slice A q c, .slice Am n cm] 55)).alloc (.cells #[.int .i64 0, .slice none 0 0, .slice none 0 0] 55)) w.heap.size 55 #[.int .i64 (n : Int), .slice A q c, .slice Am n cm] := (Blk.new_ w _ _ rfl).alloc _
  have hZ : Blk ((w.alloc (.cells #[.int .i64 (n : Int), .slice A q c, .slice Am n cm] 55)).alloc (.cells #[.int .i64 0, .slice none 0 0, .slice none 0 0] 55)) (w.heap.size + 1) 55 #[.int .i64 0, .slice none 0 0, .slice none 0 0] := Blk.new_ _ _ _ (by simp)
  have c0 := hX.at_ 0 rfl
  have c1 := hX.at_ 1 rfl
  have HB0 := Lib.hid hB0
  have HX := Lib.hid hX
  have HZ := Lib.hid hZ
  have HR := Lib.hid (refgrow_any ((w.alloc (.cells #[.int .i64 (n : Int), .slice A q c, .slice Am n cm] 55)).alloc (.cells #[.int .i64 0, .slice none 0 0, .slice none 0 0] 55)) n hn A q c k)
  clear hV hI hB0 hX hZ
  unfold ov
  go_enter Try.func46, Try.ntmps46
  go_wp2_with fail
  clear c0 c1
  unfold rv at HR
  refine Calls.mono HR.out ?_
  rintro e w1 ⟨rfl, b1⟩
  have HB1 := Lib.hid (HB0.out.trans (b1.mono HB0.out.size))
  have HX1 := Lib.hid (HX.out.below b1 HX.out.lt)
  have HZ1 := Lib.hid (HZ.out.below b1 HZ.out.lt)
  have HS1 : Hid (w.heap.size + 2 ≤ w1.heap.size) := Lib.hid (by have := b1.size; simp at this; omega)
  clear HR HB0 HX HZ b1
  by_cases hk : canGrow n k = true
  · rw [if_pos hk]
    have hk2 : 0 ≤ k ∧ (n : Int) + k ≤ 10000 := by unfold canGrow at hk; simpa using hk
    obtain ⟨m, rfl⟩ : ∃ m : Nat, k = m := ⟨k.toNat, by omega⟩
    rw [Int.toNat_natCast]
    have HK := Lib.hid hk
    obtain ⟨N, hN⟩ : ∃ N, N = n + m := ⟨_, rfl⟩
    have hN1 : n ≤ N := by omega
    have hN2 : N ≤ 10000 := by omega
    have HN := Lib.hid hN
    rw [← hN]
    clear hk hk2 hN
    have hHB2 : Below w.heap.size w (w1.alloc (.cells #[.int .i64 (N : Int), .slice A q c] 53)) := HB1.out.alloc HB1.out.size _
    have hX2 := HX1.out.alloc (.cells #[.int .i64 (N : Int), .slice A q c] 53)
    have hG2 := Blk.new_ w1 53 #[.int .i64 (N : Int), .slice A q c] rfl
    have HB2 := Lib.hid hHB2
    have HX2 := Lib.hid hX2
    have HZ2 := Lib.hid (HZ1.out.alloc (.cells #[.int .i64 (N : Int), .slice A q c] 53))
    have HG2 := Lib.hid hG2
    have x0 := hX2.at_ 0 rfl
    have x2 := hX2.at_ 2 rfl
    have HI2 : Hid (Nums (w1.alloc (.cells #[.int .i64 (N : Int), .slice A q c] 53)) (w1.alloc (.cells #[.int .i64 (N : Int), .slice A q c] 53)).heap.size Am (zs V)) := Lib.hid ((Nums.below HI.out HB2.out).more HB2.out.size)
    have hvl : (zs V).length = n := by rw [zs_length]; exact HV.out
    have HVL := Lib.hid hvl
    clear hHB2 hX2 hG2 hvl HB1 HX1 HZ1
    go_wp2_with (at_builtin; refine wpList_append_row _ rfl (.tmp 21) (.tmp 23) _ rfl w.heap.size 3 i0 _ 8 Try.underlying27 hi0 hz0 hz1 hz2 rfl (.slice none 0 0) 0 [] rfl (own_nil _ _ _) (w1.alloc (.cells #[.int .i64 (N : Int), .slice A q c] 53)).heap.size Am n cm (iv (zs V)) rfl (by rw [iv_length]; exact HVL.out.symm) (by exact HI2.out) (iv_one _) (by unfold maxLen; omega) (by omega) (by exact HB2.out.size) ?_)
    intro v3 w3 o3 g3 _ _
    obtain ⟨A3, c3, hv3⟩ := own_form o3
    subst hv3
    have hX3 := HX2.out.grown g3 (by simp [Value.ownBlock])
    have hG3 := HG2.out.grown g3 (by simp [Value.ownBlock])
    have HZ3 := Lib.hid (HZ2.out.grown g3 (by simp [Value.ownBlock]))
    have HB3 := Lib.hid (HB2.out.grown g3 HB2.out.size (fun j hj => by simp [Value.ownBlock] at hj))
    have HO3 := Lib.hid o3
    have HX3 := Lib.hid hX3
    have HG3 := Lib.hid hG3
    have y0 := hX3.at_ 0 rfl
    clear o3 g3 HX2 HG2 HZ2 HB2 HI2 x0 x2 hX3 hG3
    go_wp2_with fail
    clear y0
    go_loopw [8, 9] (fun v ix wr => ∃ t : Nat, n ≤ t ∧ t ≤ N ∧ ix = .int .i64 t ∧ Hid (Below w.heap.size w wr ∧ Blk wr (w.heap.size + 1) 55 #[.int .i64 0, .slice none 0 0, .slice none 0 0] ∧ Blk wr w1.heap.size 53 #[.int .i64 (N : Int), .slice A q c] ∧ wr.ownsRow w.heap.size 3 1 v t (iv (zs (gro V n (t - n)))))) (fun _ ix _ => N - (intOf ix).toNat)
    case atStart => exact ⟨n, Nat.le_refl _, hN1, rfl, Lib.hid ⟨HB3.out, HZ3.out, HG3.out, by rw [Nat.sub_self, gro_zero]; exact HO3.out⟩⟩
    case round =>
      obtain ⟨t, ht1, ht2, rfl, HT⟩ := hrel
      clear HO3 HB3 HZ3 HX3 HG3
      obtain ⟨hB, hZ, hG, hO⟩ := HT.out
      obtain ⟨At, ct, hv⟩ := own_form hO
      subst hv
      have g0 := hG.at_ 0 rfl
      have HBr := Lib.hid hB
      have HZr := Lib.hid hZ
      have HGr := Lib.hid hG
      have HOr := Lib.hid hO
      by_cases hlt : t < N
      · have HLT := Lib.hid hlt
        have i2 : (t : Int) < (N : Int) := by omega
        have hsz := hB.size
        have hBN := Blk.new_ wr 3 #[.int .i64 (t : Nat)] rfl
        have hgl : (zs (gro V n (t - n))).length = t := by rw [zs_length, gro_length, HV.out]; omega
        have HGL := Lib.hid hgl
        have HNZ := Lib.hid (own_blk_ne hO hZ (by decide))
        have HNG := Lib.hid (own_blk_ne hO hG (by decide))
        have HGS : Hid (zs (gro V n (t + 1 - n)) = zs (gro V n (t - n)) ++ [(t : Int)]) := Lib.hid (by
          rw [show t + 1 - n = (t - n) + 1 by omega, gro_succ, zs_append, show n + (t - n) = t by omega]; rfl)
        generalize zs (gro V n (t - n)) = zl at *
        clear hB hZ hG hO HT hgl
        go_wp2_with (at_builtin; refine wpList_push rfl (.tmp 34) (.tmp 36) rfl w.heap.size (.slice At t ct) t zl HGL.out.symm rfl (HOr.out.alloc _) wr.heap.size (t : Nat) rfl hBN (by omega) (by simp; omega) ?_)
        intro v6 w6 o6 g6 ob6
        have HN2 : Hid (Below w.heap.size w w6 ∧ Blk w6 (w.heap.size + 1) 55 #[.int .i64 0, .slice none 0 0, .slice none 0 0] ∧ Blk w6 w1.heap.size 53 #[.int .i64 (N : Int), .slice A q c] ∧ w6.ownsRow w.heap.size 3 1 v6 (t + 1) (iv (zs (gro V n (t + 1 - n))))) := Lib.hid (by
          refine ⟨(HBr.out.alloc hsz (.cells #[.int .i64 (t : Nat)] 3)).grown g6 (by simp; omega) (fun j hj => (own_row HOr.out hj).1), (HZr.out.alloc _).grown g6 (fun e => HNZ.out e.symm), (HGr.out.alloc _).grown g6 (fun e => HNG.out e.symm), by rw [HGS.out]; exact o6⟩)
        obtain ⟨A6, c6, hv6⟩ := own_form o6
        subst hv6
        clear o6 g6 ob6 hBN HNZ HNG HGS HGL g0
        go_wp2_with fail
        go_roundw
        case rel => exact ⟨t + 1, by omega, by have := HLT.out; omega, by go_num, HN2⟩
        case measure => simp [intOf]; have := HLT.out; omega
      · have i2 : ¬ (t : Int) < (N : Int) := by omega
        have htN : t = N := by omega
        have hT := HT.out
        have g1 := hG.at_ 1 rfl
        have z0 := hZ.at_ 0 rfl
        have f0 := hZ.frozen 0
        have k1 := hZ.set_ 0 (.int .i64 (N : Int))
        have z1 := k1.at_ 1 rfl
        have f1 := k1.frozen 1
        have k2 := k1.set_ 1 (.slice A q c)
        have z2 := k2.at_ 2 rfl
        have f2 := k2.frozen 2
        subst htN
        have K3 := Lib.hid (k2.set_ 2 (.slice At t ct))
        have HFIN : Hid (GrowR w n A q c Am cm V (m : Int) (.returned (.tuple #[ov t A q c At t ct, .int .i64 0])) (((wr.setCell ⟨w.heap.size + 1, 0, none⟩ (.int .i64 (t : Int))).setCell ⟨w.heap.size + 1, 1, none⟩ (.slice A q c)).setCell ⟨w.heap.size + 1, 2, none⟩ (.slice At t ct))) := Lib.hid (by
          unfold GrowR
          rw [if_pos HK.out, Int.toNat_natCast, ← HN.out]
          have hne : (Value.slice At t ct).ownBlock ≠ some (w.heap.size + 1) := own_blk_ne hO hZ (by decide)
          have e : t - n = m := by have := HN.out; omega
          rw [e] at hO
          refine ⟨At, ct, rfl, own_far (own_far (own_far hO hne _) hne _) hne _, ?_⟩
          exact (((hB.setCell (p := ⟨w.heap.size + 1, 0, none⟩) (by simp) _).setCell (p := ⟨w.heap.size + 1, 1, none⟩) (by simp) _).setCell (p := ⟨w.heap.size + 1, 2, none⟩) (by simp) _))
        clear hB hZ hG hO HT hT k1 k2 HBr HZr HGr HOr
        go_wp2_with fail
        refine bodyPost_ret (results_cell_row2 rfl _ _ (w.heap.size + 1) 55 #[.int .i64 (t : Int), .slice A q c, .slice At t ct] (0, 0) _ rfl K3.out.out Try.underlying55 rfl (by kernel_rfl)) rfl ?_
        exact HFIN.out
  · rw [if_neg hk]
    have HK := Lib.hid hk
    clear hk
    have hX2 := HX1.out.alloc (.cells #[.int .i64 (n : Int), .slice A q c] 53)
    have hZ2 := HZ1.out.alloc (.cells #[.int .i64 (n : Int), .slice A q c] 53)
    have hB2 := HB1.out.alloc HB1.out.size (.cells #[.int .i64 (n : Int), .slice A q c] 53)
    have x0 := hX2.at_ 0 rfl
    have x1 := hX2.at_ 1 rfl
    have x2 := hX2.at_ 2 rfl
    have z0 := hZ2.at_ 0 rfl
    have f0 := hZ2.frozen 0
    have k1 := hZ2.set_ 0 (.int .i64 (n : Int))
    have z1 := k1.at_ 1 rfl
    have f1 := k1.frozen 1
    have k2 := k1.set_ 1 (.slice A q c)
    have z2 := k2.at_ 2 rfl
    have f2 := k2.frozen 2
    have K3 := Lib.hid (k2.set_ 2 (.slice Am n cm))
    have HB3 := Lib.hid (((hB2.setCell (p := ⟨w.heap.size + 1, 0, none⟩) (by simp) (.int .i64 (n : Int))).setCell (p := ⟨w.heap.size + 1, 1, none⟩) (by simp) (.slice A q c)).setCell (p := ⟨w.heap.size + 1, 2, none⟩) (by simp) (.slice Am n cm))
    clear k1 k2 hX2 hZ2 hB2 HB1 HX1 HZ1
    go_wp2_with fail
    refine bodyPost_ret (results_cell_row2 rfl _ _ (w.heap.size + 1) 55 #[.int .i64 (n : Int), .slice A q c, .slice Am n cm] (0, 0) _ rfl K3.out.out Try.underlying55 rfl (by kernel_rfl)) rfl ?_
    unfold GrowR
    rw [if_neg HK.out]
    exact ⟨rfl, HB3.out⟩
end Go.Proofs.Ytelplccbcbegkaa.OrW
