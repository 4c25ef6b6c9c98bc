/-
  The walks of the document's disk: join, All, Read, Head, Free, kills.
-/
import Derived.Test.YtpohefpiidlnjaaDiskRef
namespace Go.Proofs.Ytpohefpiidlnjaa.Dr
set_option linter.unusedVariables false
open Go Go.RowKit Go.Proofs Go.Proofs.Ytpohefpiidlnjaa Go.Proofs.Ytpohefpiidlnjaa.Wd
open Go.Proofs.Ytpohefpiidlnjaa.Dk (DS upd upd_eq upd_ne Fresh rd hd free own_empty Ok among_yes)

theorem join_any {w : World} {B : Nat} (hB : B ≤ w.heap.size) (A1 A2 : Option Addr) (c1 c2 : Nat) (a b : List UInt8) (n m : Nat) (hn : n = a.length) (hm : m = b.length) (h1 : n ≤ 10000000) (h2 : m ≤ 10000000) (hI : Bytes w B A1 a) (hJ : Bytes w B A2 b) :
    Calls Try.prog 50 #[.slice A1 n c1, .slice A2 m c2] w (Fresh w (a ++ b)) := by
  have HN := Lib.hid hn
  have HM := Lib.hid hm
  have HL : Hid ((a ++ b).length = n + m) := Lib.hid (by rw [List.length_append, hn, hm])
  have HI := Lib.hid hI
  have HJ := Lib.hid hJ
  clear hn hm hI hJ
  obtain ⟨i0, hi0, hz0, hz1, hz2⟩ := info_parts infoU8
  go_enter Try.func50, Try.ntmps50
  go_wp2_with (at_builtin; refine wpList_append_row _ rfl (.tmp 5) (.tmp 6) _ rfl w.heap.size 5 i0 _ 1 Try.underlying25 hi0 hz0 hz1 hz2 rfl _ 0 [] rfl (by exact own_empty _ _ (Nat.le_refl _)) B A1 n c1 (bs a) rfl (by rw [bs_length]; exact HN.out) (by exact HI.out.below (((Below.refl _ w).alloc (Nat.le_refl _) _).mono hB)) (bs_one a) (by unfold maxLen; omega) (by omega) (by simp) ?_)
  intro v1 w1 hown hgrow _ _
  have hB1 : Below w.heap.size w w1 := ((Below.refl _ w).alloc (Nat.le_refl _) _).grown hgrow (by simp) (by simp [Value.ownBlock])
  have hJ1 := HJ.out.below (hB1.mono hB)
  have hs1 := hB1.size
  go_wp2_with (at_builtin; refine wpList_append_row _ rfl (.tmp 7) (.tmp 8) _ rfl w.heap.size 5 i0 _ 1 Try.underlying25 hi0 hz0 hz1 hz2 rfl _ _ _ rfl hown B A2 m c2 (bs b) rfl (by rw [bs_length]; exact HM.out) hJ1 (bs_one b) (by unfold maxLen; omega) (by omega) hs1 ?_)
  intro v2 w2 hown2 hgrow2 _ _
  have hB2 : Below w.heap.size w w2 := hB1.grown hgrow2 hs1 (fun j hj => (own_row hown hj).1)
  go_wp2
  go_ret
  exact ⟨_, rfl, by rw [HL.out, bs_append]; simpa using hown2, hB2⟩
section
variable {w : World} {F : Nat → Prop} {s : DS} {v : Nat → Sl} {cl k : Int}
theorem all0 (ok : Ok s) (h : RV w F s v cl k) : Calls Try.prog 60 #[rval s v cl k, .int .i64 0] w (Fresh w (s.all 0)) := by
  have hlen : (s.all 0).length ≤ 1048576 := by have := ok.room; have := ok.cap; omega
  have hn1 := h.a0.len
  have hn2 := h.b0.len
  have b1 := h.a0.bytes
  have b2 := h.b0.bytes
  have hl1 : ((s.all 0).take (s.safe 0)).length ≤ 1048576 := by rw [List.length_take]; omega
  have hl2 : ((s.all 0).drop (s.safe 0)).length ≤ 1048576 := by rw [List.length_drop]; omega
  have HL : Hid ((s.all 0).take (s.safe 0) ++ (s.all 0).drop (s.safe 0) = s.all 0) := Lib.hid (List.take_append_drop _ _)
  generalize (s.all 0).take (s.safe 0) = l1 at *
  generalize (s.all 0).drop (s.safe 0) = l2 at *
  rw [← hn1] at hl1
  rw [← hn2] at hl2
  have HN1 := Lib.hid hn1
  have HN2 := Lib.hid hn2
  have HB1 := Lib.hid b1
  have HB2 := Lib.hid b2
  have hS := Blk.new_ w 69 (rcells s v cl k) rfl
  have hW : Below w.heap.size w (w.alloc (.cells (rcells s v cl k) 69)) := (Below.refl _ w).alloc (Nat.le_refl _) _
  clear b1 b2 h ok hn1 hn2
  unfold rval
  go_enter Try.func60, Try.ntmps60
  go_wp2_with fail
  generalize hX : rcells s v cl k = X at *
  have x1 : X[1]? = some (.slice (v 1).1 (v 1).2.1 (v 1).2.2) := by rw [← hX]; rfl
  have x2 : X[2]? = some (.slice (v 2).1 (v 2).2.1 (v 2).2.2) := by rw [← hX]; rfl
  clear hX hlen
  refine wp_region_heldG [] (fun _ W => Blk W w.heap.size 69 X) (by kernel_rfl) ?_
  change wpAnyG _ _ _ _ _ _ 12 _ _ (World.drew _)
  have hS := hS.drew
  have HW := Lib.hid hW.drew
  clear hW
  generalize v 1 = y1 at *
  generalize v 2 = y2 at *
  obtain ⟨A1, n1, c1⟩ := y1
  obtain ⟨A2, n2, c2⟩ := y2
  simp only at hl1 hl2 HN1 HN2 HB1 HB2 x1 x2
  -- take0 take1 take2 take3 take4 take5 take6 take7 take8 take9 one10 take11 done
  refine g_take (i := 0) rfl rfl (by kernel_rfl) (by kernel_rfl) (by kernel_rfl) (by kernel_rfl) (by kernel_rfl) (fun _ _ _ h => h) hS (fun L W hL hW => by go_simp; rfl) ?_
  refine g_take (i := 1) rfl rfl (by kernel_rfl) (by kernel_rfl) (by kernel_rfl) (by kernel_rfl) (by kernel_rfl) (fun _ _ _ h => h) hS (fun L W hL hW => by go_simp; rfl) ?_
  refine g_take (i := 2) rfl rfl (by kernel_rfl) (by kernel_rfl) (by kernel_rfl) (by kernel_rfl) (by kernel_rfl) (fun _ _ _ h => h) hS (fun L W hL hW => by go_simp; rfl) ?_
  refine g_take (i := 3) rfl rfl (by kernel_rfl) (by kernel_rfl) (by kernel_rfl) (by kernel_rfl) (by kernel_rfl) (fun _ _ _ h => h) hS (fun L W hL hW => by go_simp; rfl) ?_
  refine g_take (i := 4) rfl rfl (by kernel_rfl) (by kernel_rfl) (by kernel_rfl) (by kernel_rfl) (by kernel_rfl) (fun _ _ _ h => h) hS (fun L W hL hW => by have q := hW.at_ 1 x1; have q2 := hW.at_ 2 x2; go_simp; rfl) ?_
  refine g_take (i := 5) rfl rfl (by kernel_rfl) (by kernel_rfl) (by kernel_rfl) (by kernel_rfl) (by kernel_rfl) (fun _ _ _ h => h) hS (fun L W hL hW => by go_simp; rfl) ?_
  refine g_take (i := 6) rfl rfl (by kernel_rfl) (by kernel_rfl) (by kernel_rfl) (by kernel_rfl) (by kernel_rfl) (fun _ _ _ h => h) hS (fun L W hL hW => by go_simp; rfl) ?_
  refine g_take (i := 7) rfl rfl (by kernel_rfl) (by kernel_rfl) (by kernel_rfl) (by kernel_rfl) (by kernel_rfl) (fun _ _ _ h => h) hS (fun L W hL hW => by go_simp; rfl) ?_
  refine g_take (i := 8) rfl rfl (by kernel_rfl) (by kernel_rfl) (by kernel_rfl) (by kernel_rfl) (by kernel_rfl) (fun _ _ _ h => h) hS (fun L W hL hW => by go_simp; rfl) ?_
  refine g_take (i := 9) rfl rfl (by kernel_rfl) (by kernel_rfl) (by kernel_rfl) (by kernel_rfl) (by kernel_rfl) (fun _ _ _ h => h) hS (fun L W hL hW => by have q := hW.at_ 1 x1; have q2 := hW.at_ 2 x2; go_simp; rfl) ?_
  refine g_one (i := 10) rfl rfl (by kernel_rfl) fun K hK => ?_
  go_simp
  refine Calls.mono (join_any (B := w.heap.size) (by simp) A1 A2 c1 c2 l1 l2 n1 n2 HN1.out HN2.out (by omega) (by omega) (HB1.out.below HW.out) (HB2.out.below HW.out)) ?_
  rintro e w2 ⟨u, rfl, hown, hb⟩
  rw [HL.out] at hown
  have HO := Lib.hid hown
  have HB3 := Lib.hid (HW.out.trans (hb.mono HW.out.size))
  clear hown
  have hS := hS.below hb hS.lt
  refine hK _ _ hS ?_
  clear hK K
  refine g_take (i := 11) rfl rfl (by kernel_rfl) (by kernel_rfl) (by kernel_rfl) (by kernel_rfl) (by kernel_rfl) (fun _ _ _ h => h) hS (fun L W hL hW => by go_simp; rfl) ?_
  refine wpAnyG_done (by kernel_rfl) ?_ _
  go_simp
  go_wp2_with fail
  go_ret
  exact ⟨_, rfl, own_base HO.out HW.out.size, HB3.out⟩
theorem all1 (ok : Ok s) (h : RV w F s v cl k) : Calls Try.prog 60 #[rval s v cl k, .int .i64 1] w (Fresh w (s.all 1)) := by
  have hlen : (s.all 1).length ≤ 1048576 := by have := ok.room; have := ok.cap; omega
  have hn1 := h.a1.len
  have hn2 := h.b1.len
  have b1 := h.a1.bytes
  have b2 := h.b1.bytes
  have hl1 : ((s.all 1).take (s.safe 1)).length ≤ 1048576 := by rw [List.length_take]; omega
  have hl2 : ((s.all 1).drop (s.safe 1)).length ≤ 1048576 := by rw [List.length_drop]; omega
  have HL : Hid ((s.all 1).take (s.safe 1) ++ (s.all 1).drop (s.safe 1) = s.all 1) := Lib.hid (List.take_append_drop _ _)
  generalize (s.all 1).take (s.safe 1) = l1 at *
  generalize (s.all 1).drop (s.safe 1) = l2 at *
  rw [← hn1] at hl1
  rw [← hn2] at hl2
  have HN1 := Lib.hid hn1
  have HN2 := Lib.hid hn2
  have HB1 := Lib.hid b1
  have HB2 := Lib.hid b2
  have hS := Blk.new_ w 69 (rcells s v cl k) rfl
  have hW : Below w.heap.size w (w.alloc (.cells (rcells s v cl k) 69)) := (Below.refl _ w).alloc (Nat.le_refl _) _
  clear b1 b2 h ok hn1 hn2
  unfold rval
  go_enter Try.func60, Try.ntmps60
  go_wp2_with fail
  generalize hX : rcells s v cl k = X at *
  have x1 : X[3]? = some (.slice (v 3).1 (v 3).2.1 (v 3).2.2) := by rw [← hX]; rfl
  have x2 : X[4]? = some (.slice (v 4).1 (v 4).2.1 (v 4).2.2) := by rw [← hX]; rfl
  clear hX hlen
  refine wp_region_heldG [] (fun _ W => Blk W w.heap.size 69 X) (by kernel_rfl) ?_
  change wpAnyG _ _ _ _ _ _ 12 _ _ (World.drew _)
  have hS := hS.drew
  have HW := Lib.hid hW.drew
  clear hW
  generalize v 3 = y1 at *
  generalize v 4 = y2 at *
  obtain ⟨A1, n1, c1⟩ := y1
  obtain ⟨A2, n2, c2⟩ := y2
  simp only at hl1 hl2 HN1 HN2 HB1 HB2 x1 x2
  -- take0 take1 take2 take3 take4 take5 take6 take7 take8 take9 one10 take11 done
  refine g_take (i := 0) rfl rfl (by kernel_rfl) (by kernel_rfl) (by kernel_rfl) (by kernel_rfl) (by kernel_rfl) (fun _ _ _ h => h) hS (fun L W hL hW => by go_simp; rfl) ?_
  refine g_take (i := 1) rfl rfl (by kernel_rfl) (by kernel_rfl) (by kernel_rfl) (by kernel_rfl) (by kernel_rfl) (fun _ _ _ h => h) hS (fun L W hL hW => by go_simp; rfl) ?_
  refine g_take (i := 2) rfl rfl (by kernel_rfl) (by kernel_rfl) (by kernel_rfl) (by kernel_rfl) (by kernel_rfl) (fun _ _ _ h => h) hS (fun L W hL hW => by go_simp; rfl) ?_
  refine g_take (i := 3) rfl rfl (by kernel_rfl) (by kernel_rfl) (by kernel_rfl) (by kernel_rfl) (by kernel_rfl) (fun _ _ _ h => h) hS (fun L W hL hW => by go_simp; rfl) ?_
  refine g_take (i := 4) rfl rfl (by kernel_rfl) (by kernel_rfl) (by kernel_rfl) (by kernel_rfl) (by kernel_rfl) (fun _ _ _ h => h) hS (fun L W hL hW => by have q := hW.at_ 3 x1; have q2 := hW.at_ 4 x2; go_simp; rfl) ?_
  refine g_take (i := 5) rfl rfl (by kernel_rfl) (by kernel_rfl) (by kernel_rfl) (by kernel_rfl) (by kernel_rfl) (fun _ _ _ h => h) hS (fun L W hL hW => by go_simp; rfl) ?_
  refine g_take (i := 6) rfl rfl (by kernel_rfl) (by kernel_rfl) (by kernel_rfl) (by kernel_rfl) (by kernel_rfl) (fun _ _ _ h => h) hS (fun L W hL hW => by go_simp; rfl) ?_
  refine g_take (i := 7) rfl rfl (by kernel_rfl) (by kernel_rfl) (by kernel_rfl) (by kernel_rfl) (by kernel_rfl) (fun _ _ _ h => h) hS (fun L W hL hW => by go_simp; rfl) ?_
  refine g_take (i := 8) rfl rfl (by kernel_rfl) (by kernel_rfl) (by kernel_rfl) (by kernel_rfl) (by kernel_rfl) (fun _ _ _ h => h) hS (fun L W hL hW => by go_simp; rfl) ?_
  refine g_take (i := 9) rfl rfl (by kernel_rfl) (by kernel_rfl) (by kernel_rfl) (by kernel_rfl) (by kernel_rfl) (fun _ _ _ h => h) hS (fun L W hL hW => by have q := hW.at_ 3 x1; have q2 := hW.at_ 4 x2; go_simp; rfl) ?_
  refine g_one (i := 10) rfl rfl (by kernel_rfl) fun K hK => ?_
  go_simp
  refine Calls.mono (join_any (B := w.heap.size) (by simp) A1 A2 c1 c2 l1 l2 n1 n2 HN1.out HN2.out (by omega) (by omega) (HB1.out.below HW.out) (HB2.out.below HW.out)) ?_
  rintro e w2 ⟨u, rfl, hown, hb⟩
  rw [HL.out] at hown
  have HO := Lib.hid hown
  have HB3 := Lib.hid (HW.out.trans (hb.mono HW.out.size))
  clear hown
  have hS := hS.below hb hS.lt
  refine hK _ _ hS ?_
  clear hK K
  refine g_take (i := 11) rfl rfl (by kernel_rfl) (by kernel_rfl) (by kernel_rfl) (by kernel_rfl) (by kernel_rfl) (fun _ _ _ h => h) hS (fun L W hL hW => by go_simp; rfl) ?_
  refine wpAnyG_done (by kernel_rfl) ?_ _
  go_simp
  go_wp2_with fail
  go_ret
  exact ⟨_, rfl, own_base HO.out HW.out.size, HB3.out⟩
theorem rread (ok : Ok s) (h : RV w F s v cl k) (i : Int) : Calls Try.prog 53 #[rval s v cl k, .int .i64 i] w (Fresh w (rd s i)) := by
  have hB : Below w.heap.size w (w.alloc (.cells #[.int .i64 (s.cap : Nat), .slice (v 1).1 (v 1).2.1 (v 1).2.2, .slice (v 2).1 (v 2).2.1 (v 2).2.2, .slice (v 3).1 (v 3).2.1 (v 3).2.2, .slice (v 4).1 (v 4).2.1 (v 4).2.2, .slice (v 5).1 (v 5).2.1 (v 5).2.2, .slice (v 6).1 (v 6).2.1 (v 6).2.2, .slice (v 7).1 (v 7).2.1 (v 7).2.2, .slice (v 8).1 (v 8).2.1 (v 8).2.2, .bool s.fuse.isSome, .int .i64 cl, .int .i64 k, .bool s.dead] 69)) := (Below.refl _ w).alloc (Nat.le_refl _) _
  unfold rval rcells
  cases hd : s.dead
  rotate_left
  · have HR : Hid (rd s i = []) := Lib.hid (by unfold Dk.rd; rw [hd]; rfl)
    rw [hd] at hB
    clear h ok hd
    go_enter Try.func53, Try.ntmps53
    go_wp2_with fail
    go_ret
    rw [HR.out]
    exact ⟨_, rfl, own_nil _ _ _, hB⟩
  by_cases h0 : i < 0
  · have HR : Hid (rd s i = []) := Lib.hid (by unfold Dk.rd; rw [hd, if_neg (by simp), if_neg (by simp; omega)])
    rw [hd] at hB
    clear h ok hd
    go_enter Try.func53, Try.ntmps53
    go_wp2_with fail
    go_ret
    rw [HR.out]
    exact ⟨_, rfl, own_nil _ _ _, hB⟩
  by_cases h1 : 1 < i
  · have HR : Hid (rd s i = []) := Lib.hid (by unfold Dk.rd; rw [hd, if_neg (by simp), if_neg (by simp; omega)])
    rw [hd] at hB
    clear h ok hd
    go_enter Try.func53, Try.ntmps53
    go_wp2_with fail
    go_ret
    rw [HR.out]
    exact ⟨_, rfl, own_nil _ _ _, hB⟩
  rcases (by omega : i = 0 ∨ i = 1) with rfl | rfl
  all_goals clear h0 h1
  · have HR : Hid (rd s 0 = s.all 0) := Lib.hid (by unfold Dk.rd; rw [hd, if_neg (by simp), if_pos (by decide)]; rfl)
    have HC := Lib.hid (all0 ok (h.below hB))
    unfold rval rcells at HC
    rw [hd] at hB HC
    clear h ok hd
    go_enter Try.func53, Try.ntmps53
    go_wp2_with fail
    refine Calls.mono HC.out ?_
    rintro e w2 ⟨u, rfl, hown, hb⟩
    have HO := Lib.hid hown
    have HW := Lib.hid hB
    have HB3 := Lib.hid (hB.trans (hb.mono hB.size))
    clear hown hb hB
    go_wp2_with fail
    go_ret
    rw [HR.out]
    exact ⟨_, rfl, own_base HO.out HW.out.size, HB3.out⟩
  · have HR : Hid (rd s 1 = s.all 1) := Lib.hid (by unfold Dk.rd; rw [hd, if_neg (by simp), if_pos (by decide)]; rfl)
    have HC := Lib.hid (all1 ok (h.below hB))
    unfold rval rcells at HC
    rw [hd] at hB HC
    clear h ok hd
    go_enter Try.func53, Try.ntmps53
    go_wp2_with fail
    refine Calls.mono HC.out ?_
    rintro e w2 ⟨u, rfl, hown, hb⟩
    have HO := Lib.hid hown
    have HW := Lib.hid hB
    have HB3 := Lib.hid (hB.trans (hb.mono hB.size))
    clear hown hb hB
    go_wp2_with fail
    go_ret
    rw [HR.out]
    exact ⟨_, rfl, own_base HO.out HW.out.size, HB3.out⟩
end
end Go.Proofs.Ytpohefpiidlnjaa.Dr
