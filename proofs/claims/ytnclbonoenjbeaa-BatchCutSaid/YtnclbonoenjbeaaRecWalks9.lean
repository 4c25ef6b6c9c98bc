/-
  The walks of the reference's All.
-/
import Derived.Test.YtnclbonoenjbeaaRecWalks8
namespace Go.Proofs.Ytnclbonoenjbeaa.RecW
set_option linter.unusedVariables false
open Go.RowKit Go.Proofs Go.Proofs.Ytnclbonoenjbeaa Go.Proofs.Ytnclbonoenjbeaa.Wd Go.Proofs.Ytnclbonoenjbeaa.CrcW
open Go.Proofs.Ytnclbonoenjbeaa.Crc (sumB sumB_lt)
open Go.Proofs.Ytnclbonoenjbeaa.Rec (R four number fine takeErr takeEnd takeRec putErr number_lt)


set_option maxRecDepth 100000 in
set_option maxHeartbeats 2000000 in
theorem refall_any (A : Option Addr) (cap : Nat) (b : List UInt8) (n : Nat) (hn : n = b.length) (hbc : b.length ≤ cap) (hreach : b.length ≤ 1000000000000) (w : World) (hI : Bytes w w.heap.size A b) :
    Calls Try.prog 37 #[.slice A n cap] w (AllOut w b) := by
  subst hn
  have g2 : (b.length : Int) ≤ (cap : Int) := by omega
  have infoR : (Try.prog.info? 42).map (·.size) = some 2 := by kernel_rfl
  obtain ⟨i0, hi0, hz0, hz1, hz2⟩ := info_parts infoRec
  go_enter Try.func37, Try.ntmps37
  go_wp2
  go_loopw [5, 6] (fun v i wr => ∃ (k : Nat) (pre : List R) (xs : List Value), k ≤ b.length ∧ i = .int .i64 k ∧ RowKit.Hid (pre.length ≤ k) ∧ RowKit.Hid (Rec.Reach b pre k) ∧ wr.ownsRow w.heap.size 42 2 v pre.length xs ∧ RecsAt wr w.heap.size xs pre ∧ Below w.heap.size w wr) (fun _ i _ => b.length - (intOf i).toNat)
  case atStart => exact ⟨0, [], [], Nat.zero_le _, rfl, Lib.hid (Nat.le_refl _), Lib.hid (Rec.Reach.start b), World.ownsRow_nil _ _ _ _, RecsAt.nil _ _, Below.refl _ _⟩
  case round =>
    obtain ⟨k, pre, xs, hk, rfl, hpl, hRe, ho, hr, hB⟩ := hrel
    by_cases hlt : k < b.length
    · obtain ⟨bb, off, rfl, hbb, _⟩ := hI.at_ hlt
      have hcd : Bytes w w.heap.size (some ⟨bb, off + k, none⟩) (b.drop k) := by
        unfold Bytes; rw [show bs (b.drop k) = (bs b).drop k by simp [bs, List.map_drop]]
        exact Row.drop hI (fun _ _ _ h => by cases h; rfl)
      have g4 : ¬ cap = k := by omega
      have g5 : (k : Int) ≤ (b.length : Int) := by omega
      go_wp2_with fail
      refine Calls.mono (reftake_any _ _ (b.drop k) _ (by simp) (by simp; omega) (by simp; omega) _ (by exact (hcd.below hB).more hB.size)) ?_
      rintro e w1 ⟨kk, d, v, m, rfl, hb1, hown, hok, hbad⟩
      have hvo := own_one hown
      have hB1 := hB.trans (hb1.mono hB.size)
      have ho1 := own_below ho hb1
      have hr1 := hr.keep (KeepU8.below hb1)
      have hzr := Blk.new_ w1 42 #[.int .u8 0, .slice none 0 0] rfl
      have hb2 : Below w1.heap.size w1 ((w1.alloc (.cells #[.int .u8 0, .slice none 0 0] 42)).setRow w1.heap.size #[.int .u8 (kk.toNat : Nat), v]) := below_setRow ((Below.refl _ w1).alloc (Nat.le_refl _) _) (Nat.le_refl _) _
      have hB2 := hB1.trans (hb2.mono hB1.size)
      have ho2 := own_below ho1 hb2
      have hr2 := hr1.keep (KeepU8.below hb2)
      have hown2 := own_base (own_below hown hb2) hB.size
      clear ho ho1 hr hr1 hown hb1 hb2
      by_cases he : takeErr (b.drop k) = 0
      · obtain ⟨hrec, rfl⟩ := hok he
        have hle := (Rec.takeEnd_le he).2.1
        rw [List.length_drop] at hle
        have h9 : 9 ≤ takeEnd (b.drop k) := by unfold takeEnd; omega
        have hRn := Lib.hid (hRe.out.next he)
        rw [← hrec] at hRn
        rw [he]
        generalize takeEnd (b.drop k) = m at *
        clear hok hbad hrec he hRe
        have hnew := heap_alloc_new ((w1.alloc (.cells #[.int .u8 0, .slice none 0 0] 42)).setRow w1.heap.size #[.int .u8 (kk.toNat : Nat), v]) (.cells #[.int .u8 (kk.toNat : Nat), v] 42)
        simp only [size_setRow, World.size_alloc] at hnew
        go_wp2_with (first | (refine wpList_put_row rfl rfl 42 _ _ rfl w1.heap.size rfl 42 _ #[.int .u8 (kk.toNat : Nat), v] rfl hzr (by rw [infoR]; rfl) rfl (by intro u hu; simp at hu; rcases hu with rfl | rfl; rfl; exact hvo) ?_) | (refine wpList_load_row rfl 42 (.tmp 7) rfl w1.heap.size rfl 42 #[.int .u8 (kk.toNat : Nat), v] _ _ (hzr.row _) Try.underlying42 rfl (by rw [infoR]; rfl) ?_) | (at_builtin; refine wpList_append_lies _ rfl (.tmp 27) (.tmp 29) _ rfl w.heap.size 42 i0 _ 2 32 Try.underlying69 hi0 hz0 hz1 hz2 rfl (by omega) _ pre.length xs rfl (ho2.alloc _) ⟨w1.heap.size + 1, 0, none⟩ 1 1 [.int .u8 (kk.toNat : Nat), v] rfl rfl (World.news_of_block (by exact hnew)) (by intro u hu; simp at hu; rcases hu with rfl | rfl; rfl; exact hvo) (by omega) (by have := hpl.out; unfold maxLen; omega) (by have := hpl.out; omega) (by have := hB2.size; simp at this ⊢; omega) (w1.heap.size + 1 + 1) (by simp) ?_))
        intro g3 cap3 w4 hown3 hgrow hat hlt3
        have hrow := fun (j : Nat) hj => own_row (ho2.alloc (.cells #[.int .u8 (kk.toNat : Nat), v] 42)) (g := j) hj
        have hBS := hB2.size
        have hB4 := (hB2.alloc hBS (.cells #[.int .u8 (kk.toNat : Nat), v] 42)).grown hgrow (by simp at hBS ⊢; omega) (fun j hj => (hrow j hj).1)
        have hKU := (KeepU8.alloc ((w1.alloc (.cells #[.int .u8 0, .slice none 0 0] 42)).setRow w1.heap.size #[.int .u8 (kk.toNat : Nat), v]) (.cells #[.int .u8 (kk.toNat : Nat), v] 42)).trans (KeepU8.grown hgrow fun j hj => by
          obtain ⟨_, cs, hb⟩ := hrow j hj
          exact ⟨_, _, _, hb.out, by decide⟩)
        have hr4 := (hr2.keep hKU).snoc (k := kk) (own_u8 hown2 hKU)
        have hlen := Lib.hid (show (pre ++ [(kk, d)]).length = pre.length + 1 by simp)
        have HO : Hid (w4.ownsRow w.heap.size 42 2 (.slice (some ⟨g3, 0, none⟩) (pre.length + 1) cap3) (pre ++ [(kk, d)]).length (xs ++ [.int .u8 (kk.toNat : Nat), v])) := Lib.hid (by rw [hlen.out]; exact hown3)
        clear hgrow hrow hat hlt3 hKU hr2 hown2 hown3 hnew hzr hB2 ho2 hBS
        have hpl2 : Hid ((pre ++ [(kk, d)]).length ≤ k + m) := Lib.hid (by rw [hlen.out]; have := hpl.out; omega)
        clear hlen
        go_wp2
        go_roundw
        case rel => exact ⟨k + m, _, _, by omega, by go_num, hpl2, hRn, HO.out, hr4, hB4⟩
        case measure => simp [intOf]; omega
      · obtain ⟨rfl, rfl, rfl, rfl⟩ := hbad he
        have hst := Lib.hid (hRe.out.stop hlt he)
        have hne : (((takeErr (b.drop k) : Nat) : Int) != 0) = true := by rw [bne_iff_ne]; omega
        generalize takeErr (b.drop k) = x at *
        clear hok hbad he hRe
        have u0 : (((0 : UInt8).toNat : Nat) : Int) = 0 := rfl
        simp only [u0] at hB2 ho2 hr2 hown2
        go_wp2_with (refine wpList_put_row rfl rfl 42 _ _ rfl w1.heap.size rfl 42 _ #[.int .u8 0, .slice none 0 0] rfl hzr (by rw [infoR]; rfl) rfl (by intro u hu; simp at hu; rcases hu with rfl | rfl <;> rfl) ?_)
        go_ret3
        exact ⟨_, xs, by rw [hst.out]; rfl, hB2, by rw [hst.out]; exact ho2, by rw [hst.out]; exact hr2⟩
    · obtain rfl : k = b.length := by omega
      have hfu := Lib.hid (hRe.out.full (by omega))
      clear hRe
      go_wp2
      go_ret3
      exact ⟨_, xs, by rw [hfu.out]; rfl, hB, by rw [hfu.out]; exact ho, by rw [hfu.out]; exact hr⟩
end Go.Proofs.Ytnclbonoenjbeaa.RecW
