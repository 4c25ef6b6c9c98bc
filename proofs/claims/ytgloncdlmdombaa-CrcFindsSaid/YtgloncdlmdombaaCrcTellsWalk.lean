/-
  The walk of the statement CrcTells.
-/
import Derived.Test.YtgloncdlmdombaaCrcAwake
namespace Go.Proofs.Ytgloncdlmdombaa.CrcW
open Go.RowKit Go.Proofs Go.Proofs.Ytgloncdlmdombaa Go.Proofs.Ytgloncdlmdombaa.Wd
open Go.Proofs.Ytgloncdlmdombaa.Crc (sumB sumB_lt sumB_snoc)

theorem infoU8 : (Try.prog.info? 5).map (fun i => (i.zero, i.size, i.bytes)) = some (some (.int .u8 0), 1, 1) := by kernel_rfl
theorem own_empty (w : World) (e : TypeId) {B : Nat} (hB : B ≤ w.heap.size) : (w.alloc (.cells #[] e)).ownsRow B e 1 (.slice (some ⟨w.heap.size, 0, none⟩) 0 0) 0 [] :=
  Blk.own (Blk.new_ w e #[] rfl) hB 0 (Nat.le_refl _) (by simp [maxLen])

set_option maxHeartbeats 1000000 in
theorem tells_walk (i s : Nat) (hi : i < 256) (hs : s < 4294967296) (A : Option Addr) (cap : Nat) (l : List UInt8) (w : World) (_hl : l.length ≤ cap) (_hm : cap ≤ maxLen) (hI : Bytes w w.heap.size A l) :
    Calls Try.prog 3 #[.int .u8 i, .int .u32 s, .slice A l.length cap] w fun e w' => e = .returned (.bool true) ∧ Below w.heap.size w w' := by
  by_cases h3 : 300 < l.length
  · go_enter Try.func3, Try.ntmps3
    go_wp2_with fail
    refine Calls.mono (awake_any _) ?_
    rintro e w7 ⟨rfl, hB7⟩
    go_wp2
    go_ret
    exact ⟨rfl, hB7⟩
  · obtain ⟨i0, hi0, hz0, hz1, hz2⟩ := info_parts infoU8
    have hst := fun (W : World) (A : Option Addr) (c : Nat) (h : Bytes W W.heap.size A l) => run_convert_bytes (P := Try.prog) W 23 5 9 Try.underlying23 Try.underlying5 Try.underlying9 h c (n := l.length) rfl
    have HST := Lib.hid hst
    clear hst
    go_enter Try.func3, Try.ntmps3
    go_wp2_with (at_builtin; refine wpList_append_row _ rfl (.tmp 12) (.tmp 13) _ rfl w.heap.size 5 i0 _ 1 Try.underlying23 hi0 hz0 hz1 hz2 rfl _ 0 [] rfl (by exact own_empty _ _ (Nat.le_refl _)) w.heap.size A l.length cap (bs l) rfl (bs_length l).symm (by exact hI.alloc (Nat.le_refl _) _) (bs_one l) (by unfold maxLen; omega) (by omega) (by simp) ?_)
    intro v' w1 hown hgrow _ _
    obtain ⟨A1, c1, rfl, hR⟩ := own_slice hown
    have hB1 : Below w.heap.size w w1 := ((Below.refl _ w).alloc (Nat.le_refl _) _).grown hgrow (by simp) (by simp [Value.ownBlock])
    have hI1 : Bytes w1 w1.heap.size A1 l := hR
    have hJ1 : Bytes w1 w1.heap.size A l := (hI.below hB1).more hB1.size
    clear hown hgrow hR hI
    go_wp2_with fail
    refine Calls.mono (table_any i hi _) ?_
    rintro e w2 ⟨rfl, hb2⟩
    have hB2 := hB1.trans (hb2.mono hB1.size)
    have hI2 := (hI1.below hb2).more hb2.size
    have hJ2 := (hJ1.below hb2).more hb2.size
    clear hB1 hI1 hJ1 hb2
    go_wp2_with fail
    refine Calls.mono (reftable_any i hi _) ?_
    rintro e w3 ⟨rfl, rfl⟩
    go_wp2_with fail
    refine Calls.mono (next_any s i hs hi _) ?_
    rintro e w4 ⟨rfl, hb4⟩
    have hB4 := hB2.trans (hb4.mono hB2.size)
    have hI4 := (hI2.below hb4).more hb4.size
    have hJ4 := (hJ2.below hb4).more hb4.size
    clear hB2 hI2 hJ2 hb4
    go_wp2_with fail
    refine Calls.mono (refnext_any s i hs hi _) ?_
    rintro e w5 ⟨rfl, rfl⟩
    go_wp2_with fail
    refine Calls.mono (sum_any A1 c1 l (by omega) _ hI4) ?_
    rintro e w6 ⟨rfl, hb6⟩
    have hB6 := hB4.trans (hb6.mono hB4.size)
    have hI6 := (hI4.below hb6).more hb6.size
    have hJ6 := (hJ4.below hb6).more hb6.size
    clear hB4 hI4 hJ4 hb6
    go_wp2_with fail
    refine Calls.mono (refsum_any A cap l (by omega) _ hJ6) ?_
    rintro e w7 ⟨rfl, rfl⟩
    have k1 := HST.out w6 A1 c1 hI6
    have k2 := HST.out w6 A cap hJ6
    go_wp2_with fail
    refine Calls.mono (awake_any _) ?_
    rintro e w8 ⟨rfl, hb8⟩
    go_wp2
    go_ret
    exact ⟨rfl, hB6.trans (hb8.mono hB6.size)⟩
end Go.Proofs.Ytgloncdlmdombaa.CrcW
