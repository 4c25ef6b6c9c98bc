/-
  The walk of the statement CrcLinear.
-/
import Derived.Test.YtgloncdlmdombaaCrcTellsWalk
namespace Go.Proofs.Ytgloncdlmdombaa.CrcW
open Go.RowKit Go.Proofs Go.Proofs.Ytgloncdlmdombaa Go.Proofs.Ytgloncdlmdombaa.Wd
open Go.Proofs.Ytgloncdlmdombaa.Crc (sumB sumB_lt sumB_snoc sumB_append)

theorem run_min4 (W : World) (ts : Array TypeId) (t : TypeId) (a b c n : Nat) (hn : n = min (min (min a b) c) 300) : (Builtin.min_ ts t #[.int .i64 (a : Int), .int .i64 (b : Int), .int .i64 (c : Int), .int .i64 300]).run Try.prog W = .ok (.int .i64 (n : Int)) W := by
  subst hn
  have e' : ∀ x y : Nat, (if (y : Int) < (x : Int) then (y : Int) else (x : Int)) = ((min x y : Nat) : Int) := by
    intro x y
    split
    · rw [Nat.min_eq_right (by omega)]
    · rw [Nat.min_eq_left (by omega)]
  have h3 := e' (min (min a b) c) 300
  simp only [Int.cast_ofNat_Int] at h3
  simp only [Builtin.min_, Builtin.min2, List.foldlM_cons, List.foldlM_nil, Sem.run_bind, Sem.run_pure, Result.andThen_ok, e', h3]

theorem sum_k (A : Option Addr) (cap : Nat) (zs : List UInt8) (k : Nat) (hk : k = zs.length) (hreach : zs.length ≤ 140737488351232) (w : World) (hI : Bytes w w.heap.size A zs) :
    Calls Try.prog 13 #[.slice A k cap] w fun e W' => e = .returned (.int .u32 (sumB zs : Nat)) ∧ Below w.heap.size w W' := by
  subst hk; exact sum_any A cap zs hreach w hI
/-- What stands at a place of three rows without carry. -/
def tri (a b c : List UInt8) (n : Nat) : List UInt8 := (List.range n).map fun i => a.getD i 0 ^^^ b.getD i 0 ^^^ c.getD i 0
theorem tri_sum (a b c : List UInt8) (n : Nat) (ha : n ≤ a.length) (hb : n ≤ b.length) (hc : n ≤ c.length) : sumB (tri a b c n) = sumB (a.take n) ^^^ sumB (b.take n) ^^^ sumB (c.take n) := by
  have h := Crc.sum_three ((List.range n).map fun i => ((a.getD i 0).toNat, (b.getD i 0).toNat, (c.getD i 0).toNat))
  have e : ∀ l : List UInt8, n ≤ l.length → (List.range n).map (fun i => (l.getD i 0).toNat) = Crc.nums (l.take n) := by
    intro l hl
    apply List.ext_getElem
    · simp [Crc.nums, hl]
    · intro i h1 h2
      have hi : i < l.length := by simp at h1; omega
      simp [Crc.nums, hi]
  simp only [List.map_map, Function.comp_def] at h
  rw [e a ha, e b hb, e c hc] at h
  unfold sumB
  rw [← h]
  congr 1
  simp [Crc.nums, tri, Function.comp_def]

set_option maxRecDepth 100000 in
set_option maxHeartbeats 2000000 in
theorem linear_walk (A B C : Option Addr) (ca cb cc : Nat) (a b c : List UInt8) (w : World) (hla : a.length ≤ ca) (hlb : b.length ≤ cb) (hlc : c.length ≤ cc) (hA : Bytes w w.heap.size A a) (hB : Bytes w w.heap.size B b) (hC : Bytes w w.heap.size C c) (hma : ca ≤ maxLen) (hmb : cb ≤ maxLen) (hmc : cc ≤ maxLen) :
    Calls Try.prog 7 #[.slice A a.length ca, .slice B b.length cb, .slice C c.length cc] w fun e w' => e = .returned (.bool true) ∧ Below w.heap.size w w' := by
  unfold maxLen at hma hmb hmc
  obtain ⟨n, hn⟩ : ∃ n, n = min (min (min a.length b.length) c.length) 300 := ⟨_, rfl⟩
  have hmin := fun (W : World) => run_min4 W #[3, 3, 3, 3] 3 a.length b.length c.length n hn
  have hna : n ≤ a.length := by omega
  have hnb : n ≤ b.length := by omega
  have hnc : n ≤ c.length := by omega
  have hn3 : n ≤ 300 := by omega
  clear hn
  obtain ⟨i0, hi0, hz0, hz1, hz2⟩ := info_parts infoU8
  go_enter Try.func7, Try.ntmps7
  go_wp2_with (at_make; refine wpList_make_full _ rfl _ _ 23 rfl w.heap.size 5 i0 _ 1 Try.underlying23 hi0 hz0 hz1 _ _ _ _ n rfl rfl rfl rfl (by rw [hz2]; omega) (by unfold maxLen; omega) (Nat.le_refl _) ?_)
  intro w1 hown hgrow
  have hB1 : Below w.heap.size w w1 := (Below.refl _ w).grown hgrow (Nat.le_refl _) (by simp)
  obtain ⟨hblk0, hsz0⟩ := own_full hown
  generalize hcs0 : ((madeCells #[Value.int .u8 0] n).toList).toArray = cs0 at hblk0
  have hsz0 : cs0.size = n := by rw [← hcs0]; simpa using hsz0
  clear hcs0
  clear hown hgrow
  go_wp2_with fail
  go_loopw [9, 21] (fun _ i wr => ∃ (k : Nat) (cs : Array Value), k ≤ n ∧ i = .int .i64 k ∧ Blk wr w.heap.size 5 cs ∧ cs.size = n ∧ (∀ j, j < k → cs[j]? = some (.int .u8 ((a.getD j 0 ^^^ b.getD j 0 ^^^ c.getD j 0).toNat : Nat))) ∧ Below w.heap.size w wr) (fun _ i _ => n - (intOf i).toNat)
  case atStart => exact ⟨0, cs0, Nat.zero_le _, rfl, hblk0, hsz0, by omega, hB1⟩
  case round =>
    clear hblk0 hsz0 hB1
    obtain ⟨k, cs, hk, rfl, hb, hs, hc, hBr⟩ := hrel
    by_cases hlt : k < n
    · obtain ⟨b1, o1, rfl, hb1, hc1⟩ := Bytes.at_ (hA.below hBr) (show k < a.length by omega)
      obtain ⟨b2, o2, rfl, hb2, hc2⟩ := Bytes.at_ (hB.below hBr) (show k < b.length by omega)
      obtain ⟨b3, o3, rfl, hb3, hc3⟩ := Bytes.at_ (hC.below hBr) (show k < c.length by omega)
      have hi1 : (k : Int) < (a.length : Int) := by omega
      have hi2 : (k : Int) < (b.length : Int) := by omega
      have hi3 : (k : Int) < (c.length : Int) := by omega
      have hi4 : (k : Int) < (n : Int) := by omega
      have hi0' : (0 : Int) ≤ (k : Int) := by omega
      have hx1 : bits .xor .u8 (((a[k]'(by omega)).toNat : Nat) : Int) (((b[k]'(by omega)).toNat : Nat) : Int) = (((a[k]'(by omega)).toNat ^^^ (b[k]'(by omega)).toNat : Nat) : Int) := u8_xor_nat _ _ (UInt8.toNat_lt _) (UInt8.toNat_lt _)
      have hx2 : bits .xor .u8 (((a[k]'(by omega)).toNat ^^^ (b[k]'(by omega)).toNat : Nat) : Int) (((c[k]'(by omega)).toNat : Nat) : Int) = (((a[k]'(by omega)).toNat ^^^ (b[k]'(by omega)).toNat ^^^ (c[k]'(by omega)).toNat : Nat) : Int) := u8_xor_nat _ _ (Nat.xor_lt_two_pow (n := 8) (UInt8.toNat_lt _) (UInt8.toNat_lt _)) (UInt8.toNat_lt _)
      have hval : (a.getD k 0 ^^^ b.getD k 0 ^^^ c.getD k 0).toNat = (a[k]'(by omega)).toNat ^^^ (b[k]'(by omega)).toNat ^^^ (c[k]'(by omega)).toNat := by
        simp [show k < a.length by omega, show k < b.length by omega, show k < c.length by omega]
      have HV := Lib.hid hval
      clear hval
      go_wp2_with fail
      go_still_tail 17, (by kernel_rfl)
      change wpList _ _ _ _ _ wr.drew
      have hf := hb.drew.frozen k
      obtain ⟨v0, hv0⟩ : ∃ v0, wr.drew.cell? ⟨w.heap.size, k, none⟩ = some v0 := ⟨_, by rw [hb.drew.cell]; exact Array.getElem?_eq_getElem (by omega)⟩
      go_wp2
      go_roundw
      case rel =>
        refine ⟨k + 1, _, by omega, by go_num, hb.set_ k _, by simp [hs], fun j hj => ?_, (hBr.setCell (p := ⟨w.heap.size, k, none⟩) (Nat.le_refl _) _).drew⟩
        rw [Array.getElem?_setIfInBounds]
        by_cases e : k = j
        · subst e
          rw [if_pos rfl, if_pos (by omega), HV.out]
        · rw [if_neg e]; exact hc j (by omega)
      case measure => simp [intOf]; omega
    · obtain rfl : k = n := by omega
      have hX : Bytes wr wr.heap.size (some ⟨w.heap.size, 0, none⟩) (tri a b c k) := by
        refine Bytes.blk hb hb.lt _ ?_
        apply List.ext_getElem
        · simp [bs, tri, hs]
        · intro i h1 h2
          have hi : i < k := by simp at h1; omega
          have := hc i hi
          rw [Array.getElem?_eq_getElem (by omega)] at this
          simp only [Array.getElem_toList]
          injection this with this
          rw [this]; simp [bs, tri]
      have hXl : (tri a b c k).length = k := by simp [tri]
      have hA' := ((hA.below hBr).more hBr.size).take k
      have hB' := ((hB.below hBr).more hBr.size).take k
      have hC' := ((hC.below hBr).more hBr.size).take k
      have htk : ∀ l : List UInt8, (bs l).take k = bs (l.take k) := fun l => by simp [bs, List.map_take]
      rw [htk] at hA' hB' hC'
      have HT := Lib.hid (tri_sum a b c k (by omega) (by omega) (by omega))
      have hxor1 : bits .xor .u32 ((sumB (a.take k) : Nat) : Int) ((sumB (b.take k) : Nat) : Int) = ((sumB (a.take k) ^^^ sumB (b.take k) : Nat) : Int) := xor32 _ _ (sumB_lt _) (sumB_lt _)
      have hxor2 : bits .xor .u32 ((sumB (a.take k) ^^^ sumB (b.take k) : Nat) : Int) ((sumB (c.take k) : Nat) : Int) = ((sumB (a.take k) ^^^ sumB (b.take k) ^^^ sumB (c.take k) : Nat) : Int) := xor32 _ _ (Crc.xor_lt (sumB_lt _) (sumB_lt _)) (sumB_lt _)
      have i1 : (k : Int) ≤ (ca : Int) := by omega
      have i2 : (k : Int) ≤ (cb : Int) := by omega
      have i3 : (k : Int) ≤ (cc : Int) := by omega
      go_wp2_with fail
      refine wp_region_held (S := fun W => Below wr.heap.size wr W) (by kernel_rfl) ?_
      have hS := (Below.refl wr.heap.size wr).drew
      change wpAnyH _ _ _ _ _ 21 _ _ wr.drew
      refine held_take (i := 0) rfl rfl (by kernel_rfl) (by kernel_rfl) (by kernel_rfl) (fun _ _ _ h => h) hS (fun W hW => by go_simp; rfl) ?_
      refine held_take (i := 2) rfl rfl (by kernel_rfl) (by kernel_rfl) (by kernel_rfl) (fun _ _ _ h => h) hS (fun W hW => by go_simp; rfl) ?_
      refine held_take (i := 3) rfl rfl (by kernel_rfl) (by kernel_rfl) (by kernel_rfl) (fun _ _ _ h => h) hS (fun W hW => by go_simp; rfl) ?_
      refine held_take (i := 4) rfl rfl (by kernel_rfl) (by kernel_rfl) (by kernel_rfl) (fun _ _ _ h => h) hS (fun W hW => by go_simp; rfl) ?_
      refine held_take (i := 6) rfl rfl (by kernel_rfl) (by kernel_rfl) (by kernel_rfl) (fun _ _ _ h => h) hS (fun W hW => by go_simp; rfl) ?_
      refine held_take (i := 7) rfl rfl (by kernel_rfl) (by kernel_rfl) (by kernel_rfl) (fun _ _ _ h => h) hS (fun W hW => by go_simp; rfl) ?_
      refine held_take (i := 8) rfl rfl (by kernel_rfl) (by kernel_rfl) (by kernel_rfl) (fun _ _ _ h => h) hS (fun W hW => by go_simp; rfl) ?_
      refine held_take (i := 11) rfl rfl (by kernel_rfl) (by kernel_rfl) (by kernel_rfl) (fun _ _ _ h => h) hS (fun W hW => by go_simp; rfl) ?_
      refine held_take (i := 12) rfl rfl (by kernel_rfl) (by kernel_rfl) (by kernel_rfl) (fun _ _ _ h => h) hS (fun W hW => by go_simp; rfl) ?_
      refine held_take (i := 13) rfl rfl (by kernel_rfl) (by kernel_rfl) (by kernel_rfl) (fun _ _ _ h => h) hS (fun W hW => by go_simp; rfl) ?_
      refine held_one (i := 1) rfl rfl (by kernel_rfl) fun K hK => ?_
      go_simp
      refine Calls.mono (sum_k _ _ (tri a b c k) k hXl.symm (by omega) _ (by exact hX)) ?_
      rintro e w2 ⟨rfl, hb2⟩
      have hS2 := hS.trans hb2
      refine hK _ _ hS2 ?_
      clear hK K hb2
      refine held_one (i := 5) rfl rfl (by kernel_rfl) fun K hK => ?_
      go_simp
      refine Calls.mono (sum_k _ _ (a.take k) k (by simp; omega) (by simp; omega) _ ((hA'.below hS2).more hS2.size)) ?_
      rintro e w3 ⟨rfl, hb3⟩
      have hS3 := hS2.trans (hb3.mono hS2.size)
      refine hK _ _ hS3 ?_
      clear hK K hb3 hS2
      refine held_one (i := 9) rfl rfl (by kernel_rfl) fun K hK => ?_
      go_simp
      refine Calls.mono (sum_k _ _ (b.take k) k (by simp; omega) (by simp; omega) _ ((hB'.below hS3).more hS3.size)) ?_
      rintro e w4 ⟨rfl, hb4⟩
      have hS4 := hS3.trans (hb4.mono hS3.size)
      refine hK _ _ hS4 ?_
      clear hK K hb4 hS3
      refine held_take (i := 10) rfl rfl (by kernel_rfl) (by kernel_rfl) (by kernel_rfl) (fun _ _ _ h => h) hS4 (fun W hW => by go_simp; rfl) ?_
      refine held_one (i := 14) rfl rfl (by kernel_rfl) fun K hK => ?_
      go_simp
      refine Calls.mono (sum_k _ _ (c.take k) k (by simp; omega) (by simp; omega) _ ((hC'.below hS4).more hS4.size)) ?_
      rintro e w5 ⟨rfl, hb5⟩
      have hS5 := hS4.trans (hb5.mono hS4.size)
      refine hK _ _ hS5 ?_
      clear hK K hb5 hS4
      refine held_take (i := 15) rfl rfl (by kernel_rfl) (by kernel_rfl) (by kernel_rfl) (fun _ _ _ h => h) hS5 (fun W hW => by go_simp; rfl) ?_
      rw [HT.out]
      refine held_take (i := 16) rfl rfl (by kernel_rfl) (by kernel_rfl) (by kernel_rfl) (fun _ _ _ h => h) hS5 (fun W hW => by go_simp; rfl) ?_
      refine held_take (i := 17) rfl rfl (by kernel_rfl) (by kernel_rfl) (by kernel_rfl) (fun _ _ _ h => h) hS5 (fun W hW => by go_simp; rfl) ?_
      refine held_one_g (i := 18) rfl (by first | rfl | simp [Region.wanted, yielded]) (by kernel_rfl) fun K hK => ?_
      go_simp
      refine Calls.mono (awake_any _) ?_
      rintro e w6 ⟨rfl, hb6⟩
      have hS6 := hS5.trans (hb6.mono hS5.size)
      refine hK _ _ hS6 ?_
      clear hK K hb6 hS5
      refine held_take (i := 19) rfl rfl (by kernel_rfl) (by kernel_rfl) (by kernel_rfl) (fun _ _ _ h => h) hS6 (fun W hW => by go_simp; rfl) ?_
      refine held_take (i := 20) rfl rfl (by kernel_rfl) (by kernel_rfl) (by kernel_rfl) (fun _ _ _ h => h) hS6 (fun W hW => by go_simp; rfl) ?_
      refine wpAnyH_done (by kernel_rfl) ?_ _
      go_wp2
      go_ret
      exact ⟨rfl, hBr.trans (hS6.mono hBr.size)⟩
end Go.Proofs.Ytgloncdlmdombaa.CrcW
