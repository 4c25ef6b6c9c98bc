/-
  The walk of rec.Put.
-/
import Derived.Test.YtnclbonoenjbeaaRecWalks2
namespace Go.Proofs.Ytnclbonoenjbeaa.RecW
open Go.RowKit Go.Proofs Go.Proofs.Ytnclbonoenjbeaa Go.Proofs.Ytnclbonoenjbeaa.Wd Go.Proofs.Ytnclbonoenjbeaa.CrcW
open Go.Proofs.Ytnclbonoenjbeaa.Crc (sumB sumB_lt)
open Go.Proofs.Ytnclbonoenjbeaa.Rec (four number fine putErr rest R)

/-- What Put answers. -/
def Wrote (w : World) (r : R) (e : Ending) (w' : World) : Prop :=
  ∃ (v : Value), e = .returned (.tuple #[v, .int .i64 (putErr r : Nat)]) ∧ Below w.heap.size w w' ∧ (putErr r ≠ 0 → v = .slice none 0 0) ∧ (putErr r = 0 → w'.ownsRow w.heap.size 5 1 v (Rec.bytes r).length (bs (Rec.bytes r)))

theorem four_len (n : Nat) : (four n).length = 4 := rfl
theorem own_ge {w : World} {base g : Nat} {e : TypeId} {size n : Nat} {v : Value} {xs : List Value} (h : w.ownsRow base e size v n xs) (hg : v.ownBlock = some g) : base ≤ g := by
  rcases h.2 with ⟨rfl, _⟩ | ⟨g', cap, cur, rfl, hb, _⟩
  · simp [Value.ownBlock] at hg
  · have : g' = g := by simpa [Value.ownBlock] using hg
    omega

set_option maxRecDepth 100000 in
set_option maxHeartbeats 2000000 in
theorem put_any (k : UInt8) (A : Option Addr) (c : Nat) (d : List UInt8) (n : Nat) (hn : n = d.length) (w : World) (hI : Bytes w w.heap.size A d) :
    Calls Try.prog 16 #[.agg #[.int .u8 (k.toNat : Nat), .slice A n c]] w (Wrote w (k, d)) := by
  subst hn
  have hz := Blk.new_ w 42 #[.int .u8 (k.toNat : Nat), .slice A d.length c] rfl
  have hB0 : Below w.heap.size w (w.alloc (.cells #[.int .u8 (k.toNat : Nat), .slice A d.length c] 42)) := (Below.refl _ w).alloc (Nat.le_refl _) _
  have hsz0 : w.heap.size < (w.alloc (.cells #[.int .u8 (k.toNat : Nat), .slice A d.length c] 42)).heap.size := hz.lt
  go_enter Try.func16, Try.ntmps16
  go_wp2_with fail
  refine Calls.mono (kind_any k _) ?_
  rintro e w1 ⟨rfl, rfl⟩
  cases hf : fine k
  case false =>
    have he := Lib.hid (show putErr (k, d) = 30 by unfold putErr; rw [hf]; rfl)
    clear hf
    go_wp2_with fail
    refine bodyPost_ret (v := .tuple #[.slice none 0 0, .int .i64 30]) (by simp [results, Try.results16, go_sem]) rfl ?_
    exact ⟨_, by rw [he.out]; rfl, hB0, fun _ => rfl, fun h => by rw [he.out] at h; cases h⟩
  by_cases h4 : 4096 < d.length
  · have he := Lib.hid (show putErr (k, d) = 31 by unfold putErr; rw [hf, if_pos rfl, if_neg (by exact Nat.not_le.2 h4)])
    have h4' : (4096 : Int) < (d.length : Int) := by omega
    clear hf
    go_wp2_with fail
    refine bodyPost_ret (v := .tuple #[.slice none 0 0, .int .i64 31]) (by simp [results, Try.results16, go_sem]) rfl ?_
    exact ⟨_, by rw [he.out]; rfl, hB0, fun _ => rfl, fun h => by rw [he.out] at h; cases h⟩
  have he := Lib.hid (show putErr (k, d) = 0 by unfold putErr; rw [hf, if_pos rfl, if_pos (Nat.not_lt.1 h4)])
  have h4' : ¬ (4096 : Int) < (d.length : Int) := by omega
  clear hf
  go_wp2_with fail
  generalize w.alloc (.cells #[.int .u8 (k.toNat : Nat), .slice A d.length c] 42) = w0 at hz hB0 hsz0
  refine wp_region_held (S := fun W => Below (w.heap.size + 1) w0 W) (by kernel_rfl) ?_
  have hS := (Below.refl (w.heap.size + 1) w0).drew
  change wpAnyH _ _ _ _ _ 13 _ _ w0.drew
  refine held_take (i := 0) rfl rfl (by kernel_rfl) (by kernel_rfl) (by kernel_rfl) (fun _ _ _ h => h) hS (fun W hW => by go_simp; rfl) ?_
  refine held_take (i := 1) rfl rfl (by kernel_rfl) (by kernel_rfl) (by kernel_rfl) (fun _ _ _ h => h) hS (fun W hW => by have c0 := (hz.below hW (Nat.lt_succ_self _)).cell 0; simp only [List.getElem?_toArray, List.getElem?_cons_zero] at c0; go_simp; rfl) ?_
  refine held_take (i := 3) rfl rfl (by kernel_rfl) (by kernel_rfl) (by kernel_rfl) (fun _ _ _ h => h) hS (fun W hW => by go_simp; rfl) ?_
  refine held_take (i := 4) rfl rfl (by kernel_rfl) (by kernel_rfl) (by kernel_rfl) (fun _ _ _ h => h) hS (fun W hW => by have c1 := (hz.below hW (Nat.lt_succ_self _)).cell 1; simp only [List.getElem?_toArray, List.getElem?_cons_zero, List.getElem?_cons_succ] at c1; go_simp; rfl) ?_
  refine held_take (i := 5) rfl rfl (by kernel_rfl) (by kernel_rfl) (by kernel_rfl) (fun _ _ _ h => h) hS (fun W hW => by go_simp; rfl) ?_
  refine held_take (i := 6) rfl rfl (by kernel_rfl) (by kernel_rfl) (by kernel_rfl) (fun _ _ _ h => h) hS (fun W hW => by go_simp; rfl) ?_
  refine held_take (i := 9) rfl rfl (by kernel_rfl) (by kernel_rfl) (by kernel_rfl) (fun _ _ _ h => h) hS (fun W hW => by go_simp; rfl) ?_
  refine held_take (i := 10) rfl rfl (by kernel_rfl) (by kernel_rfl) (by kernel_rfl) (fun _ _ _ h => h) hS (fun W hW => by have c1 := (hz.below hW (Nat.lt_succ_self _)).cell 1; simp only [List.getElem?_toArray, List.getElem?_cons_zero, List.getElem?_cons_succ] at c1; go_simp; rfl) ?_
  have hwr : IntKind.u32.wrap (d.length : Int) = d.length := by rw [IntKind.wrap_u32']; omega
  obtain ⟨i0, hi0, hz0, hz1, hz2⟩ := info_parts infoU8
  have hBd : w.heap.size + 1 ≤ w0.drew.heap.size := hsz0
  refine held_two (i := 2) (j := 7) (by kernel_rfl) rfl rfl rfl rfl (fun K hK => ?_) (fun K hK => ?_)
  · go_simp
    have hb17 := Blk.new_ w0.drew 5 #[.int .u8 (k.toNat : Nat)] rfl
    have hS1 := hS.alloc hBd (.cells #[.int .u8 (k.toNat : Nat)] 5)
    refine hK _ _ hS1 ?_
    clear hK K
    have hBe : w.heap.size + 1 ≤ (w0.drew.alloc (.cells #[.int .u8 (k.toNat : Nat)] 5)).heap.size := by simp; omega
    refine held_one (i := 7) rfl rfl (by kernel_rfl) fun K hK => ?_
    go_simp
    refine Calls.mono (four_any d.length (by omega) _) ?_
    rintro e w2 ⟨rfl, rfl⟩
    have hb22 := Blk.new_ (w0.drew.alloc (.cells #[.int .u8 (k.toNat : Nat)] 5)) 5 (bs (four d.length)).toArray rfl
    have hb17' := hb17.alloc (.cells (bs (four d.length)).toArray 5)
    have hS2 := hS1.alloc hBe (.cells (bs (four d.length)).toArray 5)
    have hR22 := Row.blk hb22 hb22.lt
    have hown17 := hb17'.own hBd 1 (Nat.le_refl _) (by simp [maxLen])
    have hsz2 := hS2.size
    refine hK _ _ hS2 ?_
    clear hK K
    refine held_one (i := 8) rfl rfl (by kernel_rfl) fun K hK => ?_
    refine wp_append_row _ (.tmp 17) (.tmp 22) _ rfl (w.heap.size + 1) 5 i0 _ 1 Try.underlying24 hi0 hz0 hz1 hz2 rfl _ 1 (bs [k]) rfl hown17 _ _ 4 4 (bs (four d.length)) rfl rfl hR22 (bs_one _) (by unfold maxLen; omega) (by omega) (by simp; omega) ?_
    intro v23 w3 hown23 hgrow3 _ hat3
    have hS3 := hS2.grown hgrow3 (by omega) (by intro g hg; exact own_ge hown17 hg)
    have hB3 := (hB0.mono (Nat.le_refl _)).trans (hS3.mono (Nat.le_succ _))
    refine hK _ _ hS3 ?_
    clear hK K
    refine held_one (i := 11) rfl rfl (by kernel_rfl) fun K hK => ?_
    refine wp_append_row _ (.tmp 23) (.tmp 25) _ rfl (w.heap.size + 1) 5 i0 _ 1 Try.underlying24 hi0 hz0 hz1 hz2 rfl _ (1 + 4) _ rfl hown23 w.heap.size A d.length c (bs d) rfl (bs_length d).symm (by exact hI.below hB3) (bs_one d) (by unfold maxLen; omega) (by omega) (by have := hS3.size; omega) ?_
    intro v26 w4 hown26 hgrow4 _ hat4
    have hS4 := hS3.grown hgrow4 (by have := hS3.size; omega) (by intro g hg; exact own_ge hown23 hg)
    refine hK _ _ hS4 ?_
    clear hK K
    refine held_one (i := 12) rfl rfl (by kernel_rfl) fun K hK => ?_
    go_simp
    refine hK _ _ hS4 ?_
    clear hK K
    refine wpAnyH_done (by kernel_rfl) ?_ _
    obtain ⟨A26, c26, rfl, hR26⟩ := own_slice hown26
    have hB4 := (hB0.mono (Nat.le_refl _)).trans (hS4.mono (Nat.le_succ _))
    obtain ⟨rs, hrs⟩ : ∃ rs, rs = rest (k, d) := ⟨_, rfl⟩
    have hr : bs [k] ++ bs (four d.length) ++ bs d = bs rs := by rw [hrs]; simp [bs, rest]
    have hrl : 1 + 4 + d.length = rs.length := by rw [hrs, Rec.rest_length]; show _ = d.length + 5; omega
    have hrx : rs.length ≤ 5000 := by omega
    have HRS := Lib.hid hrs
    rw [hr] at hown26 hR26
    clear hr hrs hown26
    rw [hrl]
    clear hrl
    go_wp2_with fail
    refine Calls.mono (sum_any' _ _ rs _ rfl (by omega) _ (by exact hR26)) ?_
    rintro e w5 ⟨rfl, hb5⟩
    have hR5 := (Row.below hR26 hb5).more hb5.size
    have hB5 := hB4.trans (hb5.mono hB4.size)
    clear hR26 hb5
    go_wp2_with fail
    refine Calls.mono (four_any _ (sumB_lt _) _) ?_
    rintro e w6 ⟨rfl, rfl⟩
    have hb28 := Blk.new_ w5 5 (bs (four (sumB rs))).toArray rfl
    have hown28 : (w5.alloc (.cells (bs (four (sumB rs))).toArray 5)).ownsRow w5.heap.size 5 1 (.slice (some ⟨w5.heap.size, 0, none⟩) 4 4) 4 (bs (four (sumB rs))) := by
      have := hb28.own (Nat.le_refl _) 4 (by simp [bs, four]) (by simp [bs, four, maxLen])
      simpa [bs, four] using this
    go_wp2_with (at_builtin; refine wpList_append_row _ rfl (.tmp 29) (.tmp 30) _ rfl w5.heap.size 5 i0 _ 1 Try.underlying24 hi0 hz0 hz1 hz2 rfl _ 4 _ rfl (by exact hown28) w5.heap.size A26 rs.length c26 (bs rs) rfl (bs_length rs).symm (by exact hR5.alloc (Nat.le_refl _) _) (bs_one _) (by unfold maxLen; omega) (by omega) (by simp) ?_)
    intro v31 w7 hown31 hgrow7 _ _
    have hB7 := (hB5.alloc hB5.size (.cells (bs (four (sumB rs))).toArray 5)).grown hgrow7 (by simp; have := hB5.size; omega) (by intro g hg; simp [Value.ownBlock] at hg; have := hB5.size; omega)
    go_wp2_with fail
    refine bodyPost_ret (v := .tuple #[v31, .int .i64 0]) (by simp [results, Try.results16, go_sem]) rfl ?_
    refine ⟨v31, by rw [he.out]; rfl, hB7, fun h => absurd he.out h, fun _ => ?_⟩
    have hb : Rec.bytes (k, d) = four (sumB rs) ++ rs := by unfold Rec.bytes; rw [← HRS.out]
    rw [hb, bs_append, List.length_append, four_len]
    exact own_base hown31 hB5.size
  · go_simp
    refine Calls.mono (four_any d.length (by omega) _) ?_
    rintro e w2 ⟨rfl, rfl⟩
    have hb22 := Blk.new_ w0.drew 5 (bs (four d.length)).toArray rfl
    have hS1 := hS.alloc hBd (.cells (bs (four d.length)).toArray 5)
    have hBe : w.heap.size + 1 ≤ (w0.drew.alloc (.cells (bs (four d.length)).toArray 5)).heap.size := by simp; omega
    refine hK _ _ hS1 ?_
    clear hK K
    refine held_one (i := 2) rfl rfl (by kernel_rfl) fun K hK => ?_
    go_simp
    have hb17 := Blk.new_ (w0.drew.alloc (.cells (bs (four d.length)).toArray 5)) 5 #[.int .u8 (k.toNat : Nat)] rfl
    have hb22' := hb22.alloc (.cells #[.int .u8 (k.toNat : Nat)] 5)
    have hS2 := hS1.alloc hBe (.cells #[.int .u8 (k.toNat : Nat)] 5)
    have hR22 := Row.blk hb22' hb22'.lt
    have hown17 := hb17.own hBe 1 (Nat.le_refl _) (by simp [maxLen])
    have hsz : (w0.drew.alloc (.cells (bs (four d.length)).toArray 5)).heap.size = w0.heap.size + 1 := by simp
    rw [hsz] at hown17
    have hsz2 := hS2.size
    refine hK _ _ hS2 ?_
    clear hK K
    refine held_one (i := 8) rfl rfl (by kernel_rfl) fun K hK => ?_
    refine wp_append_row _ (.tmp 17) (.tmp 22) _ rfl (w.heap.size + 1) 5 i0 _ 1 Try.underlying24 hi0 hz0 hz1 hz2 rfl _ 1 (bs [k]) rfl hown17 _ _ 4 4 (bs (four d.length)) rfl rfl hR22 (bs_one _) (by unfold maxLen; omega) (by omega) (by simp; omega) ?_
    intro v23 w3 hown23 hgrow3 _ hat3
    have hS3 := hS2.grown hgrow3 (by omega) (by intro g hg; exact own_ge hown17 hg)
    have hB3 := (hB0.mono (Nat.le_refl _)).trans (hS3.mono (Nat.le_succ _))
    refine hK _ _ hS3 ?_
    clear hK K
    refine held_one (i := 11) rfl rfl (by kernel_rfl) fun K hK => ?_
    refine wp_append_row _ (.tmp 23) (.tmp 25) _ rfl (w.heap.size + 1) 5 i0 _ 1 Try.underlying24 hi0 hz0 hz1 hz2 rfl _ (1 + 4) _ rfl hown23 w.heap.size A d.length c (bs d) rfl (bs_length d).symm (by exact hI.below hB3) (bs_one d) (by unfold maxLen; omega) (by omega) (by have := hS3.size; omega) ?_
    intro v26 w4 hown26 hgrow4 _ hat4
    have hS4 := hS3.grown hgrow4 (by have := hS3.size; omega) (by intro g hg; exact own_ge hown23 hg)
    refine hK _ _ hS4 ?_
    clear hK K
    refine held_one (i := 12) rfl rfl (by kernel_rfl) fun K hK => ?_
    go_simp
    refine hK _ _ hS4 ?_
    clear hK K
    refine wpAnyH_done (by kernel_rfl) ?_ _
    obtain ⟨A26, c26, rfl, hR26⟩ := own_slice hown26
    have hB4 := (hB0.mono (Nat.le_refl _)).trans (hS4.mono (Nat.le_succ _))
    obtain ⟨rs, hrs⟩ : ∃ rs, rs = rest (k, d) := ⟨_, rfl⟩
    have hr : bs [k] ++ bs (four d.length) ++ bs d = bs rs := by rw [hrs]; simp [bs, rest]
    have hrl : 1 + 4 + d.length = rs.length := by rw [hrs, Rec.rest_length]; show _ = d.length + 5; omega
    have hrx : rs.length ≤ 5000 := by omega
    have HRS := Lib.hid hrs
    rw [hr] at hown26 hR26
    clear hr hrs hown26
    rw [hrl]
    clear hrl
    go_wp2_with fail
    refine Calls.mono (sum_any' _ _ rs _ rfl (by omega) _ (by exact hR26)) ?_
    rintro e w5 ⟨rfl, hb5⟩
    have hR5 := (Row.below hR26 hb5).more hb5.size
    have hB5 := hB4.trans (hb5.mono hB4.size)
    clear hR26 hb5
    go_wp2_with fail
    refine Calls.mono (four_any _ (sumB_lt _) _) ?_
    rintro e w6 ⟨rfl, rfl⟩
    have hb28 := Blk.new_ w5 5 (bs (four (sumB rs))).toArray rfl
    have hown28 : (w5.alloc (.cells (bs (four (sumB rs))).toArray 5)).ownsRow w5.heap.size 5 1 (.slice (some ⟨w5.heap.size, 0, none⟩) 4 4) 4 (bs (four (sumB rs))) := by
      have := hb28.own (Nat.le_refl _) 4 (by simp [bs, four]) (by simp [bs, four, maxLen])
      simpa [bs, four] using this
    go_wp2_with (at_builtin; refine wpList_append_row _ rfl (.tmp 29) (.tmp 30) _ rfl w5.heap.size 5 i0 _ 1 Try.underlying24 hi0 hz0 hz1 hz2 rfl _ 4 _ rfl (by exact hown28) w5.heap.size A26 rs.length c26 (bs rs) rfl (bs_length rs).symm (by exact hR5.alloc (Nat.le_refl _) _) (bs_one _) (by unfold maxLen; omega) (by omega) (by simp) ?_)
    intro v31 w7 hown31 hgrow7 _ _
    have hB7 := (hB5.alloc hB5.size (.cells (bs (four (sumB rs))).toArray 5)).grown hgrow7 (by simp; have := hB5.size; omega) (by intro g hg; simp [Value.ownBlock] at hg; have := hB5.size; omega)
    go_wp2_with fail
    refine bodyPost_ret (v := .tuple #[v31, .int .i64 0]) (by simp [results, Try.results16, go_sem]) rfl ?_
    refine ⟨v31, by rw [he.out]; rfl, hB7, fun h => absurd he.out h, fun _ => ?_⟩
    have hb : Rec.bytes (k, d) = four (sumB rs) ++ rs := by unfold Rec.bytes; rw [← HRS.out]
    rw [hb, bs_append, List.length_append, four_len]
    exact own_base hown31 hB5.size
end Go.Proofs.Ytnclbonoenjbeaa.RecW
