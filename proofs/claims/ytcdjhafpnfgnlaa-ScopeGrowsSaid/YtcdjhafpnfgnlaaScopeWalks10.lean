/-
  The walks of the reference's Chain, Deep, Over, Below.
-/
import Derived.Test.YtcdjhafpnfgnlaaScopeWalks7
namespace Go.Proofs.Ytcdjhafpnfgnlaa.ScW
set_option linter.unusedVariables false
open Go.RowKit Go.Shelf Go.Proofs Go.Proofs.Ytcdjhafpnfgnlaa Go.Proofs.Ytcdjhafpnfgnlaa.Wd
open Go.Proofs.Ytcdjhafpnfgnlaa.Sc (N own flow rightAt right chain place chainI deep over below owned)

theorem refchain_out (A : Option Addr) (c : Nat) (ns : List N) (n : Nat) (hn : n = ns.length) (i : Int) (hp : place ns i = false) (w : World) :
    Calls Try.prog 18 #[.slice A n c, .int .i64 i] w (IntsOut w (toI (chainI ns i))) := by
  have hc : Hid (toI (chainI ns i) = []) := Lib.hid (by unfold chainI; rw [hp]; rfl)
  rw [hc.out]
  by_cases h1 : i < 0
  · have u1 : decide (i < 0) = true := by simpa using h1
    clear hp hn
    go_enter Try.func18, Try.ntmps18
    go_wp2
    go_ret
    exact ⟨none, 0, rfl, Below.refl _ _, own_nil _ _ _⟩
  · have u1 : decide (i < 0) = false := by simpa using h1
    have u2 : decide ((n : Int) ≤ i) = true := by unfold place at hp; simp at hp ⊢; omega
    clear hp hn
    go_enter Try.func18, Try.ntmps18
    go_wp2
    go_ret
    exact ⟨none, 0, rfl, Below.refl _ _, own_nil _ _ _⟩

set_option maxRecDepth 100000 in
set_option maxHeartbeats 4000000 in
theorem refchain_at (A : Option Addr) (c : Nat) (ns : List N) (n : Nat) (hn : n = ns.length) (hcm : n ≤ 1000000000000) (hr : right ns = true) (j : Nat) :
    j < n → ∀ (w : World), Nodes w w.heap.size A ns → Calls Try.prog 18 #[.slice A n c, .int .i64 j] w (IntsOut w (toI (chain ns j))) := by
  have HN := Lib.hid hn
  have HR := Lib.hid hr
  clear hn hr
  induction j using Nat.strongRecOn with
  | _ j ih =>
  intro hj w hI
  have hjl : j < ns.length := by have := HN.out; omega
  obtain ⟨b1, o1, rfl, hb1, hc4⟩ := hI.own_at hjl
  have hrt := Sc.right_at HR.out hjl
  have u1 : decide ((j : Int) < 0) = false := by simp
  have u2 : decide ((n : Int) ≤ (j : Int)) = false := by simp; omega
  have i0 : (0 : Int) ≤ (j : Int) := by omega
  have i1 : (j : Int) < (n : Int) := by omega
  by_cases c3 : own ns j < 0
  · have u3 : decide (own ns j < 0) = true := by simpa using c3
    have hc : Hid (toI (chain ns j) = []) := Lib.hid (by rw [Sc.chain_none c3]; rfl)
    rw [hc.out]
    clear hrt c3
    go_enter Try.func18, Try.ntmps18
    go_wp2
    go_ret
    exact ⟨none, 0, rfl, Below.refl _ _, own_nil _ _ _⟩
  · have u3 : decide (own ns j < 0) = false := by simpa using c3
    obtain ⟨m, hm⟩ : ∃ m : Nat, own ns j = m := ⟨(own ns j).toNat, by omega⟩
    have hmj : m < j := by have := hrt.2.1; omega
    have hc : Hid (chain ns j = m :: chain ns m) := Lib.hid (by rw [Sc.chain_some (by omega) hrt.2.1, hm]; rfl)
    have HLEN : Hid ((chain ns m).length ≤ m) := Lib.hid (Sc.chain_length ns m)
    have HIH := Lib.hid (ih m hmj (by omega))
    rw [hm] at hc4 u3
    clear hm c3 hrt ih
    obtain ⟨i0', hi0, hz0, hz1, hz2⟩ := info_parts infoInt
    have HI : Hid (∀ W, Below w.heap.size w W → Nodes W W.heap.size (some ⟨b1, o1, none⟩) ns) := Lib.hid fun W hW => hI.grow hW
    clear hI
    rw [hc.out]
    go_enter Try.func18, Try.ntmps18
    go_wp2_with fail
    refine wp_region_heldG [] (fun _ W => Below w.heap.size w W) (by kernel_rfl) ?_
    change wpAnyG _ _ _ _ _ _ 15 _ _ (World.drew _)
    have hS : Below w.heap.size w w.drew := (Below.refl _ w).drew
    refine g_take (i := 0) rfl rfl (by kernel_rfl) (by kernel_rfl) (by kernel_rfl) (by kernel_rfl) (by kernel_rfl) (fun _ _ _ h => h) hS (fun L W hL hW => by have cW := (hW.cell (p := ⟨b1, _, none⟩) hb1).trans hc4; go_simp; rfl) ?_
    refine g_take (i := 1) rfl rfl (by kernel_rfl) (by kernel_rfl) (by kernel_rfl) (by kernel_rfl) (by kernel_rfl) (fun _ _ _ h => h) hS (fun L W hL hW => by have cW := (hW.cell (p := ⟨b1, _, none⟩) hb1).trans hc4; go_simp; rfl) ?_
    refine g_take (i := 2) rfl rfl (by kernel_rfl) (by kernel_rfl) (by kernel_rfl) (by kernel_rfl) (by kernel_rfl) (fun _ _ _ h => h) hS (fun L W hL hW => by have cW := (hW.cell (p := ⟨b1, _, none⟩) hb1).trans hc4; go_simp; rfl) ?_
    refine g_take (i := 3) rfl rfl (by kernel_rfl) (by kernel_rfl) (by kernel_rfl) (by kernel_rfl) (by kernel_rfl) (fun _ _ _ h => h) hS (fun L W hL hW => by have cW := (hW.cell (p := ⟨b1, _, none⟩) hb1).trans hc4; go_simp; rfl) ?_
    refine g_take (i := 4) rfl rfl (by kernel_rfl) (by kernel_rfl) (by kernel_rfl) (by kernel_rfl) (by kernel_rfl) (fun _ _ _ h => h) hS (fun L W hL hW => by have cW := (hW.cell (p := ⟨b1, _, none⟩) hb1).trans hc4; go_simp; rfl) ?_
    refine g_take (i := 6) rfl rfl (by kernel_rfl) (by kernel_rfl) (by kernel_rfl) (by kernel_rfl) (by kernel_rfl) (fun _ _ _ h => h) hS (fun L W hL hW => by have cW := (hW.cell (p := ⟨b1, _, none⟩) hb1).trans hc4; go_simp; rfl) ?_
    refine g_take (i := 7) rfl rfl (by kernel_rfl) (by kernel_rfl) (by kernel_rfl) (by kernel_rfl) (by kernel_rfl) (fun _ _ _ h => h) hS (fun L W hL hW => by have cW := (hW.cell (p := ⟨b1, _, none⟩) hb1).trans hc4; go_simp; rfl) ?_
    refine g_take (i := 8) rfl rfl (by kernel_rfl) (by kernel_rfl) (by kernel_rfl) (by kernel_rfl) (by kernel_rfl) (fun _ _ _ h => h) hS (fun L W hL hW => by have cW := (hW.cell (p := ⟨b1, _, none⟩) hb1).trans hc4; go_simp; rfl) ?_
    refine g_take (i := 9) rfl rfl (by kernel_rfl) (by kernel_rfl) (by kernel_rfl) (by kernel_rfl) (by kernel_rfl) (fun _ _ _ h => h) hS (fun L W hL hW => by have cW := (hW.cell (p := ⟨b1, _, none⟩) hb1).trans hc4; go_simp; rfl) ?_
    refine g_take (i := 10) rfl rfl (by kernel_rfl) (by kernel_rfl) (by kernel_rfl) (by kernel_rfl) (by kernel_rfl) (fun _ _ _ h => h) hS (fun L W hL hW => by have cW := (hW.cell (p := ⟨b1, _, none⟩) hb1).trans hc4; go_simp; rfl) ?_
    refine g_take (i := 11) rfl rfl (by kernel_rfl) (by kernel_rfl) (by kernel_rfl) (by kernel_rfl) (by kernel_rfl) (fun _ _ _ h => h) hS (fun L W hL hW => by have cW := (hW.cell (p := ⟨b1, _, none⟩) hb1).trans hc4; go_simp; rfl) ?_
    refine g_two (i := 5) (j := 12) (by kernel_rfl) rfl rfl rfl rfl (fun K hK => ?_) (fun K hK => ?_)
    · go_simp
      have hS1 := hS.alloc hS.size (.cells #[.int .i64 (m : Int)] 3)
      refine hK _ _ hS1 ?_
      clear hK K
      have hb5 := Blk.new_ w.drew 3 #[.int .i64 (m : Int)] rfl
      refine g_one (i := 12) rfl rfl (by kernel_rfl) fun K hK => ?_
      go_simp
      refine Calls.mono (HIH.out _ (HI.out _ hS1)) ?_
      rintro e w2 ⟨A2, c2, rfl, hb2, ho2⟩
      have hS2 := hS1.trans (hb2.mono hS1.size)
      refine hK _ _ hS2 ?_
      clear hK K
      have hb5' := hb5.below hb2 hb5.lt
      have hown5 := hb5'.own (base := w.heap.size) (by simp) 1 (Nat.le_refl _) (by simp [maxLen])
      have hrow := Row.of_own ho2
      refine g_one (i := 13) rfl rfl (by kernel_rfl) fun K hK => ?_
      refine wp_append_row _ (.tmp 26) (.tmp 33) _ rfl w.heap.size 3 i0' _ 8 Try.underlying22 hi0 hz0 hz1 hz2 rfl _ 1 (iv [(m : Int)]) rfl hown5 _ A2 (toI (chain ns m)).length c2 _ rfl (by rw [iv_length]) hrow (iv_one _) (by rw [toI_length]; have := HLEN.out; unfold maxLen; omega) (by rw [toI_length]; have := HLEN.out; omega) hS2.size ?_
      intro v3 w3 hown3 hgrow3 _ _
      have hS3 := hS2.grown hgrow3 hS2.size (fun g hg => (own_row hown5 hg).1)
      refine hK _ _ hS3 ?_
      clear hK K
      obtain ⟨A3, c3, rfl⟩ := own_form hown3
      refine g_take (i := 14) rfl rfl (by kernel_rfl) (by kernel_rfl) (by kernel_rfl) (by kernel_rfl) (by kernel_rfl) (fun _ _ _ h => h) hS3 (fun L W hL hW => by go_simp; rfl) ?_
      refine wpAnyG_done (by kernel_rfl) ?_ _
      have HO := Lib.hid hown3
      clear hown3 hown5 hgrow3 hrow ho2 hb2 hb5' hb5 hS1 hS2
      go_wp2
      go_ret
      have hl : (toI (m :: chain ns m)).length = 1 + (toI (chain ns m)).length := by rw [toI_length, toI_length, List.length_cons, Nat.add_comm]
      refine ⟨A3, c3, ?_, hS3, ?_⟩
      · rw [hl]; rfl
      · rw [hl]; exact HO.out
    · go_simp
      refine Calls.mono (HIH.out _ (HI.out _ hS)) ?_
      rintro e w2 ⟨A2, c2, rfl, hb2, ho2⟩
      have hS2 := hS.trans (hb2.mono hS.size)
      refine hK _ _ hS2 ?_
      clear hK K
      refine g_one (i := 5) rfl rfl (by kernel_rfl) fun K hK => ?_
      go_simp
      have hS3 := hS2.alloc hS2.size (.cells #[.int .i64 (m : Int)] 3)
      refine hK _ _ hS3 ?_
      clear hK K
      have hb5 := Blk.new_ w2 3 #[.int .i64 (m : Int)] rfl
      have hown5 := hb5.own (base := w.heap.size) hS2.size 1 (Nat.le_refl _) (by simp [maxLen])
      have hrow := Row.of_own (own_belowW ho2 ((Below.refl _ w2).alloc (Nat.le_refl _) (.cells #[.int .i64 (m : Int)] 3)))
      refine g_one (i := 13) rfl rfl (by kernel_rfl) fun K hK => ?_
      refine wp_append_row _ (.tmp 26) (.tmp 33) _ rfl w.heap.size 3 i0' _ 8 Try.underlying22 hi0 hz0 hz1 hz2 rfl _ 1 (iv [(m : Int)]) rfl hown5 _ A2 (toI (chain ns m)).length c2 _ rfl (by rw [iv_length]) hrow (iv_one _) (by rw [toI_length]; have := HLEN.out; unfold maxLen; omega) (by rw [toI_length]; have := HLEN.out; omega) hS3.size ?_
      intro v3 w3 hown3 hgrow3 _ _
      have hS4 := hS3.grown hgrow3 hS3.size (fun g hg => (own_row hown5 hg).1)
      refine hK _ _ hS4 ?_
      clear hK K
      obtain ⟨A3, c3, rfl⟩ := own_form hown3
      refine g_take (i := 14) rfl rfl (by kernel_rfl) (by kernel_rfl) (by kernel_rfl) (by kernel_rfl) (by kernel_rfl) (fun _ _ _ h => h) hS4 (fun L W hL hW => by go_simp; rfl) ?_
      refine wpAnyG_done (by kernel_rfl) ?_ _
      have HO := Lib.hid hown3
      clear hown3 hown5 hgrow3 hrow ho2 hb2 hb5 hS3 hS2
      go_wp2
      go_ret
      have hl : (toI (m :: chain ns m)).length = 1 + (toI (chain ns m)).length := by rw [toI_length, toI_length, List.length_cons, Nat.add_comm]
      refine ⟨A3, c3, ?_, hS4, ?_⟩
      · rw [hl]; rfl
      · rw [hl]; exact HO.out

theorem refchain_any (A : Option Addr) (c : Nat) (ns : List N) (n : Nat) (hn : n = ns.length) (hcm : n ≤ 1000000000000) (hr : right ns = true) (i : Int) (w : World) (hI : Nodes w w.heap.size A ns) :
    Calls Try.prog 18 #[.slice A n c, .int .i64 i] w (IntsOut w (toI (chainI ns i))) := by
  cases hp : place ns i
  · exact refchain_out A c ns n hn i hp w
  · have hp' := hp
    unfold place at hp'
    simp at hp'
    obtain ⟨j, rfl⟩ : ∃ j : Nat, i = j := ⟨i.toNat, by omega⟩
    have := refchain_at A c ns n hn hcm hr j (by omega) w hI
    unfold chainI
    rw [hp, if_pos rfl]
    exact this
end Go.Proofs.Ytcdjhafpnfgnlaa.ScW
