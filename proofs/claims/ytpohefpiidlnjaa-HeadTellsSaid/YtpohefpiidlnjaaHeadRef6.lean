/-
  The walk of SameDisk.
-/
import Derived.Test.YtpohefpiidlnjaaHeadRef5
import Derived.Test.YtpohefpiidlnjaaHeadAwake
namespace Go.Proofs.Ytpohefpiidlnjaa.Hr
set_option linter.unusedVariables false
open Go Go.RowKit Go.Proofs Go.Proofs.Ytpohefpiidlnjaa Go.Proofs.Ytpohefpiidlnjaa.Wd
open Go.Proofs.Ytpohefpiidlnjaa.Dk (DS Ok hd rd At)
open Go.Proofs.Ytpohefpiidlnjaa.Dr (Sl RV rval rcells Ref)
theorem own_read {w : World} {base n : Nat} {v : Value} {l : List UInt8} (h : w.ownsRow base 5 1 v n (bs l)) : ∃ A c, v = .slice A l.length c ∧ l.length ≤ c ∧ c ≤ maxLen ∧ Bytes w w.heap.size A l := by
  obtain ⟨A, c, rfl, h1, h2, h3⟩ := own_bytes h
  subst h2
  exact ⟨A, c, rfl, h1, own_cap' h, h3⟩
set_option maxRecDepth 100000 in
set_option maxHeartbeats 8000000 in
theorem samedisk_any {w : World} {base g : Nat} {F G : Nat → Prop} {s : DS} {v : Nat → Sl} {cl k : Int} (hA : At w base F g s) (h : RV w G s v cl k) : Calls Try.prog 32 #[.pointer (some ⟨g, 0, none⟩), rval s v cl k] w fun e w' => e = .returned (.bool true) ∧ Below w.heap.size w w' := by
  obtain ⟨X, hX⟩ : ∃ X, X = rcells s v cl k := ⟨_, rfl⟩
  unfold Dr.rval
  rw [← hX]
  have HX := Lib.hid hX
  have hbx := Blk.new_ w 69 X rfl
  have hlow := (Below.refl w.heap.size w).alloc (Nat.le_refl _) (.cells X 69)
  have hA0 := hA.below hlow
  have hR0 := h.below hlow
  have hok := hA.ok
  clear hX hA h
  go_enter Try.func32, Try.ntmps32
  go_upto_region 1 with fail
  generalize w.alloc (.cells X 69) = w0 at *
  have HBX0 := Lib.hid hbx
  have HLOW := Lib.hid hlow
  have HA0 := Lib.hid hA0
  have HR0 := Lib.hid hR0
  have HOK := Lib.hid hok
  clear hbx hlow hA0 hR0 hok
  have HB0 : Hid (Below w0.heap.size w0 w0) := Lib.hid (Below.refl _ _)
  go_wp2_with fail
  go_loopw [6] (fun i wr => ∃ j : Nat, j ≤ 2 ∧ i = .int .i64 j ∧ Hid (Below w0.heap.size w0 wr)) (fun i _ => 2 - (intOf i).toNat)
  case atStart => exact ⟨0, Nat.zero_le _, rfl, HB0⟩
  case round =>
    obtain ⟨j, hj, rfl, HB⟩ := hrel
    clear HB0
    have HAT : Hid (∀ W, Below wr.heap.size wr W → At W base F g s) := Lib.hid (fun W hW => (HA0.out.below HB.out).below hW)
    have HRR : Hid (∀ W, Below wr.heap.size wr W → ∀ i : Int, Calls Try.prog 53 #[rval s v cl k, .int .i64 i] W (Dk.Fresh W (rd s i))) := Lib.hid (fun W hW i => Dr.rread HOK.out ((HR0.out.below HB.out).below hW) i)
    have HRH : Hid (∀ W, Below wr.heap.size wr W → ∀ i : Int, Calls Try.prog 49 #[rval s v cl k, .int .i64 i] W (Dr.SliceOut G (hd s i) W)) := Lib.hid (fun W hW i => Dr.rhead HOK.out ((HR0.out.below HB.out).below hW) i)
    have HRF : Hid (∀ W, Below wr.heap.size wr W → Calls Try.prog 55 #[rval s v cl k] W fun e w' => e = .returned (.int .i64 (Dk.free s : Nat)) ∧ Below W.heap.size W w') := Lib.hid (fun W hW => Dr.rfree HOK.out ((HR0.out.below HB.out).below hW))
    have HBX := Lib.hid (HBX0.out.below HB.out HBX0.out.lt)
    by_cases hlt : j < 2
    · have i1 : (0 : Int) ≤ (j : Int) := by omega
      have i2 : (j : Int) < 2 := by omega
      clear HRF
      go_wp2_with fail
      refine wp_region_heldG [] (fun _ W => Below wr.heap.size wr W) (by kernel_rfl) ?_
      change wpAnyG _ _ _ _ _ _ 18 _ _ (World.drew wr)
      have hS : Below wr.heap.size wr wr.drew := (Below.refl _ wr).drew
      -- take0 take1 take3 take4 one2 one5 one6 take7 take8 take9G take10G take12G take13G one11G one14G one15G take16G take17 done
      refine g_take (i := 0) rfl rfl (by kernel_rfl) (by kernel_rfl) (by kernel_rfl) (by kernel_rfl) (by kernel_rfl) (fun _ _ _ h => h) hS (fun L W hL hW => by go_simp; rfl) ?_
      refine g_take (i := 1) rfl rfl (by kernel_rfl) (by kernel_rfl) (by kernel_rfl) (by kernel_rfl) (by kernel_rfl) (fun _ _ _ h => h) hS (fun L W hL hW => by go_simp; rfl) ?_
      refine g_take (i := 3) rfl rfl (by kernel_rfl) (by kernel_rfl) (by kernel_rfl) (by kernel_rfl) (by kernel_rfl) (fun _ _ _ h => h) hS (fun L W hL hW => Dr.run_load_row 69 (.tmp 3) rfl w.heap.size (by go_simp) 69 X _ _ (HBX.out.below hW HBX.out.lt).out Try.underlying69 rfl (by rw [Dr.rx_size HX.out]; kernel_rfl)) ?_
      refine g_take (i := 4) rfl rfl (by kernel_rfl) (by kernel_rfl) (by kernel_rfl) (by kernel_rfl) (by kernel_rfl) (fun _ _ _ h => h) hS (fun L W hL hW => by go_simp; rfl) ?_
      refine g_one (i := 2) rfl rfl (by kernel_rfl) fun K hK => ?_
      go_simp
      refine Calls.mono (Dk.read_any (HAT.out _ hS) j) ?_
      rintro en y2 ⟨u2, rfl, hown, hb2⟩
      obtain ⟨A2, c2, hu, -, -, hr2⟩ := own_read hown
      subst hu
      have HR2 := Lib.hid hr2
      have hS := hS.trans (hb2.mono hS.size)
      clear hown hb2 hr2
      refine hK _ _ hS ?_
      clear hK K
      refine g_one (i := 5) rfl rfl (by kernel_rfl) fun K hK => ?_
      have HCK := Lib.hid (HRR.out _ hS j)
      unfold Dr.rval at HCK
      rw [← HX.out] at HCK
      go_simp
      refine Calls.mono HCK.out ?_
      rintro en y5 ⟨u5, rfl, hown, hb5⟩
      obtain ⟨A5, c5, hu, -, -, hr5⟩ := own_read hown
      subst hu
      have HR5 := Lib.hid hr5
      have HR2' := Lib.hid (HR2.out.grow hb5)
      have hS := hS.trans (hb5.mono hS.size)
      clear hown hb5 hr5 HCK HR2
      refine hK _ _ hS ?_
      clear hK K
      refine g_one (i := 6) rfl rfl (by kernel_rfl) fun K hK => ?_
      go_simp
      refine Calls.mono (HdW.same_any A2 A5 c2 c5 _ _ _ _ rfl rfl _ HR2'.out HR5.out) ?_
      rintro en y6 ⟨rfl, rfl⟩
      rw [beq_self_eq_true]
      clear HR2' HR5
      refine hK _ _ hS ?_
      clear hK K
      refine g_take (i := 7) rfl rfl (by kernel_rfl) (by kernel_rfl) (by kernel_rfl) (by kernel_rfl) (by kernel_rfl) (fun _ _ _ h => h) hS (fun L W hL hW => by go_simp; rfl) ?_
      refine g_take (i := 8) rfl rfl (by kernel_rfl) (by kernel_rfl) (by kernel_rfl) (by kernel_rfl) (by kernel_rfl) (fun _ _ _ h => h) hS (fun L W hL hW => by go_simp; rfl) ?_
      refine g_takeG (i := 9) rfl (by simp only [Region.wanted, yielded]; go_simp) (by kernel_rfl) (by kernel_rfl) (by kernel_rfl) (by kernel_rfl) (by kernel_rfl) (fun _ _ _ h => h) hS (fun L W hL hW => by go_simp; rfl) ?_
      refine g_takeG (i := 10) rfl (by simp only [Region.wanted, yielded]; go_simp) (by kernel_rfl) (by kernel_rfl) (by kernel_rfl) (by kernel_rfl) (by kernel_rfl) (fun _ _ _ h => h) hS (fun L W hL hW => by go_simp; rfl) ?_
      refine g_takeG (i := 12) rfl (by simp only [Region.wanted, yielded]; go_simp) (by kernel_rfl) (by kernel_rfl) (by kernel_rfl) (by kernel_rfl) (by kernel_rfl) (fun _ _ _ h => h) hS (fun L W hL hW => Dr.run_load_row 69 (.tmp 3) rfl w.heap.size (by go_simp) 69 X _ _ (HBX.out.below hW HBX.out.lt).out Try.underlying69 rfl (by rw [Dr.rx_size HX.out]; kernel_rfl)) ?_
      refine g_takeG (i := 13) rfl (by simp only [Region.wanted, yielded]; go_simp) (by kernel_rfl) (by kernel_rfl) (by kernel_rfl) (by kernel_rfl) (by kernel_rfl) (fun _ _ _ h => h) hS (fun L W hL hW => by go_simp; rfl) ?_
      refine g_one (i := 11) rfl (by simp only [Region.wanted, yielded]; go_simp) (by kernel_rfl) fun K hK => ?_
      go_simp
      refine Calls.mono (Dk.head_any (HAT.out _ hS) j) ?_
      rintro en y7 ⟨A7, c7, rfl, -, -, hr7, hb7, -⟩
      have HR7 := Lib.hid hr7
      have hS := hS.trans (hb7.mono hS.size)
      clear hb7 hr7
      refine hK _ _ hS ?_
      clear hK K
      refine g_one (i := 14) rfl (by simp only [Region.wanted, yielded]; go_simp) (by kernel_rfl) fun K hK => ?_
      have HCK := Lib.hid (HRH.out _ hS j)
      unfold Dr.rval at HCK
      rw [← HX.out] at HCK
      go_simp
      refine Calls.mono HCK.out ?_
      rintro en y8 ⟨⟨⟨A8, n8, c8⟩, rfl, href⟩, hb8⟩
      have HR8 := Lib.hid href
      have HR7' := Lib.hid (HR7.out.grow hb8)
      have hS := hS.trans (hb8.mono hS.size)
      clear href hb8 HCK HR7
      refine hK _ _ hS ?_
      clear hK K
      refine g_one (i := 15) rfl (by simp only [Region.wanted, yielded]; go_simp) (by kernel_rfl) fun K hK => ?_
      go_simp
      refine Calls.mono (HdW.same_any A7 A8 c7 c8 _ _ _ n8 rfl HR8.out.len _ HR7'.out HR8.out.bytes) ?_
      rintro en y9 ⟨rfl, rfl⟩
      rw [beq_self_eq_true]
      clear HR7' HR8
      refine hK _ _ hS ?_
      clear hK K
      refine g_takeG (i := 16) rfl (by simp only [Region.wanted, yielded]; go_simp) (by kernel_rfl) (by kernel_rfl) (by kernel_rfl) (by kernel_rfl) (by kernel_rfl) (fun _ _ _ h => h) hS (fun L W hL hW => by go_simp; rfl) ?_
      refine g_take (i := 17) rfl rfl (by kernel_rfl) (by kernel_rfl) (by kernel_rfl) (by kernel_rfl) (by kernel_rfl) (fun _ _ _ h => h) hS (fun L W hL hW => by go_simp; rfl) ?_
      refine wpAnyG_done (by kernel_rfl) ?_ _
      go_simp
      have HN := Lib.hid (HB.out.trans (hS.mono HB.out.size))
      clear hS
      go_wp2_with fail
      go_roundw
      case rel => exact ⟨j + 1, by omega, by go_num, HN⟩
      case measure => simp [intOf]; omega
    · have hj2 : j = 2 := by omega
      subst hj2
      clear HRR HRH hlt hj
      simp only [Int.cast_ofNat_Int]
      go_wp2_with fail
      refine wp_region_heldG [] (fun _ W => Below wr.heap.size wr W) (by kernel_rfl) ?_
      change wpAnyG _ _ _ _ _ _ 13 _ _ (World.drew wr)
      have hS : Below wr.heap.size wr wr.drew := (Below.refl _ wr).drew
      -- take0 take2 one1 one3 take4 take5 take6G take8G take9G one7G take10G take11 take12 done
      refine g_take (i := 0) rfl rfl (by kernel_rfl) (by kernel_rfl) (by kernel_rfl) (by kernel_rfl) (by kernel_rfl) (fun _ _ _ h => h) hS (fun L W hL hW => by go_simp; rfl) ?_
      refine g_take (i := 2) rfl rfl (by kernel_rfl) (by kernel_rfl) (by kernel_rfl) (by kernel_rfl) (by kernel_rfl) (fun _ _ _ h => h) hS (fun L W hL hW => Dr.run_load_row 69 (.tmp 3) rfl w.heap.size (by go_simp) 69 X _ _ (HBX.out.below hW HBX.out.lt).out Try.underlying69 rfl (by rw [Dr.rx_size HX.out]; kernel_rfl)) ?_
      refine g_one (i := 1) rfl rfl (by kernel_rfl) fun K hK => ?_
      go_simp
      refine Calls.mono (Dk.free_any (HAT.out _ hS)) ?_
      rintro en y2 ⟨rfl, hb2⟩
      have hS := hS.trans (hb2.mono hS.size)
      clear hb2
      refine hK _ _ hS ?_
      clear hK K
      refine g_one (i := 3) rfl rfl (by kernel_rfl) fun K hK => ?_
      have HCK := Lib.hid (HRF.out _ hS)
      unfold Dr.rval at HCK
      rw [← HX.out] at HCK
      go_simp
      refine Calls.mono HCK.out ?_
      rintro en y5 ⟨rfl, hb5⟩
      have hS := hS.trans (hb5.mono hS.size)
      clear hb5 HCK
      refine hK _ _ hS ?_
      clear hK K
      refine g_take (i := 4) rfl rfl (by kernel_rfl) (by kernel_rfl) (by kernel_rfl) (by kernel_rfl) (by kernel_rfl) (fun _ _ _ h => h) hS (fun L W hL hW => by go_simp; rfl) ?_
      refine g_take (i := 5) rfl rfl (by kernel_rfl) (by kernel_rfl) (by kernel_rfl) (by kernel_rfl) (by kernel_rfl) (fun _ _ _ h => h) hS (fun L W hL hW => by go_simp; rfl) ?_
      refine g_takeG (i := 6) rfl (by simp only [Region.wanted, yielded]; go_simp) (by kernel_rfl) (by kernel_rfl) (by kernel_rfl) (by kernel_rfl) (by kernel_rfl) (fun _ _ _ h => h) hS (fun L W hL hW => by go_simp; rfl) ?_
      refine g_takeG (i := 8) rfl (by simp only [Region.wanted, yielded]; go_simp) (by kernel_rfl) (by kernel_rfl) (by kernel_rfl) (by kernel_rfl) (by kernel_rfl) (fun _ _ _ h => h) hS (fun L W hL hW => by go_simp; rfl) ?_
      refine g_takeG (i := 9) rfl (by simp only [Region.wanted, yielded]; go_simp) (by kernel_rfl) (by kernel_rfl) (by kernel_rfl) (by kernel_rfl) (by kernel_rfl) (fun _ _ _ h => h) hS (fun L W hL hW => by have q9 := (HBX.out.below hW HBX.out.lt).at_ 12 (v := .bool s.dead) (by rw [HX.out]; rfl); go_simp; rfl) ?_
      refine g_one (i := 7) rfl (by simp only [Region.wanted, yielded]; go_simp) (by kernel_rfl) fun K hK => ?_
      go_simp
      refine Calls.mono (Dk.dead_any (HAT.out _ hS)) ?_
      rintro en y7 ⟨rfl, rfl⟩
      refine hK _ _ hS ?_
      clear hK K
      refine g_takeG (i := 10) rfl (by simp only [Region.wanted, yielded]; go_simp) (by kernel_rfl) (by kernel_rfl) (by kernel_rfl) (by kernel_rfl) (by kernel_rfl) (fun _ _ _ h => h) hS (fun L W hL hW => by go_simp; rfl) ?_
      refine g_take (i := 11) rfl rfl (by kernel_rfl) (by kernel_rfl) (by kernel_rfl) (by kernel_rfl) (by kernel_rfl) (fun _ _ _ h => h) hS (fun L W hL hW => by go_simp; rfl) ?_
      refine g_take (i := 12) rfl rfl (by kernel_rfl) (by kernel_rfl) (by kernel_rfl) (by kernel_rfl) (by kernel_rfl) (fun _ _ _ h => h) hS (fun L W hL hW => by go_simp; rfl) ?_
      refine wpAnyG_done (by kernel_rfl) ?_ _
      go_simp
      have HN := Lib.hid (HLOW.out.trans ((HB.out.trans (hS.mono HB.out.size)).mono HLOW.out.size))
      clear hS
      go_wp2_with fail
      go_ret
      exact ⟨rfl, HN.out⟩
end Go.Proofs.Ytpohefpiidlnjaa.Hr
