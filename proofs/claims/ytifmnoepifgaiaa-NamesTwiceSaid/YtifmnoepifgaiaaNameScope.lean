/-
  The walk of Scope.
-/
import Derived.Test.YtifmnoepifgaiaaNameSeen
namespace Go.Proofs.Ytifmnoepifgaiaa.NmW
set_option linter.unusedVariables false
open Go Go.RowKit Go.Maps Go.Proofs Go.Proofs.Ytifmnoepifgaiaa Go.Proofs.Ytifmnoepifgaiaa.Wd Go.Proofs.Ytifmnoepifgaiaa.ScW Go.Proofs.Ytifmnoepifgaiaa.Nm
open Go.Proofs.Ytifmnoepifgaiaa.Sc (N own flow rightAt right chain place chainI deep over below owned)

/-- The places of somebody's scope. -/
def scopeN (ns : List N) (i : Int) : List Nat := if place ns i then owned ns (flow ns i.toNat) (own ns i.toNat) else []
set_option maxRecDepth 100000 in
set_option maxHeartbeats 8000000 in
theorem nscope_any (A : Option Addr) (c : Nat) (ns : List N) (ss : List Str) (n : Nat) (hn : n = ns.length) (hnc : n ≤ c) (hcm : c ≤ maxLen) (hnb : n ≤ 1000000000) (i : Int) (w : World) (hI : NNodes w w.heap.size A ns ss) :
    Calls Try.prog 11 #[.slice A n c, .int .i64 i] w (IntsOut w (toI (scopeN ns i))) := by
  have HI := Lib.hid hI
  have HN := Lib.hid hn
  by_cases hp : place ns i = true
  · have h1 : 0 ≤ i ∧ i < (ns.length : Int) := by unfold place at hp; simpa using hp
    obtain ⟨i, rfl⟩ : ∃ k : Nat, i = (k : Int) := ⟨i.toNat, by omega⟩
    have HP := Lib.hid hp
    have HE : Hid (scopeN ns (i : Int) = owned ns (flow ns i) (own ns i)) := Lib.hid (by unfold scopeN; rw [hp]; rfl)
    have i1 : (0 : Int) ≤ (i : Int) := h1.1
    have i2 : (i : Int) < (n : Int) := by omega
    obtain ⟨b, off, rfl, hb, hc3⟩ := HI.out.1.flow_at (show i < ns.length by omega)
    obtain ⟨b2, off2, hA2, hb2, hc4⟩ := HI.out.1.own_at (show i < ns.length by omega)
    have hA3 : b = b2 ∧ off = off2 := by
      simp only [Option.some.injEq, Addr.mk.injEq, and_true] at hA2
      exact hA2
    obtain ⟨rfl, rfl⟩ := hA3
    have HCL : Hid (∀ W, Below w.heap.size w W → W.cell? ⟨b, off + i * 16 + 3, none⟩ = some (.int .i64 (flow ns i)) ∧ W.cell? ⟨b, off + i * 16 + 4, none⟩ = some (.int .i64 (own ns i))) := Lib.hid (fun W hW => ⟨(hW.cell (p := ⟨b, _, none⟩) hb).trans hc3, (hW.cell (p := ⟨b, _, none⟩) hb).trans hc4⟩)
    clear hp h1 hb hc3 hA2 hb2 hc4 hn hI
    go_enter Try.func11, Try.ntmps11
    go_wp2_with fail
    refine (nplace_any _ c ns n HN.out (i : Int) w).mono ?_
    rintro e w1 ⟨rfl, rfl⟩
    rw [HP.out]
    go_wp2_with fail
    have hS : Below w.heap.size w w.drew := (Below.refl _ w).drew
    refine wp_region_heldG [] (fun _ W => Below w.heap.size w W) (by kernel_rfl) ?_
    change wpAnyG _ _ _ _ _ _ 13 _ _ w.drew
    refine g_take (i := 0) rfl rfl (by kernel_rfl) (by kernel_rfl) (by kernel_rfl) (by kernel_rfl) (by kernel_rfl) (fun _ _ _ h => h) hS (fun L W hL hW => by go_simp; rfl) ?_
    refine g_take (i := 1) rfl rfl (by kernel_rfl) (by kernel_rfl) (by kernel_rfl) (by kernel_rfl) (by kernel_rfl) (fun _ _ _ h => h) hS (fun L W hL hW => by go_simp; rfl) ?_
    refine g_take (i := 2) rfl rfl (by kernel_rfl) (by kernel_rfl) (by kernel_rfl) (by kernel_rfl) (by kernel_rfl) (fun _ _ _ h => h) hS (fun L W hL hW => by go_simp; rfl) ?_
    refine g_take (i := 3) rfl rfl (by kernel_rfl) (by kernel_rfl) (by kernel_rfl) (by kernel_rfl) (by kernel_rfl) (fun _ _ _ h => h) hS (fun L W hL hW => by go_simp; rfl) ?_
    refine g_take (i := 4) rfl rfl (by kernel_rfl) (by kernel_rfl) (by kernel_rfl) (by kernel_rfl) (by kernel_rfl) (fun _ _ _ h => h) hS (fun L W hL hW => by go_simp; rfl) ?_
    refine g_take (i := 5) rfl rfl (by kernel_rfl) (by kernel_rfl) (by kernel_rfl) (by kernel_rfl) (by kernel_rfl) (fun _ _ _ h => h) hS (fun L W hL hW => by obtain ⟨k0, k1⟩ := HCL.out _ hW; go_simp; rfl) ?_
    refine g_take (i := 6) rfl rfl (by kernel_rfl) (by kernel_rfl) (by kernel_rfl) (by kernel_rfl) (by kernel_rfl) (fun _ _ _ h => h) hS (fun L W hL hW => by go_simp; rfl) ?_
    refine g_take (i := 7) rfl rfl (by kernel_rfl) (by kernel_rfl) (by kernel_rfl) (by kernel_rfl) (by kernel_rfl) (fun _ _ _ h => h) hS (fun L W hL hW => by go_simp; rfl) ?_
    refine g_take (i := 8) rfl rfl (by kernel_rfl) (by kernel_rfl) (by kernel_rfl) (by kernel_rfl) (by kernel_rfl) (fun _ _ _ h => h) hS (fun L W hL hW => by go_simp; rfl) ?_
    refine g_take (i := 9) rfl rfl (by kernel_rfl) (by kernel_rfl) (by kernel_rfl) (by kernel_rfl) (by kernel_rfl) (fun _ _ _ h => h) hS (fun L W hL hW => by go_simp; rfl) ?_
    refine g_take (i := 10) rfl rfl (by kernel_rfl) (by kernel_rfl) (by kernel_rfl) (by kernel_rfl) (by kernel_rfl) (fun _ _ _ h => h) hS (fun L W hL hW => by obtain ⟨k0, k1⟩ := HCL.out _ hW; go_simp; rfl) ?_
    refine g_one (i := 11) rfl rfl (by kernel_rfl) fun K hK => ?_
    go_simp
    refine (own_any (some ⟨b, off, none⟩) c ns n HN.out hnc hcm hnb (flow ns i) (own ns i) w.drew HI.out.1).mono ?_
    rintro e w1 ⟨Ao, co, rfl, B1, O1⟩
    have hS1 : Below w.heap.size w w1 := hS.trans B1
    have HO := Lib.hid O1
    clear hS
    have hS := hS1
    clear hS1
    refine hK _ _ hS ?_
    clear hK K B1 O1
    refine g_take (i := 12) rfl rfl (by kernel_rfl) (by kernel_rfl) (by kernel_rfl) (by kernel_rfl) (by kernel_rfl) (fun _ _ _ h => h) hS (fun L W hL hW => by go_simp; rfl) ?_
    refine wpAnyG_done (by kernel_rfl) ?_ _
    have HS := Lib.hid hS
    clear hS HCL
    go_simp
    go_wp2_with fail
    go_ret
    rw [HE.out]
    exact ⟨Ao, co, rfl, HS.out, HO.out⟩
  · have hp : place ns i = false := by simpa using hp
    have HP := Lib.hid hp
    have HE : Hid (scopeN ns i = []) := Lib.hid (by unfold scopeN; rw [hp]; rfl)
    clear hp hn hI
    go_enter Try.func11, Try.ntmps11
    go_wp2_with fail
    refine (nplace_any A c ns n HN.out i w).mono ?_
    rintro e w1 ⟨rfl, rfl⟩
    rw [HP.out]
    go_wp2_with fail
    go_ret
    rw [HE.out]
    exact ⟨none, 0, rfl, Below.refl _ _, own_nil _ _ _⟩
end Go.Proofs.Ytifmnoepifgaiaa.NmW
