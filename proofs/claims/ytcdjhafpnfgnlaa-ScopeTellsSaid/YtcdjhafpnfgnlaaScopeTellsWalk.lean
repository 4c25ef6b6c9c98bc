/-
  The walk of ScopeTells.
-/
import Derived.Test.YtcdjhafpnfgnlaaScopeWalks11
import Derived.Test.YtcdjhafpnfgnlaaScopeArg
namespace Go.Proofs.Ytcdjhafpnfgnlaa.ScW
set_option linter.unusedVariables false
open Go.RowKit Go.Shelf Go.Proofs Go.Proofs.Ytcdjhafpnfgnlaa Go.Proofs.Ytcdjhafpnfgnlaa.Wd
open Go.Proofs.Ytcdjhafpnfgnlaa.Sc (N own flow rightAt right chain place chainI deep over below owned)

set_option maxRecDepth 100000 in
set_option maxHeartbeats 2000000 in
theorem tells_walk (A : Option Addr) (c : Nat) (ns : List N) (n : Nat) (hn : n = ns.length) (hnc : n ≤ c) (hcm : c ≤ maxLen) (a b f : Int) (w : World) (hI : Nodes w w.heap.size A ns) :
    Calls Try.prog 6 #[.slice A n c, .int .i64 a, .int .i64 b, .int .i64 f] w fun e w' => e = .returned (.bool true) ∧ Below w.heap.size w w' := by
  have HN := Lib.hid hn
  clear hn
  have HND : Hid (∀ W, Below w.heap.size w W → Nodes W W.heap.size A ns) := Lib.hid fun W hW => hI.grow hW
  have HFIN : Hid (∀ w9, Below w.heap.size w w9 → Calls Try.prog 11 #[] w9 fun e w' => e = .returned (.bool true) ∧ Below w.heap.size w w') := Lib.hid fun w9 h9 => by
    refine Calls.mono (awake_any w9) ?_
    rintro e w10 ⟨rfl, hb10⟩
    exact ⟨rfl, h9.trans (hb10.mono h9.size)⟩
  by_cases h80 : 80 < n
  · have u0 : decide ((80 : Int) < (n : Int)) = true := by simp; omega
    go_enter Try.func6, Try.ntmps6
    go_wp2_with fail
    refine Calls.mono (HFIN.out _ (Below.refl _ _)) ?_
    rintro e w10 ⟨rfl, hb10⟩
    go_wp2
    go_ret
    exact ⟨rfl, hb10⟩
  have u0 : decide ((80 : Int) < (n : Int)) = false := by simp; omega
  have hnb : n ≤ 1000000000000 := by omega
  have hnb9 : n ≤ 1000000000 := by omega
  go_enter Try.func6, Try.ntmps6
  go_wp2_with fail
  refine Calls.mono (refright_any A c ns n HN.out hnc hcm w hI) ?_
  rintro e w1 ⟨rfl, hB1⟩
  clear hI
  have HRT : Hid (∀ W, Below w.heap.size w W → Calls Try.prog 12 #[.slice A n c] W fun e w' => e = .returned (.bool (right ns)) ∧ Below w.heap.size w w') := Lib.hid fun W hW => by
    refine Calls.mono (right_any A c ns n HN.out hnc hcm W (HND.out W hW)) ?_
    rintro e w2 ⟨rfl, h⟩
    exact ⟨rfl, hW.trans (h.mono hW.size)⟩
  cases hr : right ns
  · rw [hr] at HRT
    clear hr
    go_wp2_with fail
    refine Calls.mono (HRT.out _ hB1) ?_
    rintro e w2 ⟨rfl, hB2⟩
    clear hB1
    go_wp2_with fail
    refine Calls.mono (HFIN.out _ hB2) ?_
    rintro e w10 ⟨rfl, hb10⟩
    go_wp2
    go_ret
    exact ⟨rfl, hb10⟩
  rw [hr] at HRT
  have HR := Lib.hid hr
  clear hr
  go_wp2_with fail
  refine Calls.mono (HRT.out _ hB1) ?_
  rintro e w2 ⟨rfl, hB2⟩
  clear hB1
  go_wp2_with fail
  refine Calls.mono (deep_any A c ns n HN.out hnc hnb HR.out a _ (HND.out _ hB2)) ?_
  rintro e w3 ⟨rfl, hb3⟩
  have hB3 := hB2.trans (hb3.mono hB2.size)
  clear hB2 hb3
  go_wp2_with fail
  refine Calls.mono (refdeep_any A c ns n HN.out hnb HR.out a _ (HND.out _ hB3)) ?_
  rintro e w4 ⟨rfl, hb4⟩
  have hB4 := hB3.trans (hb4.mono hB3.size)
  clear hB3 hb4
  generalize ((deep ns a : Nat) : Int) = dp at *
  have HL : Hid (∃ l, l = toI (chainI ns a)) := Lib.hid ⟨_, rfl⟩
  obtain ⟨l, hl⟩ := HL.out
  clear HL
  go_wp2_with fail
  refine Calls.mono (chain_any A c ns n HN.out hnc hnb HR.out a _ (HND.out _ hB4)) ?_
  rintro e w5 h
  rw [← hl] at h
  obtain ⟨X, cx, rfl, hbx, hmx, hnx, hcx⟩ := IntsOut.nums h (n := l.length) rfl
  have hBx := hB4.trans (hbx.mono hB4.size)
  clear h hbx hB4
  have HLX : Hid (∃ x, x = l.length) := Lib.hid ⟨_, rfl⟩
  obtain ⟨x, hx⟩ := HLX.out
  rw [← hx] at hnx ⊢
  clear HLX
  have HX := Lib.hid hx
  have HLE := Lib.hid hl
  clear hx hl
  go_wp2_with fail
  refine Calls.mono (refchain_any A c ns n HN.out hnb HR.out a _ (HND.out _ hBx)) ?_
  rintro e w6 h
  rw [← HLE.out] at h
  obtain ⟨Y, cy, rfl, hby, hmy, hny, hcy⟩ := IntsOut.nums h (n := x) HX.out.symm
  have hBy := hBx.trans (hby.mono hBx.size)
  replace hmx := hmx.grow hby
  clear h hby hBx
  go_wp2_with fail
  refine Calls.mono (ints_any X Y cx cy l l x x HX.out HX.out hnx hcx _ hmx hmy) ?_
  rintro e w7 ⟨rfl, hbz⟩
  rw [decide_eq_true (rfl : l = l)]
  have hB7 := hBy.trans (hbz.mono hBy.size)
  clear hbz hBy hmx hmy hnx hcx hny hcy HX HLE
  have HL : Hid (∃ l, l = toI (below ns a)) := Lib.hid ⟨_, rfl⟩
  obtain ⟨l, hl⟩ := HL.out
  clear HL
  go_wp2_with fail
  refine Calls.mono (below_any A c ns n HN.out hnc hnb HR.out a _ (HND.out _ hB7)) ?_
  rintro e w8 h
  rw [← hl] at h
  obtain ⟨X, cx, rfl, hbx, hmx, hnx, hcx⟩ := IntsOut.nums h (n := l.length) rfl
  have hBx := hB7.trans (hbx.mono hB7.size)
  clear h hbx hB7
  have HLX : Hid (∃ x, x = l.length) := Lib.hid ⟨_, rfl⟩
  obtain ⟨x, hx⟩ := HLX.out
  rw [← hx] at hnx ⊢
  clear HLX
  have HX := Lib.hid hx
  have HLE := Lib.hid hl
  clear hx hl
  go_wp2_with fail
  refine Calls.mono (refbelow_any A c ns n HN.out hnb HR.out a _ (HND.out _ hBx)) ?_
  rintro e w9 h
  rw [← HLE.out] at h
  obtain ⟨Y, cy, rfl, hby, hmy, hny, hcy⟩ := IntsOut.nums h (n := x) HX.out.symm
  have hBy := hBx.trans (hby.mono hBx.size)
  replace hmx := hmx.grow hby
  clear h hby hBx
  go_wp2_with fail
  refine Calls.mono (ints_any X Y cx cy l l x x HX.out HX.out hnx hcx _ hmx hmy) ?_
  rintro e w10 ⟨rfl, hbz⟩
  rw [decide_eq_true (rfl : l = l)]
  have hB10 := hBy.trans (hbz.mono hBy.size)
  clear hbz hBy hmx hmy hnx hcx hny hcy HX HLE
  have HL : Hid (∃ l, l = toI (owned ns f a)) := Lib.hid ⟨_, rfl⟩
  obtain ⟨l, hl⟩ := HL.out
  clear HL
  go_wp2_with fail
  refine Calls.mono (own_any A c ns n HN.out hnc hcm hnb9 f a _ (HND.out _ hB10)) ?_
  rintro e w11 h
  rw [← hl] at h
  obtain ⟨X, cx, rfl, hbx, hmx, hnx, hcx⟩ := IntsOut.nums h (n := l.length) rfl
  have hBx := hB10.trans (hbx.mono hB10.size)
  clear h hbx hB10
  have HLX : Hid (∃ x, x = l.length) := Lib.hid ⟨_, rfl⟩
  obtain ⟨x, hx⟩ := HLX.out
  rw [← hx] at hnx ⊢
  clear HLX
  have HX := Lib.hid hx
  have HLE := Lib.hid hl
  clear hx hl
  go_wp2_with fail
  refine Calls.mono (refown_any A c ns n HN.out hnc hcm hnb9 f a _ (HND.out _ hBx)) ?_
  rintro e w12 h
  rw [← HLE.out] at h
  obtain ⟨Y, cy, rfl, hby, hmy, hny, hcy⟩ := IntsOut.nums h (n := x) HX.out.symm
  have hBy := hBx.trans (hby.mono hBx.size)
  replace hmx := hmx.grow hby
  clear h hby hBx
  go_wp2_with fail
  refine Calls.mono (ints_any X Y cx cy l l x x HX.out HX.out hnx hcx _ hmx hmy) ?_
  rintro e w13 ⟨rfl, hbz⟩
  rw [decide_eq_true (rfl : l = l)]
  have hB13 := hBy.trans (hbz.mono hBy.size)
  clear hbz hBy hmx hmy hnx hcx hny hcy HX HLE
  have HL : Hid (∃ l, l = toI (owned ns f (-1))) := Lib.hid ⟨_, rfl⟩
  obtain ⟨l, hl⟩ := HL.out
  clear HL
  go_wp2_with fail
  refine Calls.mono (own_any A c ns n HN.out hnc hcm hnb9 f (-1) _ (HND.out _ hB13)) ?_
  rintro e w14 h
  rw [← hl] at h
  obtain ⟨X, cx, rfl, hbx, hmx, hnx, hcx⟩ := IntsOut.nums h (n := l.length) rfl
  have hBx := hB13.trans (hbx.mono hB13.size)
  clear h hbx hB13
  have HLX : Hid (∃ x, x = l.length) := Lib.hid ⟨_, rfl⟩
  obtain ⟨x, hx⟩ := HLX.out
  rw [← hx] at hnx ⊢
  clear HLX
  have HX := Lib.hid hx
  have HLE := Lib.hid hl
  clear hx hl
  go_wp2_with fail
  refine Calls.mono (refown_any A c ns n HN.out hnc hcm hnb9 f (-1) _ (HND.out _ hBx)) ?_
  rintro e w15 h
  rw [← HLE.out] at h
  obtain ⟨Y, cy, rfl, hby, hmy, hny, hcy⟩ := IntsOut.nums h (n := x) HX.out.symm
  have hBy := hBx.trans (hby.mono hBx.size)
  replace hmx := hmx.grow hby
  clear h hby hBx
  go_wp2_with fail
  refine Calls.mono (ints_any X Y cx cy l l x x HX.out HX.out hnx hcx _ hmx hmy) ?_
  rintro e w16 ⟨rfl, hbz⟩
  rw [decide_eq_true (rfl : l = l)]
  have hB16 := hBy.trans (hbz.mono hBy.size)
  clear hbz hBy hmx hmy hnx hcx hny hcy HX HLE
  go_wp2_with fail
  refine Calls.mono (over_any A c ns n HN.out hnc hnb HR.out a b _ (HND.out _ hB16)) ?_
  rintro e w21 ⟨rfl, hb21⟩
  have hB21 := hB16.trans (hb21.mono hB16.size)
  clear hB16 hb21
  go_wp2_with fail
  refine Calls.mono (refover_any A c ns n HN.out hnb HR.out a b _ (HND.out _ hB21)) ?_
  rintro e w22 ⟨rfl, hb22⟩
  have hB22 := hB21.trans (hb22.mono hB21.size)
  clear hB21 hb22
  generalize over ns a b = ob at *
  cases ob
  · go_wp2_with fail
    refine Calls.mono (HFIN.out _ hB22) ?_
    rintro e w10 ⟨rfl, hb10⟩
    go_wp2
    go_ret
    exact ⟨rfl, hb10⟩
  · go_wp2_with fail
    refine Calls.mono (HFIN.out _ hB22) ?_
    rintro e w10 ⟨rfl, hb10⟩
    go_wp2
    go_ret
    exact ⟨rfl, hb10⟩
end Go.Proofs.Ytcdjhafpnfgnlaa.ScW
