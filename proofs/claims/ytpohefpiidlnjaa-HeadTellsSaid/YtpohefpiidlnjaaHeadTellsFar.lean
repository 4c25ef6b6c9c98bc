/-
  HeadTells of more bytes or calls than are walked: the sums alone.
-/
import Derived.Test.YtpohefpiidlnjaaHeadTells
import Derived.Deep.CutBlock
namespace Go.Proofs.Ytpohefpiidlnjaa.Hr
set_option linter.unusedVariables false
open Go Go.RowKit Go.Proofs Go.Proofs.Ytpohefpiidlnjaa Go.Proofs.Ytpohefpiidlnjaa.Wd
set_option maxRecDepth 100000 in
set_option maxHeartbeats 4000000 in
theorem tells_far (sa sb sc : Nat) (A0 A1 A2 : Option Addr) (n0 n1 n2 c0 c1 c2 : Nat) (hfar : ¬ (n0 ≤ 40 ∧ n1 ≤ 40 ∧ n2 ≤ 30)) (w : World) :
    Calls Try.prog 8 #[.agg #[.int .u64 sa, .int .u64 sb, .int .u8 sc], .slice A0 n0 c0, .slice A1 n1 c1, .slice A2 n2 c2] w fun e w' => e = .returned (.bool true) ∧ Below w.heap.size w w' := by
  have HB := Lib.hid ((Below.refl w.heap.size w).alloc (Nat.le_refl _) (.cells #[.int .u64 (sa : Nat), .int .u64 (sb : Nat), .int .u8 (sc : Nat)] 24))
  by_cases u0 : (40 : Int) < (n0 : Int)
  · clear hfar
    go_enter Try.func8, Try.ntmps8
    go_wp2_with fail
    refine Calls.mono (HdW.awake_any _) ?_
    rintro en w9 ⟨rfl, hb⟩
    have HF := Lib.hid (HB.out.trans (hb.mono HB.out.size))
    clear HB hb
    go_wp2_with fail
    go_ret
    exact ⟨rfl, HF.out⟩
  by_cases u1 : (40 : Int) < (n1 : Int)
  · clear hfar
    go_enter Try.func8, Try.ntmps8
    go_wp2_with fail
    refine Calls.mono (HdW.awake_any _) ?_
    rintro en w9 ⟨rfl, hb⟩
    have HF := Lib.hid (HB.out.trans (hb.mono HB.out.size))
    clear HB hb
    go_wp2_with fail
    go_ret
    exact ⟨rfl, HF.out⟩
  · have u2 : (30 : Int) < (n2 : Int) := by omega
    clear hfar
    go_enter Try.func8, Try.ntmps8
    go_wp2_with fail
    refine Calls.mono (HdW.awake_any _) ?_
    rintro en w9 ⟨rfl, hb⟩
    have HF := Lib.hid (HB.out.trans (hb.mono HB.out.size))
    clear HB hb
    go_wp2_with fail
    go_ret
    exact ⟨rfl, HF.out⟩
theorem tells_walk (sa sb sc : Nat) (A0 A1 : Option Addr) (hwf : Hd.Wf ⟨sa, sb, sc⟩) (zero one : List UInt8) (c0 c1 : Nat) (hc0 : zero.length ≤ c0) (hc1 : one.length ≤ c1) (hm0 : c0 ≤ maxLen) (hm1 : c1 ≤ maxLen) (A2 : Option Addr) (n2 c2 : Nat) (hc2 : n2 ≤ c2) (hm2 : c2 ≤ maxLen) (w : World) (hJ0 : Bytes w w.heap.size A0 zero) (hJ1 : Bytes w w.heap.size A1 one) (hI : CallsAt w w.heap.size A2 n2) :
    Calls Try.prog 8 #[.agg #[.int .u64 sa, .int .u64 sb, .int .u8 sc], .slice A0 zero.length c0, .slice A1 one.length c1, .slice A2 n2 c2] w fun e w' => e = .returned (.bool true) ∧ Below w.heap.size w w' := by
  obtain ⟨ha, hb, hc⟩ := hwf
  by_cases h : zero.length ≤ 40 ∧ one.length ≤ 40 ∧ n2 ≤ 30
  · exact tells_main sa sb sc ha hb hc A0 A1 A2 c0 c1 c2 n2 zero one _ _ rfl rfl hc0 hc1 hc2 hm0 hm1 hm2 h.1 h.2.1 h.2.2 w hJ0 hJ1 hI
  · exact tells_far sa sb sc A0 A1 A2 _ _ n2 c0 c1 c2 h w
end Go.Proofs.Ytpohefpiidlnjaa.Hr
