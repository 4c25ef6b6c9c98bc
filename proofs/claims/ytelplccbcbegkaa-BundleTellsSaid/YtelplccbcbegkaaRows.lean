/-
  No cell of these rows narrows 'for every input' (looked for: loops, veiled, ifaces, maps, wideKeys, modest, calm, conditions, laid).
  DERIVED. THE GIVEN ROWS OF THIS SEAT. 6 by the template 'for every input the law returns true; each argument reads behind the call as it read before'; 0 by the template 'total and deterministic' (their statements: YtelplccbcbegkaaTotals.lean).
  GIVEN WITH THE SEED: the statements are not yours to turn. If you find one false, say at which input.
  Laid BY PROGRAM, IN A SANDBOX (cutbox-rows.mjs): the forced cells as the released guide's own fill.sh prints them over the translation 3383de3180a29160… (all of the seat's roots in one cut). By AI agents, Wed Nov 11 2026. No macro, syntax, notation, axiom, sorry.
-/
import Derived.Test.YtelplccbcbegkaaChecked
import GoSem.Claim
import GoSem.ClaimJoined
import GoSem.ClaimMapViews
import Derived.JoinedTies
import Derived.KernelRfl
namespace Go.Proofs.Ytelplccbcbegkaa
/- THE CELL 'sum', in the pinned program and in every row, IS THE sha256 OF THE DUMP (.gsa) THAT YtelplccbcbegkaaProg.lean LOADS. Nothing in Lean hashes anything: it is a label: what it is worth is what the hold of that sum in a sandbox is worth. -/
noncomputable def Try.pinned : Pinned := { name := "ytelplccbcbegkaa", sum := "3383de3180a29160db6ec7180d36dca95c80ea633b5a1a7f45e2fa2e0a0870da", checked := Try.checked }
namespace Rows
def none {H : Type} : Left H := { results := [], args := [] }

/-- 'foremanlaw15.BundleCycles': WHATEVER THE INPUT: true; the input reads as it did. -/
def bundleCyclesSpec : ChangeSpec := { name := "bundleCycles", fn := fun _ => fun
  | [d1, d2, d3, d4] => { results := [.lit (.bool true)], args := [d1, d2, d3, d4] }
  | _ => none }
def bundleCyclesRow : OpenClaim := { program := "ytelplccbcbegkaa", sum := "3383de3180a29160db6ec7180d36dca95c80ea633b5a1a7f45e2fa2e0a0870da", func := "foreman/foremanlaw15.BundleCycles", spec := "bundleCycles", inPlace := ["slices.overlaps[int]"], unfollowed := true, recurses := true, plainKeys := false, apart := false }
def BundleCyclesSaid : Prop := bundleCyclesRow.holds Try.pinned (OpenSpec.ofChange bundleCyclesSpec)

/-- ITS FALSE NEIGHBOUR: 'it returns false'. Refute it at one input. -/
def bundleCyclesWrong : ChangeSpec := { name := "bundleCycles", fn := fun _ => fun
  | [d1, d2, d3, d4] => { results := [.lit (.bool false)], args := [d1, d2, d3, d4] }
  | _ => none }
def BundleCyclesWrongFalsely : Prop := bundleCyclesRow.holds Try.pinned (OpenSpec.ofChange bundleCyclesWrong)

/-- 'foremanlaw15.BundleAll': WHATEVER THE INPUT: true; the input reads as it did. -/
def bundleAllSpec : ChangeSpec := { name := "bundleAll", fn := fun _ => fun
  | [d1, d2, d3, d4] => { results := [.lit (.bool true)], args := [d1, d2, d3, d4] }
  | _ => none }
def bundleAllRow : OpenClaim := { program := "ytelplccbcbegkaa", sum := "3383de3180a29160db6ec7180d36dca95c80ea633b5a1a7f45e2fa2e0a0870da", func := "foreman/foremanlaw15.BundleAll", spec := "bundleAll", inPlace := ["slices.overlaps[int]"], unfollowed := true, recurses := true, plainKeys := false, apart := false }
def BundleAllSaid : Prop := bundleAllRow.holds Try.pinned (OpenSpec.ofChange bundleAllSpec)

/-- ITS FALSE NEIGHBOUR: 'it returns false'. Refute it at one input. -/
def bundleAllWrong : ChangeSpec := { name := "bundleAll", fn := fun _ => fun
  | [d1, d2, d3, d4] => { results := [.lit (.bool false)], args := [d1, d2, d3, d4] }
  | _ => none }
def BundleAllWrongFalsely : Prop := bundleAllRow.holds Try.pinned (OpenSpec.ofChange bundleAllWrong)

/-- 'foremanlaw15.BundleTells': WHATEVER THE INPUT: true; the input reads as it did. -/
def bundleTellsSpec : ChangeSpec := { name := "bundleTells", fn := fun _ => fun
  | [d1, d2] => { results := [.lit (.bool true)], args := [d1, d2] }
  | _ => none }
def bundleTellsRow : OpenClaim := { program := "ytelplccbcbegkaa", sum := "3383de3180a29160db6ec7180d36dca95c80ea633b5a1a7f45e2fa2e0a0870da", func := "foreman/foremanlaw15.BundleTells", spec := "bundleTells", inPlace := ["slices.overlaps[int]"], unfollowed := true, recurses := true, plainKeys := false, apart := false }
def BundleTellsSaid : Prop := bundleTellsRow.holds Try.pinned (OpenSpec.ofChange bundleTellsSpec)

/-- ITS FALSE NEIGHBOUR: 'it returns false'. Refute it at one input. -/
def bundleTellsWrong : ChangeSpec := { name := "bundleTells", fn := fun _ => fun
  | [d1, d2] => { results := [.lit (.bool false)], args := [d1, d2] }
  | _ => none }
def BundleTellsWrongFalsely : Prop := bundleTellsRow.holds Try.pinned (OpenSpec.ofChange bundleTellsWrong)

/-- 'foremanlaw15.BundleTwo': WHATEVER THE INPUT: true; the input reads as it did. -/
def bundleTwoSpec : ChangeSpec := { name := "bundleTwo", fn := fun _ => fun
  | [d1, d2, d3, d4] => { results := [.lit (.bool true)], args := [d1, d2, d3, d4] }
  | _ => none }
def bundleTwoRow : OpenClaim := { program := "ytelplccbcbegkaa", sum := "3383de3180a29160db6ec7180d36dca95c80ea633b5a1a7f45e2fa2e0a0870da", func := "foreman/foremanlaw15.BundleTwo", spec := "bundleTwo", inPlace := ["slices.overlaps[int]"], unfollowed := true, recurses := true, plainKeys := false, apart := false }
def BundleTwoSaid : Prop := bundleTwoRow.holds Try.pinned (OpenSpec.ofChange bundleTwoSpec)

/-- ITS FALSE NEIGHBOUR: 'it returns false'. Refute it at one input. -/
def bundleTwoWrong : ChangeSpec := { name := "bundleTwo", fn := fun _ => fun
  | [d1, d2, d3, d4] => { results := [.lit (.bool false)], args := [d1, d2, d3, d4] }
  | _ => none }
def BundleTwoWrongFalsely : Prop := bundleTwoRow.holds Try.pinned (OpenSpec.ofChange bundleTwoWrong)

/-- 'foremanlaw15.BundleOrder': WHATEVER THE INPUT: true; the input reads as it did. -/
def bundleOrderSpec : ChangeSpec := { name := "bundleOrder", fn := fun _ => fun
  | [d1, d2, d3, d4, d5] => { results := [.lit (.bool true)], args := [d1, d2, d3, d4, d5] }
  | _ => none }
def bundleOrderRow : OpenClaim := { program := "ytelplccbcbegkaa", sum := "3383de3180a29160db6ec7180d36dca95c80ea633b5a1a7f45e2fa2e0a0870da", func := "foreman/foremanlaw15.BundleOrder", spec := "bundleOrder", inPlace := ["slices.overlaps[int]"], unfollowed := true, recurses := true, plainKeys := false, apart := false }
def BundleOrderSaid : Prop := bundleOrderRow.holds Try.pinned (OpenSpec.ofChange bundleOrderSpec)

/-- ITS FALSE NEIGHBOUR: 'it returns false'. Refute it at one input. -/
def bundleOrderWrong : ChangeSpec := { name := "bundleOrder", fn := fun _ => fun
  | [d1, d2, d3, d4, d5] => { results := [.lit (.bool false)], args := [d1, d2, d3, d4, d5] }
  | _ => none }
def BundleOrderWrongFalsely : Prop := bundleOrderRow.holds Try.pinned (OpenSpec.ofChange bundleOrderWrong)

/-- 'foremanlaw15.BundleNone': WHATEVER THE INPUT: true; the input reads as it did. -/
def bundleNoneSpec : ChangeSpec := { name := "bundleNone", fn := fun _ => fun
  | [d1, d2] => { results := [.lit (.bool true)], args := [d1, d2] }
  | _ => none }
def bundleNoneRow : OpenClaim := { program := "ytelplccbcbegkaa", sum := "3383de3180a29160db6ec7180d36dca95c80ea633b5a1a7f45e2fa2e0a0870da", func := "foreman/foremanlaw15.BundleNone", spec := "bundleNone", inPlace := ["slices.overlaps[int]"], unfollowed := true, recurses := true, plainKeys := false, apart := false }
def BundleNoneSaid : Prop := bundleNoneRow.holds Try.pinned (OpenSpec.ofChange bundleNoneSpec)

/-- ITS FALSE NEIGHBOUR: 'it returns false'. Refute it at one input. -/
def bundleNoneWrong : ChangeSpec := { name := "bundleNone", fn := fun _ => fun
  | [d1, d2] => { results := [.lit (.bool false)], args := [d1, d2] }
  | _ => none }
def BundleNoneWrongFalsely : Prop := bundleNoneRow.holds Try.pinned (OpenSpec.ofChange bundleNoneWrong)

/- THE SECOND FORM. 'bulk': how many values and letters a reading holds, each counted each time it is reached (what is shared counts as often as it is met; a slice's spare places count too). A statement '..UptoSaid' is the law's where the arguments, and the package variables that the reading takes, are together of bulk at most 1048576: NARROWER than '..Said'. Prove '..Said' where nothing that the law and all that it calls make is longer than what came in: it says more and counts as full. Else prove '..UptoSaid'. A law counts once. -/
mutual
def uptoBulk {H : Type} : DataW H → Nat
  | .lit (.string bytes) => bytes.length + 1
  | .lit _ => 1
  | .nil => 1
  | .ptr d => uptoBulk d + 1
  | .slice elems spare => uptoBulkAll elems + uptoBulkAll spare + 1
  | .agg parts => uptoBulkAll parts + 1
  | .iface _ d => uptoBulk d + 1
  | .map entries => uptoBulkEntries entries + 1
  | .held _ => 1
def uptoBulkAll {H : Type} : List (DataW H) → Nat
  | [] => 0
  | d :: r => uptoBulk d + uptoBulkAll r
def uptoBulkEntries {H : Type} : List (Lit × DataW H) → Nat
  | [] => 0
  | x :: r => uptoBulkEntry x + uptoBulkEntries r
def uptoBulkEntry {H : Type} : Lit × DataW H → Nat
  | (.string bytes, d) => bytes.length + uptoBulk d + 1
  | (_, d) => uptoBulk d + 1
 end
def uptoSmall : (H : Type) → List (DataW H) → Bool := fun _ ds => decide (uptoBulkAll ds ≤ 1048576)
def OpenSpec.upto (s : _root_.Go.ChangeSpec) : _root_.Go.OpenSpec := { _root_.Go.OpenSpec.ofChange s with cond := some uptoSmall }

/-- 'foremanlaw15.BundleCycles', WHERE WHAT IT READS IS OF BULK AT MOST 1048576: true; the input reads as it did. -/
def bundleCyclesUptoRow : OpenClaim := { program := "ytelplccbcbegkaa", sum := "3383de3180a29160db6ec7180d36dca95c80ea633b5a1a7f45e2fa2e0a0870da", func := "foreman/foremanlaw15.BundleCycles", spec := "bundleCycles", inPlace := ["slices.overlaps[int]"], unfollowed := true, recurses := true, plainKeys := false, apart := false, narrowed := true }
def BundleCyclesUptoSaid : Prop := bundleCyclesUptoRow.holds Try.pinned (OpenSpec.upto bundleCyclesSpec)

/-- 'foremanlaw15.BundleAll', WHERE WHAT IT READS IS OF BULK AT MOST 1048576: true; the input reads as it did. -/
def bundleAllUptoRow : OpenClaim := { program := "ytelplccbcbegkaa", sum := "3383de3180a29160db6ec7180d36dca95c80ea633b5a1a7f45e2fa2e0a0870da", func := "foreman/foremanlaw15.BundleAll", spec := "bundleAll", inPlace := ["slices.overlaps[int]"], unfollowed := true, recurses := true, plainKeys := false, apart := false, narrowed := true }
def BundleAllUptoSaid : Prop := bundleAllUptoRow.holds Try.pinned (OpenSpec.upto bundleAllSpec)

/-- 'foremanlaw15.BundleTells', WHERE WHAT IT READS IS OF BULK AT MOST 1048576: true; the input reads as it did. -/
def bundleTellsUptoRow : OpenClaim := { program := "ytelplccbcbegkaa", sum := "3383de3180a29160db6ec7180d36dca95c80ea633b5a1a7f45e2fa2e0a0870da", func := "foreman/foremanlaw15.BundleTells", spec := "bundleTells", inPlace := ["slices.overlaps[int]"], unfollowed := true, recurses := true, plainKeys := false, apart := false, narrowed := true }
def BundleTellsUptoSaid : Prop := bundleTellsUptoRow.holds Try.pinned (OpenSpec.upto bundleTellsSpec)

/-- 'foremanlaw15.BundleTwo', WHERE WHAT IT READS IS OF BULK AT MOST 1048576: true; the input reads as it did. -/
def bundleTwoUptoRow : OpenClaim := { program := "ytelplccbcbegkaa", sum := "3383de3180a29160db6ec7180d36dca95c80ea633b5a1a7f45e2fa2e0a0870da", func := "foreman/foremanlaw15.BundleTwo", spec := "bundleTwo", inPlace := ["slices.overlaps[int]"], unfollowed := true, recurses := true, plainKeys := false, apart := false, narrowed := true }
def BundleTwoUptoSaid : Prop := bundleTwoUptoRow.holds Try.pinned (OpenSpec.upto bundleTwoSpec)

/-- 'foremanlaw15.BundleOrder', WHERE WHAT IT READS IS OF BULK AT MOST 1048576: true; the input reads as it did. -/
def bundleOrderUptoRow : OpenClaim := { program := "ytelplccbcbegkaa", sum := "3383de3180a29160db6ec7180d36dca95c80ea633b5a1a7f45e2fa2e0a0870da", func := "foreman/foremanlaw15.BundleOrder", spec := "bundleOrder", inPlace := ["slices.overlaps[int]"], unfollowed := true, recurses := true, plainKeys := false, apart := false, narrowed := true }
def BundleOrderUptoSaid : Prop := bundleOrderUptoRow.holds Try.pinned (OpenSpec.upto bundleOrderSpec)

/-- 'foremanlaw15.BundleNone', WHERE WHAT IT READS IS OF BULK AT MOST 1048576: true; the input reads as it did. -/
def bundleNoneUptoRow : OpenClaim := { program := "ytelplccbcbegkaa", sum := "3383de3180a29160db6ec7180d36dca95c80ea633b5a1a7f45e2fa2e0a0870da", func := "foreman/foremanlaw15.BundleNone", spec := "bundleNone", inPlace := ["slices.overlaps[int]"], unfollowed := true, recurses := true, plainKeys := false, apart := false, narrowed := true }
def BundleNoneUptoSaid : Prop := bundleNoneUptoRow.holds Try.pinned (OpenSpec.upto bundleNoneSpec)

end Rows
end Go.Proofs.Ytelplccbcbegkaa
