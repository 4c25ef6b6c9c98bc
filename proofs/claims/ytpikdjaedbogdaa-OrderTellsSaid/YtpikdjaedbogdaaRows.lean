/-
  No cell of these rows narrows 'for every input' (looked for: loops, veiled, ifaces, maps, wideKeys, modest, calm, conditions, laid).
  DERIVED. THE GIVEN ROWS OF THIS SEAT. 6 by the template 'for every input the law returns true; each argument reads behind the call as it read before'; 0 by the template 'total and deterministic' (their statements: YtpikdjaedbogdaaTotals.lean).
  GIVEN WITH THE SEED: the statements are not yours to turn. If you find one false, say at which input.
  Laid BY PROGRAM, IN A SANDBOX (cutbox-rows.mjs): the forced cells as the released guide's own fill.sh prints them over the translation 1e9c5d57f7399eb0… (all of the seat's roots in one cut). By AI agents, Wed Nov 11 2026. No macro, syntax, notation, axiom, sorry.
-/
import Derived.Test.YtpikdjaedbogdaaChecked
import GoSem.Claim
import GoSem.ClaimJoined
import GoSem.ClaimMapViews
import Derived.JoinedTies
import Derived.KernelRfl
namespace Go.Proofs.Ytpikdjaedbogdaa
/- THE CELL 'sum', in the pinned program and in every row, IS THE sha256 OF THE DUMP (.gsa) THAT YtpikdjaedbogdaaProg.lean LOADS. Nothing in Lean hashes anything: it is a label: what it is worth is what the hold of that sum in a sandbox is worth. -/
noncomputable def Try.pinned : Pinned := { name := "ytpikdjaedbogdaa", sum := "1e9c5d57f7399eb07411ef15ac7e76530e360f2e60799424d295a65be4def408", checked := Try.checked }
namespace Rows
def none {H : Type} : Left H := { results := [], args := [] }

/-- 'foremanlaw14.OrderStill': WHATEVER THE INPUT: true; the input reads as it did. -/
def orderStillSpec : ChangeSpec := { name := "orderStill", fn := fun _ => fun
  | [d1, d2, d3, d4] => { results := [.lit (.bool true)], args := [d1, d2, d3, d4] }
  | _ => none }
def orderStillRow : OpenClaim := { program := "ytpikdjaedbogdaa", sum := "1e9c5d57f7399eb07411ef15ac7e76530e360f2e60799424d295a65be4def408", func := "foreman/foremanlaw14.OrderStill", spec := "orderStill", inPlace := ["slices.overlaps[int]"], unfollowed := true, recurses := true, apart := false }
def OrderStillSaid : Prop := orderStillRow.holds Try.pinned (OpenSpec.ofChange orderStillSpec)

/-- ITS FALSE NEIGHBOUR: 'it returns false'. Refute it at one input. -/
def orderStillWrong : ChangeSpec := { name := "orderStill", fn := fun _ => fun
  | [d1, d2, d3, d4] => { results := [.lit (.bool false)], args := [d1, d2, d3, d4] }
  | _ => none }
def OrderStillWrongFalsely : Prop := orderStillRow.holds Try.pinned (OpenSpec.ofChange orderStillWrong)

/-- 'foremanlaw14.OrderSets': WHATEVER THE INPUT: true; the input reads as it did. -/
def orderSetsSpec : ChangeSpec := { name := "orderSets", fn := fun _ => fun
  | [d1, d2, d3] => { results := [.lit (.bool true)], args := [d1, d2, d3] }
  | _ => none }
def orderSetsRow : OpenClaim := { program := "ytpikdjaedbogdaa", sum := "1e9c5d57f7399eb07411ef15ac7e76530e360f2e60799424d295a65be4def408", func := "foreman/foremanlaw14.OrderSets", spec := "orderSets", inPlace := ["slices.overlaps[int]"], unfollowed := true, recurses := true, apart := false }
def OrderSetsSaid : Prop := orderSetsRow.holds Try.pinned (OpenSpec.ofChange orderSetsSpec)

/-- ITS FALSE NEIGHBOUR: 'it returns false'. Refute it at one input. -/
def orderSetsWrong : ChangeSpec := { name := "orderSets", fn := fun _ => fun
  | [d1, d2, d3] => { results := [.lit (.bool false)], args := [d1, d2, d3] }
  | _ => none }
def OrderSetsWrongFalsely : Prop := orderSetsRow.holds Try.pinned (OpenSpec.ofChange orderSetsWrong)

/-- 'foremanlaw14.OrderTells': WHATEVER THE INPUT: true; the input reads as it did. -/
def orderTellsSpec : ChangeSpec := { name := "orderTells", fn := fun _ => fun
  | [d1, d2] => { results := [.lit (.bool true)], args := [d1, d2] }
  | _ => none }
def orderTellsRow : OpenClaim := { program := "ytpikdjaedbogdaa", sum := "1e9c5d57f7399eb07411ef15ac7e76530e360f2e60799424d295a65be4def408", func := "foreman/foremanlaw14.OrderTells", spec := "orderTells", inPlace := ["slices.overlaps[int]"], unfollowed := true, recurses := true, apart := false }
def OrderTellsSaid : Prop := orderTellsRow.holds Try.pinned (OpenSpec.ofChange orderTellsSpec)

/-- ITS FALSE NEIGHBOUR: 'it returns false'. Refute it at one input. -/
def orderTellsWrong : ChangeSpec := { name := "orderTells", fn := fun _ => fun
  | [d1, d2] => { results := [.lit (.bool false)], args := [d1, d2] }
  | _ => none }
def OrderTellsWrongFalsely : Prop := orderTellsRow.holds Try.pinned (OpenSpec.ofChange orderTellsWrong)

/-- 'foremanlaw14.OrderGrows': WHATEVER THE INPUT: true; the input reads as it did. -/
def orderGrowsSpec : ChangeSpec := { name := "orderGrows", fn := fun _ => fun
  | [d1, d2, d3, d4] => { results := [.lit (.bool true)], args := [d1, d2, d3, d4] }
  | _ => none }
def orderGrowsRow : OpenClaim := { program := "ytpikdjaedbogdaa", sum := "1e9c5d57f7399eb07411ef15ac7e76530e360f2e60799424d295a65be4def408", func := "foreman/foremanlaw14.OrderGrows", spec := "orderGrows", inPlace := ["slices.overlaps[int]"], unfollowed := true, recurses := true, apart := false }
def OrderGrowsSaid : Prop := orderGrowsRow.holds Try.pinned (OpenSpec.ofChange orderGrowsSpec)

/-- ITS FALSE NEIGHBOUR: 'it returns false'. Refute it at one input. -/
def orderGrowsWrong : ChangeSpec := { name := "orderGrows", fn := fun _ => fun
  | [d1, d2, d3, d4] => { results := [.lit (.bool false)], args := [d1, d2, d3, d4] }
  | _ => none }
def OrderGrowsWrongFalsely : Prop := orderGrowsRow.holds Try.pinned (OpenSpec.ofChange orderGrowsWrong)

/-- 'foremanlaw14.OrderNone': WHATEVER THE INPUT: true; the input reads as it did. -/
def orderNoneSpec : ChangeSpec := { name := "orderNone", fn := fun _ => fun
  | [d1, d2] => { results := [.lit (.bool true)], args := [d1, d2] }
  | _ => none }
def orderNoneRow : OpenClaim := { program := "ytpikdjaedbogdaa", sum := "1e9c5d57f7399eb07411ef15ac7e76530e360f2e60799424d295a65be4def408", func := "foreman/foremanlaw14.OrderNone", spec := "orderNone", inPlace := ["slices.overlaps[int]"], unfollowed := true, recurses := true, apart := false }
def OrderNoneSaid : Prop := orderNoneRow.holds Try.pinned (OpenSpec.ofChange orderNoneSpec)

/-- ITS FALSE NEIGHBOUR: 'it returns false'. Refute it at one input. -/
def orderNoneWrong : ChangeSpec := { name := "orderNone", fn := fun _ => fun
  | [d1, d2] => { results := [.lit (.bool false)], args := [d1, d2] }
  | _ => none }
def OrderNoneWrongFalsely : Prop := orderNoneRow.holds Try.pinned (OpenSpec.ofChange orderNoneWrong)

/-- 'foremanlaw14.OrderUp': WHATEVER THE INPUT: true; the input reads as it did. -/
def orderUpSpec : ChangeSpec := { name := "orderUp", fn := fun _ => fun
  | [d1, d2] => { results := [.lit (.bool true)], args := [d1, d2] }
  | _ => none }
def orderUpRow : OpenClaim := { program := "ytpikdjaedbogdaa", sum := "1e9c5d57f7399eb07411ef15ac7e76530e360f2e60799424d295a65be4def408", func := "foreman/foremanlaw14.OrderUp", spec := "orderUp", inPlace := ["slices.overlaps[int]"], unfollowed := true, recurses := true, apart := false }
def OrderUpSaid : Prop := orderUpRow.holds Try.pinned (OpenSpec.ofChange orderUpSpec)

/-- ITS FALSE NEIGHBOUR: 'it returns false'. Refute it at one input. -/
def orderUpWrong : ChangeSpec := { name := "orderUp", fn := fun _ => fun
  | [d1, d2] => { results := [.lit (.bool false)], args := [d1, d2] }
  | _ => none }
def OrderUpWrongFalsely : Prop := orderUpRow.holds Try.pinned (OpenSpec.ofChange orderUpWrong)

/- THE SECOND FORM. 'bulk': how many values and letters a reading holds, each counted each time it is reached (what is shared counts as often as it is met; a slice's spare places count too). A statement '..UptoSaid' is the law's where the arguments, and the package variables that the reading takes, are together of bulk at most 1048576: NARROWER than '..Said'. Prove '..Said' where nothing that the law and all that it calls make is longer than what came in: it says more and counts as full. Else prove '..UptoSaid'. A law counts once. -/
mutual
def uptoBulk {H : Type} : DataW H → Nat
  | .lit (.string bytes) => bytes.length + 1
  | .lit _ => 1
  | .nil => 1
  | .ptr d => uptoBulk d + 1
  | .slice elems spare => uptoBulkAll elems + uptoBulkAll spare + 1
  | .agg parts => uptoBulkAll parts + 1
  | .iface _ d => uptoBulk d + 1
  | .map entries => uptoBulkEntries entries + 1
  | .held _ => 1
def uptoBulkAll {H : Type} : List (DataW H) → Nat
  | [] => 0
  | d :: r => uptoBulk d + uptoBulkAll r
def uptoBulkEntries {H : Type} : List (Lit × DataW H) → Nat
  | [] => 0
  | x :: r => uptoBulkEntry x + uptoBulkEntries r
def uptoBulkEntry {H : Type} : Lit × DataW H → Nat
  | (.string bytes, d) => bytes.length + uptoBulk d + 1
  | (_, d) => uptoBulk d + 1
 end
def uptoSmall : (H : Type) → List (DataW H) → Bool := fun _ ds => decide (uptoBulkAll ds ≤ 1048576)
def OpenSpec.upto (s : _root_.Go.ChangeSpec) : _root_.Go.OpenSpec := { _root_.Go.OpenSpec.ofChange s with cond := some uptoSmall }

/-- 'foremanlaw14.OrderStill', WHERE WHAT IT READS IS OF BULK AT MOST 1048576: true; the input reads as it did. -/
def orderStillUptoRow : OpenClaim := { program := "ytpikdjaedbogdaa", sum := "1e9c5d57f7399eb07411ef15ac7e76530e360f2e60799424d295a65be4def408", func := "foreman/foremanlaw14.OrderStill", spec := "orderStill", inPlace := ["slices.overlaps[int]"], unfollowed := true, recurses := true, apart := false, narrowed := true }
def OrderStillUptoSaid : Prop := orderStillUptoRow.holds Try.pinned (OpenSpec.upto orderStillSpec)

/-- 'foremanlaw14.OrderSets', WHERE WHAT IT READS IS OF BULK AT MOST 1048576: true; the input reads as it did. -/
def orderSetsUptoRow : OpenClaim := { program := "ytpikdjaedbogdaa", sum := "1e9c5d57f7399eb07411ef15ac7e76530e360f2e60799424d295a65be4def408", func := "foreman/foremanlaw14.OrderSets", spec := "orderSets", inPlace := ["slices.overlaps[int]"], unfollowed := true, recurses := true, apart := false, narrowed := true }
def OrderSetsUptoSaid : Prop := orderSetsUptoRow.holds Try.pinned (OpenSpec.upto orderSetsSpec)

/-- 'foremanlaw14.OrderTells', WHERE WHAT IT READS IS OF BULK AT MOST 1048576: true; the input reads as it did. -/
def orderTellsUptoRow : OpenClaim := { program := "ytpikdjaedbogdaa", sum := "1e9c5d57f7399eb07411ef15ac7e76530e360f2e60799424d295a65be4def408", func := "foreman/foremanlaw14.OrderTells", spec := "orderTells", inPlace := ["slices.overlaps[int]"], unfollowed := true, recurses := true, apart := false, narrowed := true }
def OrderTellsUptoSaid : Prop := orderTellsUptoRow.holds Try.pinned (OpenSpec.upto orderTellsSpec)

/-- 'foremanlaw14.OrderGrows', WHERE WHAT IT READS IS OF BULK AT MOST 1048576: true; the input reads as it did. -/
def orderGrowsUptoRow : OpenClaim := { program := "ytpikdjaedbogdaa", sum := "1e9c5d57f7399eb07411ef15ac7e76530e360f2e60799424d295a65be4def408", func := "foreman/foremanlaw14.OrderGrows", spec := "orderGrows", inPlace := ["slices.overlaps[int]"], unfollowed := true, recurses := true, apart := false, narrowed := true }
def OrderGrowsUptoSaid : Prop := orderGrowsUptoRow.holds Try.pinned (OpenSpec.upto orderGrowsSpec)

/-- 'foremanlaw14.OrderNone', WHERE WHAT IT READS IS OF BULK AT MOST 1048576: true; the input reads as it did. -/
def orderNoneUptoRow : OpenClaim := { program := "ytpikdjaedbogdaa", sum := "1e9c5d57f7399eb07411ef15ac7e76530e360f2e60799424d295a65be4def408", func := "foreman/foremanlaw14.OrderNone", spec := "orderNone", inPlace := ["slices.overlaps[int]"], unfollowed := true, recurses := true, apart := false, narrowed := true }
def OrderNoneUptoSaid : Prop := orderNoneUptoRow.holds Try.pinned (OpenSpec.upto orderNoneSpec)

/-- 'foremanlaw14.OrderUp', WHERE WHAT IT READS IS OF BULK AT MOST 1048576: true; the input reads as it did. -/
def orderUpUptoRow : OpenClaim := { program := "ytpikdjaedbogdaa", sum := "1e9c5d57f7399eb07411ef15ac7e76530e360f2e60799424d295a65be4def408", func := "foreman/foremanlaw14.OrderUp", spec := "orderUp", inPlace := ["slices.overlaps[int]"], unfollowed := true, recurses := true, apart := false, narrowed := true }
def OrderUpUptoSaid : Prop := orderUpUptoRow.holds Try.pinned (OpenSpec.upto orderUpSpec)

end Rows
end Go.Proofs.Ytpikdjaedbogdaa
