/-
  No cell of these rows narrows 'for every input' (looked for: loops, veiled, ifaces, maps, wideKeys, modest, calm, conditions, laid).
  DERIVED. THE GIVEN ROWS OF THIS SEAT. 6 by the template 'for every input the law returns true; each argument reads behind the call as it read before'; 0 by the template 'total and deterministic' (their statements: YtnclbonoenjbeaaTotals.lean).
  GIVEN WITH THE SEED: the statements are not yours to turn. If you find one false, say at which input.
  Laid BY PROGRAM, IN A SANDBOX (cutbox-rows.mjs): the forced cells as the released guide's own fill.sh prints them over the translation 068c5f1692e12c6a… (all of the seat's roots in one cut). By AI agents, Wed Nov 11 2026. No macro, syntax, notation, axiom, sorry.
-/
import Derived.Test.YtnclbonoenjbeaaChecked
import GoSem.Claim
import GoSem.ClaimJoined
import GoSem.ClaimMapViews
import Derived.JoinedTies
import Derived.KernelRfl
namespace Go.Proofs.Ytnclbonoenjbeaa
/- THE CELL 'sum', in the pinned program and in every row, IS THE sha256 OF THE DUMP (.gsa) THAT YtnclbonoenjbeaaProg.lean LOADS. Nothing in Lean hashes anything: it is a label: what it is worth is what the hold of that sum in a sandbox is worth. -/
noncomputable def Try.pinned : Pinned := { name := "ytnclbonoenjbeaa", sum := "068c5f1692e12c6a7bd2b91a0dc1cdd31c1f7b6c3dbf96942695cccd45985ff7", checked := Try.checked }
namespace Rows
def none {H : Type} : Left H := { results := [], args := [] }

/-- 'foremanlaw04.BatchWhole': WHATEVER THE INPUT: true; the input reads as it did. -/
def batchWholeSpec : ChangeSpec := { name := "batchWhole", fn := fun _ => fun
  | [d1, d2] => { results := [.lit (.bool true)], args := [d1, d2] }
  | _ => none }
def batchWholeRow : OpenClaim := { program := "ytnclbonoenjbeaa", sum := "068c5f1692e12c6a7bd2b91a0dc1cdd31c1f7b6c3dbf96942695cccd45985ff7", func := "foreman/foremanlaw04.BatchWhole", spec := "batchWhole", unfollowed := true, recurses := true, apart := false }
def BatchWholeSaid : Prop := batchWholeRow.holds Try.pinned (OpenSpec.ofChange batchWholeSpec)

/-- ITS FALSE NEIGHBOUR: 'it returns false'. Refute it at one input. -/
def batchWholeWrong : ChangeSpec := { name := "batchWhole", fn := fun _ => fun
  | [d1, d2] => { results := [.lit (.bool false)], args := [d1, d2] }
  | _ => none }
def BatchWholeWrongFalsely : Prop := batchWholeRow.holds Try.pinned (OpenSpec.ofChange batchWholeWrong)

/-- 'foremanlaw04.BatchBehind': WHATEVER THE INPUT: true; the input reads as it did. -/
def batchBehindSpec : ChangeSpec := { name := "batchBehind", fn := fun _ => fun
  | [d1, d2] => { results := [.lit (.bool true)], args := [d1, d2] }
  | _ => none }
def batchBehindRow : OpenClaim := { program := "ytnclbonoenjbeaa", sum := "068c5f1692e12c6a7bd2b91a0dc1cdd31c1f7b6c3dbf96942695cccd45985ff7", func := "foreman/foremanlaw04.BatchBehind", spec := "batchBehind", unfollowed := true, recurses := true, apart := false }
def BatchBehindSaid : Prop := batchBehindRow.holds Try.pinned (OpenSpec.ofChange batchBehindSpec)

/-- ITS FALSE NEIGHBOUR: 'it returns false'. Refute it at one input. -/
def batchBehindWrong : ChangeSpec := { name := "batchBehind", fn := fun _ => fun
  | [d1, d2] => { results := [.lit (.bool false)], args := [d1, d2] }
  | _ => none }
def BatchBehindWrongFalsely : Prop := batchBehindRow.holds Try.pinned (OpenSpec.ofChange batchBehindWrong)

/-- 'foremanlaw04.BatchMixed': WHATEVER THE INPUT: true; the input reads as it did. -/
def batchMixedSpec : ChangeSpec := { name := "batchMixed", fn := fun _ => fun
  | [d1, d2, d3] => { results := [.lit (.bool true)], args := [d1, d2, d3] }
  | _ => none }
def batchMixedRow : OpenClaim := { program := "ytnclbonoenjbeaa", sum := "068c5f1692e12c6a7bd2b91a0dc1cdd31c1f7b6c3dbf96942695cccd45985ff7", func := "foreman/foremanlaw04.BatchMixed", spec := "batchMixed", unfollowed := true, recurses := true, apart := false }
def BatchMixedSaid : Prop := batchMixedRow.holds Try.pinned (OpenSpec.ofChange batchMixedSpec)

/-- ITS FALSE NEIGHBOUR: 'it returns false'. Refute it at one input. -/
def batchMixedWrong : ChangeSpec := { name := "batchMixed", fn := fun _ => fun
  | [d1, d2, d3] => { results := [.lit (.bool false)], args := [d1, d2, d3] }
  | _ => none }
def BatchMixedWrongFalsely : Prop := batchMixedRow.holds Try.pinned (OpenSpec.ofChange batchMixedWrong)

/-- 'foremanlaw04.BatchTells': WHATEVER THE INPUT: true; the input reads as it did. -/
def batchTellsSpec : ChangeSpec := { name := "batchTells", fn := fun _ => fun
  | [d1, d2, d3] => { results := [.lit (.bool true)], args := [d1, d2, d3] }
  | _ => none }
def batchTellsRow : OpenClaim := { program := "ytnclbonoenjbeaa", sum := "068c5f1692e12c6a7bd2b91a0dc1cdd31c1f7b6c3dbf96942695cccd45985ff7", func := "foreman/foremanlaw04.BatchTells", spec := "batchTells", unfollowed := true, recurses := true, apart := false }
def BatchTellsSaid : Prop := batchTellsRow.holds Try.pinned (OpenSpec.ofChange batchTellsSpec)

/-- ITS FALSE NEIGHBOUR: 'it returns false'. Refute it at one input. -/
def batchTellsWrong : ChangeSpec := { name := "batchTells", fn := fun _ => fun
  | [d1, d2, d3] => { results := [.lit (.bool false)], args := [d1, d2, d3] }
  | _ => none }
def BatchTellsWrongFalsely : Prop := batchTellsRow.holds Try.pinned (OpenSpec.ofChange batchTellsWrong)

/-- 'foremanlaw04.BatchLong': WHATEVER THE INPUT: true; the input reads as it did. -/
def batchLongSpec : ChangeSpec := { name := "batchLong", fn := fun _ => fun
  | [d1, d2] => { results := [.lit (.bool true)], args := [d1, d2] }
  | _ => none }
def batchLongRow : OpenClaim := { program := "ytnclbonoenjbeaa", sum := "068c5f1692e12c6a7bd2b91a0dc1cdd31c1f7b6c3dbf96942695cccd45985ff7", func := "foreman/foremanlaw04.BatchLong", spec := "batchLong", unfollowed := true, recurses := true, apart := false }
def BatchLongSaid : Prop := batchLongRow.holds Try.pinned (OpenSpec.ofChange batchLongSpec)

/-- ITS FALSE NEIGHBOUR: 'it returns false'. Refute it at one input. -/
def batchLongWrong : ChangeSpec := { name := "batchLong", fn := fun _ => fun
  | [d1, d2] => { results := [.lit (.bool false)], args := [d1, d2] }
  | _ => none }
def BatchLongWrongFalsely : Prop := batchLongRow.holds Try.pinned (OpenSpec.ofChange batchLongWrong)

/-- 'foremanlaw04.BatchCut': WHATEVER THE INPUT: true; the input reads as it did. -/
def batchCutSpec : ChangeSpec := { name := "batchCut", fn := fun _ => fun
  | [d] => { results := [.lit (.bool true)], args := [d] }
  | _ => none }
def batchCutRow : OpenClaim := { program := "ytnclbonoenjbeaa", sum := "068c5f1692e12c6a7bd2b91a0dc1cdd31c1f7b6c3dbf96942695cccd45985ff7", func := "foreman/foremanlaw04.BatchCut", spec := "batchCut", unfollowed := true, recurses := true, apart := false }
def BatchCutSaid : Prop := batchCutRow.holds Try.pinned (OpenSpec.ofChange batchCutSpec)

/-- ITS FALSE NEIGHBOUR: 'it returns false'. Refute it at one input. -/
def batchCutWrong : ChangeSpec := { name := "batchCut", fn := fun _ => fun
  | [d] => { results := [.lit (.bool false)], args := [d] }
  | _ => none }
def BatchCutWrongFalsely : Prop := batchCutRow.holds Try.pinned (OpenSpec.ofChange batchCutWrong)

/- THE SECOND FORM. 'bulk': how many values and letters a reading holds, each counted each time it is reached (what is shared counts as often as it is met; a slice's spare places count too). A statement '..UptoSaid' is the law's where the arguments, and the package variables that the reading takes, are together of bulk at most 1048576: NARROWER than '..Said'. Prove '..Said' where nothing that the law and all that it calls make is longer than what came in: it says more and counts as full. Else prove '..UptoSaid'. A law counts once. -/
mutual
def uptoBulk {H : Type} : DataW H → Nat
  | .lit (.string bytes) => bytes.length + 1
  | .lit _ => 1
  | .nil => 1
  | .ptr d => uptoBulk d + 1
  | .slice elems spare => uptoBulkAll elems + uptoBulkAll spare + 1
  | .agg parts => uptoBulkAll parts + 1
  | .iface _ d => uptoBulk d + 1
  | .map entries => uptoBulkEntries entries + 1
  | .held _ => 1
def uptoBulkAll {H : Type} : List (DataW H) → Nat
  | [] => 0
  | d :: r => uptoBulk d + uptoBulkAll r
def uptoBulkEntries {H : Type} : List (Lit × DataW H) → Nat
  | [] => 0
  | x :: r => uptoBulkEntry x + uptoBulkEntries r
def uptoBulkEntry {H : Type} : Lit × DataW H → Nat
  | (.string bytes, d) => bytes.length + uptoBulk d + 1
  | (_, d) => uptoBulk d + 1
 end
def uptoSmall : (H : Type) → List (DataW H) → Bool := fun _ ds => decide (uptoBulkAll ds ≤ 1048576)
def OpenSpec.upto (s : _root_.Go.ChangeSpec) : _root_.Go.OpenSpec := { _root_.Go.OpenSpec.ofChange s with cond := some uptoSmall }

/-- 'foremanlaw04.BatchWhole', WHERE WHAT IT READS IS OF BULK AT MOST 1048576: true; the input reads as it did. -/
def batchWholeUptoRow : OpenClaim := { program := "ytnclbonoenjbeaa", sum := "068c5f1692e12c6a7bd2b91a0dc1cdd31c1f7b6c3dbf96942695cccd45985ff7", func := "foreman/foremanlaw04.BatchWhole", spec := "batchWhole", unfollowed := true, recurses := true, apart := false, narrowed := true }
def BatchWholeUptoSaid : Prop := batchWholeUptoRow.holds Try.pinned (OpenSpec.upto batchWholeSpec)

/-- 'foremanlaw04.BatchBehind', WHERE WHAT IT READS IS OF BULK AT MOST 1048576: true; the input reads as it did. -/
def batchBehindUptoRow : OpenClaim := { program := "ytnclbonoenjbeaa", sum := "068c5f1692e12c6a7bd2b91a0dc1cdd31c1f7b6c3dbf96942695cccd45985ff7", func := "foreman/foremanlaw04.BatchBehind", spec := "batchBehind", unfollowed := true, recurses := true, apart := false, narrowed := true }
def BatchBehindUptoSaid : Prop := batchBehindUptoRow.holds Try.pinned (OpenSpec.upto batchBehindSpec)

/-- 'foremanlaw04.BatchMixed', WHERE WHAT IT READS IS OF BULK AT MOST 1048576: true; the input reads as it did. -/
def batchMixedUptoRow : OpenClaim := { program := "ytnclbonoenjbeaa", sum := "068c5f1692e12c6a7bd2b91a0dc1cdd31c1f7b6c3dbf96942695cccd45985ff7", func := "foreman/foremanlaw04.BatchMixed", spec := "batchMixed", unfollowed := true, recurses := true, apart := false, narrowed := true }
def BatchMixedUptoSaid : Prop := batchMixedUptoRow.holds Try.pinned (OpenSpec.upto batchMixedSpec)

/-- 'foremanlaw04.BatchTells', WHERE WHAT IT READS IS OF BULK AT MOST 1048576: true; the input reads as it did. -/
def batchTellsUptoRow : OpenClaim := { program := "ytnclbonoenjbeaa", sum := "068c5f1692e12c6a7bd2b91a0dc1cdd31c1f7b6c3dbf96942695cccd45985ff7", func := "foreman/foremanlaw04.BatchTells", spec := "batchTells", unfollowed := true, recurses := true, apart := false, narrowed := true }
def BatchTellsUptoSaid : Prop := batchTellsUptoRow.holds Try.pinned (OpenSpec.upto batchTellsSpec)

/-- 'foremanlaw04.BatchLong', WHERE WHAT IT READS IS OF BULK AT MOST 1048576: true; the input reads as it did. -/
def batchLongUptoRow : OpenClaim := { program := "ytnclbonoenjbeaa", sum := "068c5f1692e12c6a7bd2b91a0dc1cdd31c1f7b6c3dbf96942695cccd45985ff7", func := "foreman/foremanlaw04.BatchLong", spec := "batchLong", unfollowed := true, recurses := true, apart := false, narrowed := true }
def BatchLongUptoSaid : Prop := batchLongUptoRow.holds Try.pinned (OpenSpec.upto batchLongSpec)

/-- 'foremanlaw04.BatchCut', WHERE WHAT IT READS IS OF BULK AT MOST 1048576: true; the input reads as it did. -/
def batchCutUptoRow : OpenClaim := { program := "ytnclbonoenjbeaa", sum := "068c5f1692e12c6a7bd2b91a0dc1cdd31c1f7b6c3dbf96942695cccd45985ff7", func := "foreman/foremanlaw04.BatchCut", spec := "batchCut", unfollowed := true, recurses := true, apart := false, narrowed := true }
def BatchCutUptoSaid : Prop := batchCutUptoRow.holds Try.pinned (OpenSpec.upto batchCutSpec)

end Rows
end Go.Proofs.Ytnclbonoenjbeaa
