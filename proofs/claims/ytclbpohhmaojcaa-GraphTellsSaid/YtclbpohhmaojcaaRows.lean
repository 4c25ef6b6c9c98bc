/-
  No cell of these rows narrows 'for every input' (looked for: loops, veiled, ifaces, maps, wideKeys, modest, calm, conditions, laid).
  DERIVED. THE GIVEN ROWS OF THIS SEAT. 6 by the template 'for every input the law returns true; each argument reads behind the call as it read before'; 0 by the template 'total and deterministic' (their statements: YtclbpohhmaojcaaTotals.lean).
  GIVEN WITH THE SEED: the statements are not yours to turn. If you find one false, say at which input.
  Laid BY PROGRAM, IN A SANDBOX (cutbox-rows.mjs): the forced cells as the released guide's own fill.sh prints them over the translation 5fef65739e60fa0c… (all of the seat's roots in one cut). By AI agents, Wed Nov 11 2026. No macro, syntax, notation, axiom, sorry.
-/
import Derived.Test.YtclbpohhmaojcaaChecked
import GoSem.Claim
import GoSem.ClaimJoined
import GoSem.ClaimMapViews
import Derived.JoinedTies
import Derived.KernelRfl
namespace Go.Proofs.Ytclbpohhmaojcaa
/- THE CELL 'sum', in the pinned program and in every row, IS THE sha256 OF THE DUMP (.gsa) THAT YtclbpohhmaojcaaProg.lean LOADS. Nothing in Lean hashes anything: it is a label: what it is worth is what the hold of that sum in a sandbox is worth. -/
noncomputable def Try.pinned : Pinned := { name := "ytclbpohhmaojcaa", sum := "5fef65739e60fa0c7691698bd7f95d9da8f86faa71de6d3c6a68d5ac99b9d555", checked := Try.checked }
namespace Rows
def none {H : Type} : Left H := { results := [], args := [] }

/-- 'foremanlaw13.GraphReaches': WHATEVER THE INPUT: true; the input reads as it did. -/
def graphReachesSpec : ChangeSpec := { name := "graphReaches", fn := fun _ => fun
  | [d1, d2, d3, d4, d5] => { results := [.lit (.bool true)], args := [d1, d2, d3, d4, d5] }
  | _ => none }
def graphReachesRow : OpenClaim := { program := "ytclbpohhmaojcaa", sum := "5fef65739e60fa0c7691698bd7f95d9da8f86faa71de6d3c6a68d5ac99b9d555", func := "foreman/foremanlaw13.GraphReaches", spec := "graphReaches", inPlace := ["slices.overlaps[int]"], unfollowed := true, recurses := true, apart := false }
def GraphReachesSaid : Prop := graphReachesRow.holds Try.pinned (OpenSpec.ofChange graphReachesSpec)

/-- ITS FALSE NEIGHBOUR: 'it returns false'. Refute it at one input. -/
def graphReachesWrong : ChangeSpec := { name := "graphReaches", fn := fun _ => fun
  | [d1, d2, d3, d4, d5] => { results := [.lit (.bool false)], args := [d1, d2, d3, d4, d5] }
  | _ => none }
def GraphReachesWrongFalsely : Prop := graphReachesRow.holds Try.pinned (OpenSpec.ofChange graphReachesWrong)

/-- 'foremanlaw13.GraphTurned': WHATEVER THE INPUT: true; the input reads as it did. -/
def graphTurnedSpec : ChangeSpec := { name := "graphTurned", fn := fun _ => fun
  | [d1, d2, d3, d4] => { results := [.lit (.bool true)], args := [d1, d2, d3, d4] }
  | _ => none }
def graphTurnedRow : OpenClaim := { program := "ytclbpohhmaojcaa", sum := "5fef65739e60fa0c7691698bd7f95d9da8f86faa71de6d3c6a68d5ac99b9d555", func := "foreman/foremanlaw13.GraphTurned", spec := "graphTurned", inPlace := ["slices.overlaps[int]"], unfollowed := true, recurses := true, apart := false }
def GraphTurnedSaid : Prop := graphTurnedRow.holds Try.pinned (OpenSpec.ofChange graphTurnedSpec)

/-- ITS FALSE NEIGHBOUR: 'it returns false'. Refute it at one input. -/
def graphTurnedWrong : ChangeSpec := { name := "graphTurned", fn := fun _ => fun
  | [d1, d2, d3, d4] => { results := [.lit (.bool false)], args := [d1, d2, d3, d4] }
  | _ => none }
def GraphTurnedWrongFalsely : Prop := graphTurnedRow.holds Try.pinned (OpenSpec.ofChange graphTurnedWrong)

/-- 'foremanlaw13.GraphSorts': WHATEVER THE INPUT: true; the input reads as it did. -/
def graphSortsSpec : ChangeSpec := { name := "graphSorts", fn := fun _ => fun
  | [d1, d2] => { results := [.lit (.bool true)], args := [d1, d2] }
  | _ => none }
def graphSortsRow : OpenClaim := { program := "ytclbpohhmaojcaa", sum := "5fef65739e60fa0c7691698bd7f95d9da8f86faa71de6d3c6a68d5ac99b9d555", func := "foreman/foremanlaw13.GraphSorts", spec := "graphSorts", inPlace := ["slices.overlaps[int]"], unfollowed := true, recurses := true, apart := false }
def GraphSortsSaid : Prop := graphSortsRow.holds Try.pinned (OpenSpec.ofChange graphSortsSpec)

/-- ITS FALSE NEIGHBOUR: 'it returns false'. Refute it at one input. -/
def graphSortsWrong : ChangeSpec := { name := "graphSorts", fn := fun _ => fun
  | [d1, d2] => { results := [.lit (.bool false)], args := [d1, d2] }
  | _ => none }
def GraphSortsWrongFalsely : Prop := graphSortsRow.holds Try.pinned (OpenSpec.ofChange graphSortsWrong)

/-- 'foremanlaw13.GraphUndone': WHATEVER THE INPUT: true; the input reads as it did. -/
def graphUndoneSpec : ChangeSpec := { name := "graphUndone", fn := fun _ => fun
  | [d1, d2, d3] => { results := [.lit (.bool true)], args := [d1, d2, d3] }
  | _ => none }
def graphUndoneRow : OpenClaim := { program := "ytclbpohhmaojcaa", sum := "5fef65739e60fa0c7691698bd7f95d9da8f86faa71de6d3c6a68d5ac99b9d555", func := "foreman/foremanlaw13.GraphUndone", spec := "graphUndone", inPlace := ["slices.overlaps[int]"], unfollowed := true, recurses := true, apart := false }
def GraphUndoneSaid : Prop := graphUndoneRow.holds Try.pinned (OpenSpec.ofChange graphUndoneSpec)

/-- ITS FALSE NEIGHBOUR: 'it returns false'. Refute it at one input. -/
def graphUndoneWrong : ChangeSpec := { name := "graphUndone", fn := fun _ => fun
  | [d1, d2, d3] => { results := [.lit (.bool false)], args := [d1, d2, d3] }
  | _ => none }
def GraphUndoneWrongFalsely : Prop := graphUndoneRow.holds Try.pinned (OpenSpec.ofChange graphUndoneWrong)

/-- 'foremanlaw13.GraphTells': WHATEVER THE INPUT: true; the input reads as it did. -/
def graphTellsSpec : ChangeSpec := { name := "graphTells", fn := fun _ => fun
  | [d1, d2, d3] => { results := [.lit (.bool true)], args := [d1, d2, d3] }
  | _ => none }
def graphTellsRow : OpenClaim := { program := "ytclbpohhmaojcaa", sum := "5fef65739e60fa0c7691698bd7f95d9da8f86faa71de6d3c6a68d5ac99b9d555", func := "foreman/foremanlaw13.GraphTells", spec := "graphTells", inPlace := ["slices.overlaps[int]"], unfollowed := true, recurses := true, apart := false }
def GraphTellsSaid : Prop := graphTellsRow.holds Try.pinned (OpenSpec.ofChange graphTellsSpec)

/-- ITS FALSE NEIGHBOUR: 'it returns false'. Refute it at one input. -/
def graphTellsWrong : ChangeSpec := { name := "graphTells", fn := fun _ => fun
  | [d1, d2, d3] => { results := [.lit (.bool false)], args := [d1, d2, d3] }
  | _ => none }
def GraphTellsWrongFalsely : Prop := graphTellsRow.holds Try.pinned (OpenSpec.ofChange graphTellsWrong)

/-- 'foremanlaw13.GraphNone': WHATEVER THE INPUT: true; the input reads as it did. -/
def graphNoneSpec : ChangeSpec := { name := "graphNone", fn := fun _ => fun
  | [d1, d2] => { results := [.lit (.bool true)], args := [d1, d2] }
  | _ => none }
def graphNoneRow : OpenClaim := { program := "ytclbpohhmaojcaa", sum := "5fef65739e60fa0c7691698bd7f95d9da8f86faa71de6d3c6a68d5ac99b9d555", func := "foreman/foremanlaw13.GraphNone", spec := "graphNone", inPlace := ["slices.overlaps[int]"], unfollowed := true, recurses := true, apart := false }
def GraphNoneSaid : Prop := graphNoneRow.holds Try.pinned (OpenSpec.ofChange graphNoneSpec)

/-- ITS FALSE NEIGHBOUR: 'it returns false'. Refute it at one input. -/
def graphNoneWrong : ChangeSpec := { name := "graphNone", fn := fun _ => fun
  | [d1, d2] => { results := [.lit (.bool false)], args := [d1, d2] }
  | _ => none }
def GraphNoneWrongFalsely : Prop := graphNoneRow.holds Try.pinned (OpenSpec.ofChange graphNoneWrong)

/- THE SECOND FORM. 'bulk': how many values and letters a reading holds, each counted each time it is reached (what is shared counts as often as it is met; a slice's spare places count too). A statement '..UptoSaid' is the law's where the arguments, and the package variables that the reading takes, are together of bulk at most 1048576: NARROWER than '..Said'. Prove '..Said' where nothing that the law and all that it calls make is longer than what came in: it says more and counts as full. Else prove '..UptoSaid'. A law counts once. -/
mutual
def uptoBulk {H : Type} : DataW H → Nat
  | .lit (.string bytes) => bytes.length + 1
  | .lit _ => 1
  | .nil => 1
  | .ptr d => uptoBulk d + 1
  | .slice elems spare => uptoBulkAll elems + uptoBulkAll spare + 1
  | .agg parts => uptoBulkAll parts + 1
  | .iface _ d => uptoBulk d + 1
  | .map entries => uptoBulkEntries entries + 1
  | .held _ => 1
def uptoBulkAll {H : Type} : List (DataW H) → Nat
  | [] => 0
  | d :: r => uptoBulk d + uptoBulkAll r
def uptoBulkEntries {H : Type} : List (Lit × DataW H) → Nat
  | [] => 0
  | x :: r => uptoBulkEntry x + uptoBulkEntries r
def uptoBulkEntry {H : Type} : Lit × DataW H → Nat
  | (.string bytes, d) => bytes.length + uptoBulk d + 1
  | (_, d) => uptoBulk d + 1
 end
def uptoSmall : (H : Type) → List (DataW H) → Bool := fun _ ds => decide (uptoBulkAll ds ≤ 1048576)
def OpenSpec.upto (s : _root_.Go.ChangeSpec) : _root_.Go.OpenSpec := { _root_.Go.OpenSpec.ofChange s with cond := some uptoSmall }

/-- 'foremanlaw13.GraphReaches', WHERE WHAT IT READS IS OF BULK AT MOST 1048576: true; the input reads as it did. -/
def graphReachesUptoRow : OpenClaim := { program := "ytclbpohhmaojcaa", sum := "5fef65739e60fa0c7691698bd7f95d9da8f86faa71de6d3c6a68d5ac99b9d555", func := "foreman/foremanlaw13.GraphReaches", spec := "graphReaches", inPlace := ["slices.overlaps[int]"], unfollowed := true, recurses := true, apart := false, narrowed := true }
def GraphReachesUptoSaid : Prop := graphReachesUptoRow.holds Try.pinned (OpenSpec.upto graphReachesSpec)

/-- 'foremanlaw13.GraphTurned', WHERE WHAT IT READS IS OF BULK AT MOST 1048576: true; the input reads as it did. -/
def graphTurnedUptoRow : OpenClaim := { program := "ytclbpohhmaojcaa", sum := "5fef65739e60fa0c7691698bd7f95d9da8f86faa71de6d3c6a68d5ac99b9d555", func := "foreman/foremanlaw13.GraphTurned", spec := "graphTurned", inPlace := ["slices.overlaps[int]"], unfollowed := true, recurses := true, apart := false, narrowed := true }
def GraphTurnedUptoSaid : Prop := graphTurnedUptoRow.holds Try.pinned (OpenSpec.upto graphTurnedSpec)

/-- 'foremanlaw13.GraphSorts', WHERE WHAT IT READS IS OF BULK AT MOST 1048576: true; the input reads as it did. -/
def graphSortsUptoRow : OpenClaim := { program := "ytclbpohhmaojcaa", sum := "5fef65739e60fa0c7691698bd7f95d9da8f86faa71de6d3c6a68d5ac99b9d555", func := "foreman/foremanlaw13.GraphSorts", spec := "graphSorts", inPlace := ["slices.overlaps[int]"], unfollowed := true, recurses := true, apart := false, narrowed := true }
def GraphSortsUptoSaid : Prop := graphSortsUptoRow.holds Try.pinned (OpenSpec.upto graphSortsSpec)

/-- 'foremanlaw13.GraphUndone', WHERE WHAT IT READS IS OF BULK AT MOST 1048576: true; the input reads as it did. -/
def graphUndoneUptoRow : OpenClaim := { program := "ytclbpohhmaojcaa", sum := "5fef65739e60fa0c7691698bd7f95d9da8f86faa71de6d3c6a68d5ac99b9d555", func := "foreman/foremanlaw13.GraphUndone", spec := "graphUndone", inPlace := ["slices.overlaps[int]"], unfollowed := true, recurses := true, apart := false, narrowed := true }
def GraphUndoneUptoSaid : Prop := graphUndoneUptoRow.holds Try.pinned (OpenSpec.upto graphUndoneSpec)

/-- 'foremanlaw13.GraphTells', WHERE WHAT IT READS IS OF BULK AT MOST 1048576: true; the input reads as it did. -/
def graphTellsUptoRow : OpenClaim := { program := "ytclbpohhmaojcaa", sum := "5fef65739e60fa0c7691698bd7f95d9da8f86faa71de6d3c6a68d5ac99b9d555", func := "foreman/foremanlaw13.GraphTells", spec := "graphTells", inPlace := ["slices.overlaps[int]"], unfollowed := true, recurses := true, apart := false, narrowed := true }
def GraphTellsUptoSaid : Prop := graphTellsUptoRow.holds Try.pinned (OpenSpec.upto graphTellsSpec)

/-- 'foremanlaw13.GraphNone', WHERE WHAT IT READS IS OF BULK AT MOST 1048576: true; the input reads as it did. -/
def graphNoneUptoRow : OpenClaim := { program := "ytclbpohhmaojcaa", sum := "5fef65739e60fa0c7691698bd7f95d9da8f86faa71de6d3c6a68d5ac99b9d555", func := "foreman/foremanlaw13.GraphNone", spec := "graphNone", inPlace := ["slices.overlaps[int]"], unfollowed := true, recurses := true, apart := false, narrowed := true }
def GraphNoneUptoSaid : Prop := graphNoneUptoRow.holds Try.pinned (OpenSpec.upto graphNoneSpec)

end Rows
end Go.Proofs.Ytclbpohhmaojcaa
