/-
  No cell of these rows narrows 'for every input' (looked for: loops, veiled, ifaces, maps, wideKeys, modest, calm, conditions, laid).
  DERIVED. THE GIVEN ROWS OF THIS SEAT. 5 by the template 'for every input the law returns true; each argument reads behind the call as it read before'; 0 by the template 'total and deterministic' (their statements: YtboikajfcmgffaaTotals.lean).
  GIVEN WITH THE SEED: the statements are not yours to turn. If you find one false, say at which input.
  Laid BY PROGRAM, IN A SANDBOX (cutbox-rows.mjs): the forced cells as the released guide's own fill.sh prints them over the translation f20a1d37734f2767… (all of the seat's roots in one cut). By AI agents, Wed Nov 11 2026. No macro, syntax, notation, axiom, sorry.
-/
import Derived.Test.YtboikajfcmgffaaChecked
import GoSem.Claim
import GoSem.ClaimJoined
import GoSem.ClaimMapViews
import Derived.JoinedTies
import Derived.KernelRfl
namespace Go.Proofs.Ytboikajfcmgffaa
/- THE CELL 'sum', in the pinned program and in every row, IS THE sha256 OF THE DUMP (.gsa) THAT YtboikajfcmgffaaProg.lean LOADS. Nothing in Lean hashes anything: it is a label: what it is worth is what the hold of that sum in a sandbox is worth. -/
noncomputable def Try.pinned : Pinned := { name := "ytboikajfcmgffaa", sum := "f20a1d37734f27676256b41c199c703e01a28380f667fcfcaf831123807674ce", checked := Try.checked }
namespace Rows
def none {H : Type} : Left H := { results := [], args := [] }

/-- 'foremanlaw03.RecCut': WHATEVER THE INPUT: true; the input reads as it did. -/
def recCutSpec : ChangeSpec := { name := "recCut", fn := fun _ => fun
  | [d1, d2] => { results := [.lit (.bool true)], args := [d1, d2] }
  | _ => none }
def recCutRow : OpenClaim := { program := "ytboikajfcmgffaa", sum := "f20a1d37734f27676256b41c199c703e01a28380f667fcfcaf831123807674ce", func := "foreman/foremanlaw03.RecCut", spec := "recCut", unfollowed := true, recurses := true, apart := false }
def RecCutSaid : Prop := recCutRow.holds Try.pinned (OpenSpec.ofChange recCutSpec)

/-- ITS FALSE NEIGHBOUR: 'it returns false'. Refute it at one input. -/
def recCutWrong : ChangeSpec := { name := "recCut", fn := fun _ => fun
  | [d1, d2] => { results := [.lit (.bool false)], args := [d1, d2] }
  | _ => none }
def RecCutWrongFalsely : Prop := recCutRow.holds Try.pinned (OpenSpec.ofChange recCutWrong)

/-- 'foremanlaw03.RecTurned': WHATEVER THE INPUT: true; the input reads as it did. -/
def recTurnedSpec : ChangeSpec := { name := "recTurned", fn := fun _ => fun
  | [d1, d2, d3] => { results := [.lit (.bool true)], args := [d1, d2, d3] }
  | _ => none }
def recTurnedRow : OpenClaim := { program := "ytboikajfcmgffaa", sum := "f20a1d37734f27676256b41c199c703e01a28380f667fcfcaf831123807674ce", func := "foreman/foremanlaw03.RecTurned", spec := "recTurned", unfollowed := true, recurses := true, apart := false }
def RecTurnedSaid : Prop := recTurnedRow.holds Try.pinned (OpenSpec.ofChange recTurnedSpec)

/-- ITS FALSE NEIGHBOUR: 'it returns false'. Refute it at one input. -/
def recTurnedWrong : ChangeSpec := { name := "recTurned", fn := fun _ => fun
  | [d1, d2, d3] => { results := [.lit (.bool false)], args := [d1, d2, d3] }
  | _ => none }
def RecTurnedWrongFalsely : Prop := recTurnedRow.holds Try.pinned (OpenSpec.ofChange recTurnedWrong)

/-- 'foremanlaw03.RecAny': WHATEVER THE INPUT: true; the input reads as it did. -/
def recAnySpec : ChangeSpec := { name := "recAny", fn := fun _ => fun
  | [d1, d2] => { results := [.lit (.bool true)], args := [d1, d2] }
  | _ => none }
def recAnyRow : OpenClaim := { program := "ytboikajfcmgffaa", sum := "f20a1d37734f27676256b41c199c703e01a28380f667fcfcaf831123807674ce", func := "foreman/foremanlaw03.RecAny", spec := "recAny", unfollowed := true, recurses := true, apart := false }
def RecAnySaid : Prop := recAnyRow.holds Try.pinned (OpenSpec.ofChange recAnySpec)

/-- ITS FALSE NEIGHBOUR: 'it returns false'. Refute it at one input. -/
def recAnyWrong : ChangeSpec := { name := "recAny", fn := fun _ => fun
  | [d1, d2] => { results := [.lit (.bool false)], args := [d1, d2] }
  | _ => none }
def RecAnyWrongFalsely : Prop := recAnyRow.holds Try.pinned (OpenSpec.ofChange recAnyWrong)

/-- 'foremanlaw03.RecTells': WHATEVER THE INPUT: true; the input reads as it did. -/
def recTellsSpec : ChangeSpec := { name := "recTells", fn := fun _ => fun
  | [d1, d2, d3] => { results := [.lit (.bool true)], args := [d1, d2, d3] }
  | _ => none }
def recTellsRow : OpenClaim := { program := "ytboikajfcmgffaa", sum := "f20a1d37734f27676256b41c199c703e01a28380f667fcfcaf831123807674ce", func := "foreman/foremanlaw03.RecTells", spec := "recTells", unfollowed := true, recurses := true, apart := false }
def RecTellsSaid : Prop := recTellsRow.holds Try.pinned (OpenSpec.ofChange recTellsSpec)

/-- ITS FALSE NEIGHBOUR: 'it returns false'. Refute it at one input. -/
def recTellsWrong : ChangeSpec := { name := "recTells", fn := fun _ => fun
  | [d1, d2, d3] => { results := [.lit (.bool false)], args := [d1, d2, d3] }
  | _ => none }
def RecTellsWrongFalsely : Prop := recTellsRow.holds Try.pinned (OpenSpec.ofChange recTellsWrong)

/-- 'foremanlaw03.RecBack': WHATEVER THE INPUT: true; the input reads as it did. -/
def recBackSpec : ChangeSpec := { name := "recBack", fn := fun _ => fun
  | [d1, d2, d3] => { results := [.lit (.bool true)], args := [d1, d2, d3] }
  | _ => none }
def recBackRow : OpenClaim := { program := "ytboikajfcmgffaa", sum := "f20a1d37734f27676256b41c199c703e01a28380f667fcfcaf831123807674ce", func := "foreman/foremanlaw03.RecBack", spec := "recBack", unfollowed := true, recurses := true, apart := false }
def RecBackSaid : Prop := recBackRow.holds Try.pinned (OpenSpec.ofChange recBackSpec)

/-- ITS FALSE NEIGHBOUR: 'it returns false'. Refute it at one input. -/
def recBackWrong : ChangeSpec := { name := "recBack", fn := fun _ => fun
  | [d1, d2, d3] => { results := [.lit (.bool false)], args := [d1, d2, d3] }
  | _ => none }
def RecBackWrongFalsely : Prop := recBackRow.holds Try.pinned (OpenSpec.ofChange recBackWrong)

/- THE SECOND FORM. 'bulk': how many values and letters a reading holds, each counted each time it is reached (what is shared counts as often as it is met; a slice's spare places count too). A statement '..UptoSaid' is the law's where the arguments, and the package variables that the reading takes, are together of bulk at most 1048576: NARROWER than '..Said'. Prove '..Said' where nothing that the law and all that it calls make is longer than what came in: it says more and counts as full. Else prove '..UptoSaid'. A law counts once. -/
mutual
def uptoBulk {H : Type} : DataW H → Nat
  | .lit (.string bytes) => bytes.length + 1
  | .lit _ => 1
  | .nil => 1
  | .ptr d => uptoBulk d + 1
  | .slice elems spare => uptoBulkAll elems + uptoBulkAll spare + 1
  | .agg parts => uptoBulkAll parts + 1
  | .iface _ d => uptoBulk d + 1
  | .map entries => uptoBulkEntries entries + 1
  | .held _ => 1
def uptoBulkAll {H : Type} : List (DataW H) → Nat
  | [] => 0
  | d :: r => uptoBulk d + uptoBulkAll r
def uptoBulkEntries {H : Type} : List (Lit × DataW H) → Nat
  | [] => 0
  | x :: r => uptoBulkEntry x + uptoBulkEntries r
def uptoBulkEntry {H : Type} : Lit × DataW H → Nat
  | (.string bytes, d) => bytes.length + uptoBulk d + 1
  | (_, d) => uptoBulk d + 1
 end
def uptoSmall : (H : Type) → List (DataW H) → Bool := fun _ ds => decide (uptoBulkAll ds ≤ 1048576)
def OpenSpec.upto (s : _root_.Go.ChangeSpec) : _root_.Go.OpenSpec := { _root_.Go.OpenSpec.ofChange s with cond := some uptoSmall }

/-- 'foremanlaw03.RecCut', WHERE WHAT IT READS IS OF BULK AT MOST 1048576: true; the input reads as it did. -/
def recCutUptoRow : OpenClaim := { program := "ytboikajfcmgffaa", sum := "f20a1d37734f27676256b41c199c703e01a28380f667fcfcaf831123807674ce", func := "foreman/foremanlaw03.RecCut", spec := "recCut", unfollowed := true, recurses := true, apart := false, narrowed := true }
def RecCutUptoSaid : Prop := recCutUptoRow.holds Try.pinned (OpenSpec.upto recCutSpec)

/-- 'foremanlaw03.RecTurned', WHERE WHAT IT READS IS OF BULK AT MOST 1048576: true; the input reads as it did. -/
def recTurnedUptoRow : OpenClaim := { program := "ytboikajfcmgffaa", sum := "f20a1d37734f27676256b41c199c703e01a28380f667fcfcaf831123807674ce", func := "foreman/foremanlaw03.RecTurned", spec := "recTurned", unfollowed := true, recurses := true, apart := false, narrowed := true }
def RecTurnedUptoSaid : Prop := recTurnedUptoRow.holds Try.pinned (OpenSpec.upto recTurnedSpec)

/-- 'foremanlaw03.RecAny', WHERE WHAT IT READS IS OF BULK AT MOST 1048576: true; the input reads as it did. -/
def recAnyUptoRow : OpenClaim := { program := "ytboikajfcmgffaa", sum := "f20a1d37734f27676256b41c199c703e01a28380f667fcfcaf831123807674ce", func := "foreman/foremanlaw03.RecAny", spec := "recAny", unfollowed := true, recurses := true, apart := false, narrowed := true }
def RecAnyUptoSaid : Prop := recAnyUptoRow.holds Try.pinned (OpenSpec.upto recAnySpec)

/-- 'foremanlaw03.RecTells', WHERE WHAT IT READS IS OF BULK AT MOST 1048576: true; the input reads as it did. -/
def recTellsUptoRow : OpenClaim := { program := "ytboikajfcmgffaa", sum := "f20a1d37734f27676256b41c199c703e01a28380f667fcfcaf831123807674ce", func := "foreman/foremanlaw03.RecTells", spec := "recTells", unfollowed := true, recurses := true, apart := false, narrowed := true }
def RecTellsUptoSaid : Prop := recTellsUptoRow.holds Try.pinned (OpenSpec.upto recTellsSpec)

/-- 'foremanlaw03.RecBack', WHERE WHAT IT READS IS OF BULK AT MOST 1048576: true; the input reads as it did. -/
def recBackUptoRow : OpenClaim := { program := "ytboikajfcmgffaa", sum := "f20a1d37734f27676256b41c199c703e01a28380f667fcfcaf831123807674ce", func := "foreman/foremanlaw03.RecBack", spec := "recBack", unfollowed := true, recurses := true, apart := false, narrowed := true }
def RecBackUptoSaid : Prop := recBackUptoRow.holds Try.pinned (OpenSpec.upto recBackSpec)

end Rows
end Go.Proofs.Ytboikajfcmgffaa
