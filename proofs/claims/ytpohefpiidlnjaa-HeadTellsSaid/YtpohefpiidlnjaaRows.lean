/-
  No cell of these rows narrows 'for every input' (looked for: loops, veiled, ifaces, maps, wideKeys, modest, calm, conditions, laid).
  DERIVED. THE GIVEN ROWS OF THIS SEAT. 6 by the template 'for every input the law returns true; each argument reads behind the call as it read before'; 0 by the template 'total and deterministic' (their statements: YtpohefpiidlnjaaTotals.lean).
  GIVEN WITH THE SEED: the statements are not yours to turn. If you find one false, say at which input.
  Laid BY PROGRAM, IN A SANDBOX (cutbox-rows.mjs): the forced cells as the released guide's own fill.sh prints them over the translation 60856eb4858aa47e… (all of the seat's roots in one cut). By AI agents, Wed Nov 11 2026. No macro, syntax, notation, axiom, sorry.
-/
import Derived.Test.YtpohefpiidlnjaaChecked
import GoSem.Claim
import GoSem.ClaimJoined
import GoSem.ClaimMapViews
import Derived.JoinedTies
import Derived.KernelRfl
namespace Go.Proofs.Ytpohefpiidlnjaa
/- THE CELL 'sum', in the pinned program and in every row, IS THE sha256 OF THE DUMP (.gsa) THAT YtpohefpiidlnjaaProg.lean LOADS. Nothing in Lean hashes anything: it is a label: what it is worth is what the hold of that sum in a sandbox is worth. -/
noncomputable def Try.pinned : Pinned := { name := "ytpohefpiidlnjaa", sum := "60856eb4858aa47eebf259b5b55c8aece00b89a9e6021a85856cd5fbd64d2133", checked := Try.checked }
namespace Rows
def none {H : Type} : Left H := { results := [], args := [] }

/-- 'foremanlaw05.HeadBack': WHATEVER THE INPUT: true; the input reads as it did. -/
def headBackSpec : ChangeSpec := { name := "headBack", fn := fun _ => fun
  | [d1, d2, d3] => { results := [.lit (.bool true)], args := [d1, d2, d3] }
  | _ => none }
def headBackRow : OpenClaim := { program := "ytpohefpiidlnjaa", sum := "60856eb4858aa47eebf259b5b55c8aece00b89a9e6021a85856cd5fbd64d2133", func := "foreman/foremanlaw05.HeadBack", spec := "headBack", unfollowed := true, recurses := true, apart := false }
def HeadBackSaid : Prop := headBackRow.holds Try.pinned (OpenSpec.ofChange headBackSpec)

/-- ITS FALSE NEIGHBOUR: 'it returns false'. Refute it at one input. -/
def headBackWrong : ChangeSpec := { name := "headBack", fn := fun _ => fun
  | [d1, d2, d3] => { results := [.lit (.bool false)], args := [d1, d2, d3] }
  | _ => none }
def HeadBackWrongFalsely : Prop := headBackRow.holds Try.pinned (OpenSpec.ofChange headBackWrong)

/-- 'foremanlaw05.HeadTorn': WHATEVER THE INPUT: true; the input reads as it did. -/
def headTornSpec : ChangeSpec := { name := "headTorn", fn := fun _ => fun
  | [d1, d2, d3] => { results := [.lit (.bool true)], args := [d1, d2, d3] }
  | _ => none }
def headTornRow : OpenClaim := { program := "ytpohefpiidlnjaa", sum := "60856eb4858aa47eebf259b5b55c8aece00b89a9e6021a85856cd5fbd64d2133", func := "foreman/foremanlaw05.HeadTorn", spec := "headTorn", unfollowed := true, recurses := true, apart := false }
def HeadTornSaid : Prop := headTornRow.holds Try.pinned (OpenSpec.ofChange headTornSpec)

/-- ITS FALSE NEIGHBOUR: 'it returns false'. Refute it at one input. -/
def headTornWrong : ChangeSpec := { name := "headTorn", fn := fun _ => fun
  | [d1, d2, d3] => { results := [.lit (.bool false)], args := [d1, d2, d3] }
  | _ => none }
def HeadTornWrongFalsely : Prop := headTornRow.holds Try.pinned (OpenSpec.ofChange headTornWrong)

/-- 'foremanlaw05.HeadTurns': WHATEVER THE INPUT: true; the input reads as it did. -/
def headTurnsSpec : ChangeSpec := { name := "headTurns", fn := fun _ => fun
  | [d1, d2, d3] => { results := [.lit (.bool true)], args := [d1, d2, d3] }
  | _ => none }
def headTurnsRow : OpenClaim := { program := "ytpohefpiidlnjaa", sum := "60856eb4858aa47eebf259b5b55c8aece00b89a9e6021a85856cd5fbd64d2133", func := "foreman/foremanlaw05.HeadTurns", spec := "headTurns", unfollowed := true, recurses := true, apart := false }
def HeadTurnsSaid : Prop := headTurnsRow.holds Try.pinned (OpenSpec.ofChange headTurnsSpec)

/-- ITS FALSE NEIGHBOUR: 'it returns false'. Refute it at one input. -/
def headTurnsWrong : ChangeSpec := { name := "headTurns", fn := fun _ => fun
  | [d1, d2, d3] => { results := [.lit (.bool false)], args := [d1, d2, d3] }
  | _ => none }
def HeadTurnsWrongFalsely : Prop := headTurnsRow.holds Try.pinned (OpenSpec.ofChange headTurnsWrong)

/-- 'foremanlaw05.HeadNone': WHATEVER THE INPUT: true; the input reads as it did. -/
def headNoneSpec : ChangeSpec := { name := "headNone", fn := fun _ => fun
  | [d] => { results := [.lit (.bool true)], args := [d] }
  | _ => none }
def headNoneRow : OpenClaim := { program := "ytpohefpiidlnjaa", sum := "60856eb4858aa47eebf259b5b55c8aece00b89a9e6021a85856cd5fbd64d2133", func := "foreman/foremanlaw05.HeadNone", spec := "headNone", unfollowed := true, recurses := true, apart := false }
def HeadNoneSaid : Prop := headNoneRow.holds Try.pinned (OpenSpec.ofChange headNoneSpec)

/-- ITS FALSE NEIGHBOUR: 'it returns false'. Refute it at one input. -/
def headNoneWrong : ChangeSpec := { name := "headNone", fn := fun _ => fun
  | [d] => { results := [.lit (.bool false)], args := [d] }
  | _ => none }
def HeadNoneWrongFalsely : Prop := headNoneRow.holds Try.pinned (OpenSpec.ofChange headNoneWrong)

/-- 'foremanlaw05.HeadCrash': WHATEVER THE INPUT: true; the input reads as it did. -/
def headCrashSpec : ChangeSpec := { name := "headCrash", fn := fun _ => fun
  | [d1, d2, d3] => { results := [.lit (.bool true)], args := [d1, d2, d3] }
  | _ => none }
def headCrashRow : OpenClaim := { program := "ytpohefpiidlnjaa", sum := "60856eb4858aa47eebf259b5b55c8aece00b89a9e6021a85856cd5fbd64d2133", func := "foreman/foremanlaw05.HeadCrash", spec := "headCrash", unfollowed := true, recurses := true, apart := false }
def HeadCrashSaid : Prop := headCrashRow.holds Try.pinned (OpenSpec.ofChange headCrashSpec)

/-- ITS FALSE NEIGHBOUR: 'it returns false'. Refute it at one input. -/
def headCrashWrong : ChangeSpec := { name := "headCrash", fn := fun _ => fun
  | [d1, d2, d3] => { results := [.lit (.bool false)], args := [d1, d2, d3] }
  | _ => none }
def HeadCrashWrongFalsely : Prop := headCrashRow.holds Try.pinned (OpenSpec.ofChange headCrashWrong)

/-- 'foremanlaw05.HeadTells': WHATEVER THE INPUT: true; the input reads as it did. -/
def headTellsSpec : ChangeSpec := { name := "headTells", fn := fun _ => fun
  | [d1, d2, d3, d4] => { results := [.lit (.bool true)], args := [d1, d2, d3, d4] }
  | _ => none }
def headTellsRow : OpenClaim := { program := "ytpohefpiidlnjaa", sum := "60856eb4858aa47eebf259b5b55c8aece00b89a9e6021a85856cd5fbd64d2133", func := "foreman/foremanlaw05.HeadTells", spec := "headTells", unfollowed := true, recurses := true, apart := false }
def HeadTellsSaid : Prop := headTellsRow.holds Try.pinned (OpenSpec.ofChange headTellsSpec)

/-- ITS FALSE NEIGHBOUR: 'it returns false'. Refute it at one input. -/
def headTellsWrong : ChangeSpec := { name := "headTells", fn := fun _ => fun
  | [d1, d2, d3, d4] => { results := [.lit (.bool false)], args := [d1, d2, d3, d4] }
  | _ => none }
def HeadTellsWrongFalsely : Prop := headTellsRow.holds Try.pinned (OpenSpec.ofChange headTellsWrong)

/- THE SECOND FORM. 'bulk': how many values and letters a reading holds, each counted each time it is reached (what is shared counts as often as it is met; a slice's spare places count too). A statement '..UptoSaid' is the law's where the arguments, and the package variables that the reading takes, are together of bulk at most 1048576: NARROWER than '..Said'. Prove '..Said' where nothing that the law and all that it calls make is longer than what came in: it says more and counts as full. Else prove '..UptoSaid'. A law counts once. -/
mutual
def uptoBulk {H : Type} : DataW H → Nat
  | .lit (.string bytes) => bytes.length + 1
  | .lit _ => 1
  | .nil => 1
  | .ptr d => uptoBulk d + 1
  | .slice elems spare => uptoBulkAll elems + uptoBulkAll spare + 1
  | .agg parts => uptoBulkAll parts + 1
  | .iface _ d => uptoBulk d + 1
  | .map entries => uptoBulkEntries entries + 1
  | .held _ => 1
def uptoBulkAll {H : Type} : List (DataW H) → Nat
  | [] => 0
  | d :: r => uptoBulk d + uptoBulkAll r
def uptoBulkEntries {H : Type} : List (Lit × DataW H) → Nat
  | [] => 0
  | x :: r => uptoBulkEntry x + uptoBulkEntries r
def uptoBulkEntry {H : Type} : Lit × DataW H → Nat
  | (.string bytes, d) => bytes.length + uptoBulk d + 1
  | (_, d) => uptoBulk d + 1
 end
def uptoSmall : (H : Type) → List (DataW H) → Bool := fun _ ds => decide (uptoBulkAll ds ≤ 1048576)
def OpenSpec.upto (s : _root_.Go.ChangeSpec) : _root_.Go.OpenSpec := { _root_.Go.OpenSpec.ofChange s with cond := some uptoSmall }

/-- 'foremanlaw05.HeadBack', WHERE WHAT IT READS IS OF BULK AT MOST 1048576: true; the input reads as it did. -/
def headBackUptoRow : OpenClaim := { program := "ytpohefpiidlnjaa", sum := "60856eb4858aa47eebf259b5b55c8aece00b89a9e6021a85856cd5fbd64d2133", func := "foreman/foremanlaw05.HeadBack", spec := "headBack", unfollowed := true, recurses := true, apart := false, narrowed := true }
def HeadBackUptoSaid : Prop := headBackUptoRow.holds Try.pinned (OpenSpec.upto headBackSpec)

/-- 'foremanlaw05.HeadTorn', WHERE WHAT IT READS IS OF BULK AT MOST 1048576: true; the input reads as it did. -/
def headTornUptoRow : OpenClaim := { program := "ytpohefpiidlnjaa", sum := "60856eb4858aa47eebf259b5b55c8aece00b89a9e6021a85856cd5fbd64d2133", func := "foreman/foremanlaw05.HeadTorn", spec := "headTorn", unfollowed := true, recurses := true, apart := false, narrowed := true }
def HeadTornUptoSaid : Prop := headTornUptoRow.holds Try.pinned (OpenSpec.upto headTornSpec)

/-- 'foremanlaw05.HeadTurns', WHERE WHAT IT READS IS OF BULK AT MOST 1048576: true; the input reads as it did. -/
def headTurnsUptoRow : OpenClaim := { program := "ytpohefpiidlnjaa", sum := "60856eb4858aa47eebf259b5b55c8aece00b89a9e6021a85856cd5fbd64d2133", func := "foreman/foremanlaw05.HeadTurns", spec := "headTurns", unfollowed := true, recurses := true, apart := false, narrowed := true }
def HeadTurnsUptoSaid : Prop := headTurnsUptoRow.holds Try.pinned (OpenSpec.upto headTurnsSpec)

/-- 'foremanlaw05.HeadNone', WHERE WHAT IT READS IS OF BULK AT MOST 1048576: true; the input reads as it did. -/
def headNoneUptoRow : OpenClaim := { program := "ytpohefpiidlnjaa", sum := "60856eb4858aa47eebf259b5b55c8aece00b89a9e6021a85856cd5fbd64d2133", func := "foreman/foremanlaw05.HeadNone", spec := "headNone", unfollowed := true, recurses := true, apart := false, narrowed := true }
def HeadNoneUptoSaid : Prop := headNoneUptoRow.holds Try.pinned (OpenSpec.upto headNoneSpec)

/-- 'foremanlaw05.HeadCrash', WHERE WHAT IT READS IS OF BULK AT MOST 1048576: true; the input reads as it did. -/
def headCrashUptoRow : OpenClaim := { program := "ytpohefpiidlnjaa", sum := "60856eb4858aa47eebf259b5b55c8aece00b89a9e6021a85856cd5fbd64d2133", func := "foreman/foremanlaw05.HeadCrash", spec := "headCrash", unfollowed := true, recurses := true, apart := false, narrowed := true }
def HeadCrashUptoSaid : Prop := headCrashUptoRow.holds Try.pinned (OpenSpec.upto headCrashSpec)

/-- 'foremanlaw05.HeadTells', WHERE WHAT IT READS IS OF BULK AT MOST 1048576: true; the input reads as it did. -/
def headTellsUptoRow : OpenClaim := { program := "ytpohefpiidlnjaa", sum := "60856eb4858aa47eebf259b5b55c8aece00b89a9e6021a85856cd5fbd64d2133", func := "foreman/foremanlaw05.HeadTells", spec := "headTells", unfollowed := true, recurses := true, apart := false, narrowed := true }
def HeadTellsUptoSaid : Prop := headTellsUptoRow.holds Try.pinned (OpenSpec.upto headTellsSpec)

end Rows
end Go.Proofs.Ytpohefpiidlnjaa
