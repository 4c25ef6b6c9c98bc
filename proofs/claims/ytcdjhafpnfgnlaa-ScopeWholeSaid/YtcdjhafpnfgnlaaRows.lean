/-
  NARROWER THAN 'FOR EVERY INPUT', by the rows' own cells (each row's printed sentence says how): ScopeTells: loops.
  DERIVED. THE GIVEN ROWS OF THIS SEAT. 5 by the template 'for every input the law returns true; each argument reads behind the call as it read before'; 0 by the template 'total and deterministic' (their statements: YtcdjhafpnfgnlaaTotals.lean).
  GIVEN WITH THE SEED: the statements are not yours to turn. If you find one false, say at which input.
  Laid BY PROGRAM, IN A SANDBOX (cutbox-rows.mjs): the forced cells as the released guide's own fill.sh prints them over the translation e5db34604ce175b2… (all of the seat's roots in one cut). By AI agents, Wed Nov 11 2026. No macro, syntax, notation, axiom, sorry.
-/
import Derived.Test.YtcdjhafpnfgnlaaChecked
import GoSem.Claim
import GoSem.ClaimJoined
import GoSem.ClaimMapViews
import Derived.JoinedTies
import Derived.KernelRfl
namespace Go.Proofs.Ytcdjhafpnfgnlaa
/- THE CELL 'sum', in the pinned program and in every row, IS THE sha256 OF THE DUMP (.gsa) THAT YtcdjhafpnfgnlaaProg.lean LOADS. Nothing in Lean hashes anything: it is a label: what it is worth is what the hold of that sum in a sandbox is worth. -/
noncomputable def Try.pinned : Pinned := { name := "ytcdjhafpnfgnlaa", sum := "e5db34604ce175b21209c749badf814f5eb23a1769f80c42f785f87975a0b907", checked := Try.checked }
namespace Rows
def none {H : Type} : Left H := { results := [], args := [] }

/-- 'foremanlaw16.ScopeWhole': WHATEVER THE INPUT: true; the input reads as it did. -/
def scopeWholeSpec : ChangeSpec := { name := "scopeWhole", fn := fun _ => fun
  | [d1, d2] => { results := [.lit (.bool true)], args := [d1, d2] }
  | _ => none }
def scopeWholeRow : OpenClaim := { program := "ytcdjhafpnfgnlaa", sum := "e5db34604ce175b21209c749badf814f5eb23a1769f80c42f785f87975a0b907", func := "foreman/foremanlaw16.ScopeWhole", spec := "scopeWhole", unfollowed := true, recurses := true, apart := false }
def ScopeWholeSaid : Prop := scopeWholeRow.holds Try.pinned (OpenSpec.ofChange scopeWholeSpec)

/-- ITS FALSE NEIGHBOUR: 'it returns false'. Refute it at one input. -/
def scopeWholeWrong : ChangeSpec := { name := "scopeWhole", fn := fun _ => fun
  | [d1, d2] => { results := [.lit (.bool false)], args := [d1, d2] }
  | _ => none }
def ScopeWholeWrongFalsely : Prop := scopeWholeRow.holds Try.pinned (OpenSpec.ofChange scopeWholeWrong)

/-- 'foremanlaw16.ScopeGrows': WHATEVER THE INPUT: true; the input reads as it did. -/
def scopeGrowsSpec : ChangeSpec := { name := "scopeGrows", fn := fun _ => fun
  | [d1, d2] => { results := [.lit (.bool true)], args := [d1, d2] }
  | _ => none }
def scopeGrowsRow : OpenClaim := { program := "ytcdjhafpnfgnlaa", sum := "e5db34604ce175b21209c749badf814f5eb23a1769f80c42f785f87975a0b907", func := "foreman/foremanlaw16.ScopeGrows", spec := "scopeGrows", unfollowed := true, recurses := true, apart := false }
def ScopeGrowsSaid : Prop := scopeGrowsRow.holds Try.pinned (OpenSpec.ofChange scopeGrowsSpec)

/-- ITS FALSE NEIGHBOUR: 'it returns false'. Refute it at one input. -/
def scopeGrowsWrong : ChangeSpec := { name := "scopeGrows", fn := fun _ => fun
  | [d1, d2] => { results := [.lit (.bool false)], args := [d1, d2] }
  | _ => none }
def ScopeGrowsWrongFalsely : Prop := scopeGrowsRow.holds Try.pinned (OpenSpec.ofChange scopeGrowsWrong)

/-- 'foremanlaw16.ScopeRight': WHATEVER THE INPUT: true; the input reads as it did. -/
def scopeRightSpec : ChangeSpec := { name := "scopeRight", fn := fun _ => fun
  | [d1, d2, d3, d4] => { results := [.lit (.bool true)], args := [d1, d2, d3, d4] }
  | _ => none }
def scopeRightRow : OpenClaim := { program := "ytcdjhafpnfgnlaa", sum := "e5db34604ce175b21209c749badf814f5eb23a1769f80c42f785f87975a0b907", func := "foreman/foremanlaw16.ScopeRight", spec := "scopeRight", unfollowed := true, recurses := true, apart := false }
def ScopeRightSaid : Prop := scopeRightRow.holds Try.pinned (OpenSpec.ofChange scopeRightSpec)

/-- ITS FALSE NEIGHBOUR: 'it returns false'. Refute it at one input. -/
def scopeRightWrong : ChangeSpec := { name := "scopeRight", fn := fun _ => fun
  | [d1, d2, d3, d4] => { results := [.lit (.bool false)], args := [d1, d2, d3, d4] }
  | _ => none }
def ScopeRightWrongFalsely : Prop := scopeRightRow.holds Try.pinned (OpenSpec.ofChange scopeRightWrong)

/-- 'foremanlaw16.ScopeTells': WHATEVER THE INPUT: true; the input reads as it did. -/
def scopeTellsSpec : ChangeSpec := { name := "scopeTells", fn := fun _ => fun
  | [d1, d2, d3, d4] => { results := [.lit (.bool true)], args := [d1, d2, d3, d4] }
  | _ => none }
def scopeTellsRow : OpenClaim := { program := "ytcdjhafpnfgnlaa", sum := "e5db34604ce175b21209c749badf814f5eb23a1769f80c42f785f87975a0b907", func := "foreman/foremanlaw16.ScopeTells", spec := "scopeTells", unfollowed := true, recurses := true, loops := true, apart := false }
def ScopeTellsSaid : Prop := scopeTellsRow.holds Try.pinned (OpenSpec.ofChange scopeTellsSpec)

/-- ITS FALSE NEIGHBOUR: 'it returns false'. Refute it at one input. -/
def scopeTellsWrong : ChangeSpec := { name := "scopeTells", fn := fun _ => fun
  | [d1, d2, d3, d4] => { results := [.lit (.bool false)], args := [d1, d2, d3, d4] }
  | _ => none }
def ScopeTellsWrongFalsely : Prop := scopeTellsRow.holds Try.pinned (OpenSpec.ofChange scopeTellsWrong)

/-- 'foremanlaw16.ScopeChains': WHATEVER THE INPUT: true; the input reads as it did. -/
def scopeChainsSpec : ChangeSpec := { name := "scopeChains", fn := fun _ => fun
  | [d1, d2, d3] => { results := [.lit (.bool true)], args := [d1, d2, d3] }
  | _ => none }
def scopeChainsRow : OpenClaim := { program := "ytcdjhafpnfgnlaa", sum := "e5db34604ce175b21209c749badf814f5eb23a1769f80c42f785f87975a0b907", func := "foreman/foremanlaw16.ScopeChains", spec := "scopeChains", unfollowed := true, recurses := true, apart := false }
def ScopeChainsSaid : Prop := scopeChainsRow.holds Try.pinned (OpenSpec.ofChange scopeChainsSpec)

/-- ITS FALSE NEIGHBOUR: 'it returns false'. Refute it at one input. -/
def scopeChainsWrong : ChangeSpec := { name := "scopeChains", fn := fun _ => fun
  | [d1, d2, d3] => { results := [.lit (.bool false)], args := [d1, d2, d3] }
  | _ => none }
def ScopeChainsWrongFalsely : Prop := scopeChainsRow.holds Try.pinned (OpenSpec.ofChange scopeChainsWrong)

/- THE SECOND FORM. 'bulk': how many values and letters a reading holds, each counted each time it is reached (what is shared counts as often as it is met; a slice's spare places count too). A statement '..UptoSaid' is the law's where the arguments, and the package variables that the reading takes, are together of bulk at most 1048576: NARROWER than '..Said'. Prove '..Said' where nothing that the law and all that it calls make is longer than what came in: it says more and counts as full. Else prove '..UptoSaid'. A law counts once. -/
mutual
def uptoBulk {H : Type} : DataW H → Nat
  | .lit (.string bytes) => bytes.length + 1
  | .lit _ => 1
  | .nil => 1
  | .ptr d => uptoBulk d + 1
  | .slice elems spare => uptoBulkAll elems + uptoBulkAll spare + 1
  | .agg parts => uptoBulkAll parts + 1
  | .iface _ d => uptoBulk d + 1
  | .map entries => uptoBulkEntries entries + 1
  | .held _ => 1
def uptoBulkAll {H : Type} : List (DataW H) → Nat
  | [] => 0
  | d :: r => uptoBulk d + uptoBulkAll r
def uptoBulkEntries {H : Type} : List (Lit × DataW H) → Nat
  | [] => 0
  | x :: r => uptoBulkEntry x + uptoBulkEntries r
def uptoBulkEntry {H : Type} : Lit × DataW H → Nat
  | (.string bytes, d) => bytes.length + uptoBulk d + 1
  | (_, d) => uptoBulk d + 1
 end
def uptoSmall : (H : Type) → List (DataW H) → Bool := fun _ ds => decide (uptoBulkAll ds ≤ 1048576)
def OpenSpec.upto (s : _root_.Go.ChangeSpec) : _root_.Go.OpenSpec := { _root_.Go.OpenSpec.ofChange s with cond := some uptoSmall }

/-- 'foremanlaw16.ScopeWhole', WHERE WHAT IT READS IS OF BULK AT MOST 1048576: true; the input reads as it did. -/
def scopeWholeUptoRow : OpenClaim := { program := "ytcdjhafpnfgnlaa", sum := "e5db34604ce175b21209c749badf814f5eb23a1769f80c42f785f87975a0b907", func := "foreman/foremanlaw16.ScopeWhole", spec := "scopeWhole", unfollowed := true, recurses := true, apart := false, narrowed := true }
def ScopeWholeUptoSaid : Prop := scopeWholeUptoRow.holds Try.pinned (OpenSpec.upto scopeWholeSpec)

/-- 'foremanlaw16.ScopeGrows', WHERE WHAT IT READS IS OF BULK AT MOST 1048576: true; the input reads as it did. -/
def scopeGrowsUptoRow : OpenClaim := { program := "ytcdjhafpnfgnlaa", sum := "e5db34604ce175b21209c749badf814f5eb23a1769f80c42f785f87975a0b907", func := "foreman/foremanlaw16.ScopeGrows", spec := "scopeGrows", unfollowed := true, recurses := true, apart := false, narrowed := true }
def ScopeGrowsUptoSaid : Prop := scopeGrowsUptoRow.holds Try.pinned (OpenSpec.upto scopeGrowsSpec)

/-- 'foremanlaw16.ScopeRight', WHERE WHAT IT READS IS OF BULK AT MOST 1048576: true; the input reads as it did. -/
def scopeRightUptoRow : OpenClaim := { program := "ytcdjhafpnfgnlaa", sum := "e5db34604ce175b21209c749badf814f5eb23a1769f80c42f785f87975a0b907", func := "foreman/foremanlaw16.ScopeRight", spec := "scopeRight", unfollowed := true, recurses := true, apart := false, narrowed := true }
def ScopeRightUptoSaid : Prop := scopeRightUptoRow.holds Try.pinned (OpenSpec.upto scopeRightSpec)

/-- 'foremanlaw16.ScopeTells', WHERE WHAT IT READS IS OF BULK AT MOST 1048576: true; the input reads as it did. -/
def scopeTellsUptoRow : OpenClaim := { program := "ytcdjhafpnfgnlaa", sum := "e5db34604ce175b21209c749badf814f5eb23a1769f80c42f785f87975a0b907", func := "foreman/foremanlaw16.ScopeTells", spec := "scopeTells", unfollowed := true, recurses := true, loops := true, apart := false, narrowed := true }
def ScopeTellsUptoSaid : Prop := scopeTellsUptoRow.holds Try.pinned (OpenSpec.upto scopeTellsSpec)

/-- 'foremanlaw16.ScopeChains', WHERE WHAT IT READS IS OF BULK AT MOST 1048576: true; the input reads as it did. -/
def scopeChainsUptoRow : OpenClaim := { program := "ytcdjhafpnfgnlaa", sum := "e5db34604ce175b21209c749badf814f5eb23a1769f80c42f785f87975a0b907", func := "foreman/foremanlaw16.ScopeChains", spec := "scopeChains", unfollowed := true, recurses := true, apart := false, narrowed := true }
def ScopeChainsUptoSaid : Prop := scopeChainsUptoRow.holds Try.pinned (OpenSpec.upto scopeChainsSpec)

end Rows
end Go.Proofs.Ytcdjhafpnfgnlaa
