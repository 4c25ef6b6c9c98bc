/-
  slices.BinarySearch, Clone, Delete, Insert at []int: the shelf's structures, filled for this program.
-/
import Derived.Test.YtclbpohhmaojcaaProg
import Derived.Shelf.Slices.SearchI
import Derived.Shelf.Slices.Clone
import Derived.Shelf.Slices.Cells
import Derived.Shelf.Slices.Empties
import Derived.Shelf.Spec.SlicesInsertGrow
namespace Go.Proofs.Ytclbpohhmaojcaa.GrL
open Go.Proofs Go.Proofs.Ytclbpohhmaojcaa Go.Shelf

def ren : Go.Shelf.Ren := ⟨fun | 15 => 39 | 21 => 48 | 23 => 51 | 25 => 42 | 27 => 52 | 28 => 53 | 31 => 49 | 32 => 50 | 35 => 55 | 37 => 54 | 39 => 56 | n => n, fun | 0 => 0 | 3 => 3 | 4 => 4 | 22 => 27 | 40 => 80 | n => n, fun n => n⟩
theorem lays25 : Lays2.n25 Try.prog ren where
  mixed := by kernel_rfl
  f25 := Try.func42.trans (congrArg some (by kernel_rfl))
  f31 := Try.func49.trans (congrArg some (by kernel_rfl))
  f32 := Try.func50.trans (congrArg some (by kernel_rfl))
  f37 := Try.func54.trans (congrArg some (by kernel_rfl))
  t0 := Try.underlying0
  a0 := Try.isAgg0
  z0 := Try.sizeOf0
  v0 := Try.zeroValue0
  t3 := Try.underlying3
  a3 := Try.isAgg3
  z3 := Try.sizeOf3
  v3 := Try.zeroValue3
  t4 := Try.underlying4
  a4 := Try.isAgg4
  z4 := Try.sizeOf4
  v4 := Try.zeroValue4
  t22 := Try.underlying27
  a22 := Try.isAgg27
  z22 := Try.sizeOf27
  v22 := Try.zeroValue27
  t40 := Try.underlying80
  a40 := Try.isAgg80
  z40 := Try.sizeOf80
  v40 := Try.zeroValue80
theorem lays15 : Lays2.n15 Try.prog ren where
  mixed := by kernel_rfl
  f15 := Try.func39.trans (congrArg some (by kernel_rfl))
  t3 := Try.underlying3
  a3 := Try.isAgg3
  z3 := Try.sizeOf3
  v3 := Try.zeroValue3
  t4 := Try.underlying4
  a4 := Try.isAgg4
  z4 := Try.sizeOf4
  v4 := Try.zeroValue4
  t22 := Try.underlying27
  a22 := Try.isAgg27
  z22 := Try.sizeOf27
  v22 := Try.zeroValue27
  i3 := by kernel_rfl
theorem lays23 : Lays2.n23 Try.prog ren where
  mixed := by kernel_rfl
  f23 := Try.func51.trans (congrArg some (by kernel_rfl))
  t0 := Try.underlying0
  a0 := Try.isAgg0
  z0 := Try.sizeOf0
  v0 := Try.zeroValue0
  t3 := Try.underlying3
  a3 := Try.isAgg3
  z3 := Try.sizeOf3
  v3 := Try.zeroValue3
  t4 := Try.underlying4
  a4 := Try.isAgg4
  z4 := Try.sizeOf4
  v4 := Try.zeroValue4
  t22 := Try.underlying27
  a22 := Try.isAgg27
  z22 := Try.sizeOf27
  v22 := Try.zeroValue27
  i3 := by kernel_rfl
theorem lays21 : Lays2.n21 Try.prog ren where
  mixed := by kernel_rfl
  f21 := Try.func48.trans (congrArg some (by kernel_rfl))
  f27 := Try.func52.trans (congrArg some (by kernel_rfl))
  f28 := Try.func53.trans (congrArg some (by kernel_rfl))
  f35 := Try.func55.trans (congrArg some (by kernel_rfl))
  f39 := Try.func56.trans (congrArg some (by kernel_rfl))
  t0 := Try.underlying0
  a0 := Try.isAgg0
  z0 := Try.sizeOf0
  v0 := Try.zeroValue0
  t3 := Try.underlying3
  a3 := Try.isAgg3
  z3 := Try.sizeOf3
  v3 := Try.zeroValue3
  t4 := Try.underlying4
  a4 := Try.isAgg4
  z4 := Try.sizeOf4
  v4 := Try.zeroValue4
  t22 := Try.underlying27
  a22 := Try.isAgg27
  z22 := Try.sizeOf27
  v22 := Try.zeroValue27
  i3 := by kernel_rfl
end Go.Proofs.Ytclbpohhmaojcaa.GrL
