/-
  The library's slices.DeleteFunc at []int: its contract's ground, laid at this program.
  Conditions: those written at each theorem.
-/
import Derived.Test.YtnhcghlhicignaaP12k
import Derived.Shelf.SlicesE.DeleteFunc
namespace Go.Proofs.Ytnhcghlhicignaa
open Go.Shelf Go.RowKit
set_option maxRecDepth 100000

def renDelF : Ren := ⟨fun x => if x = 6 then 75 else if x = 10 then 52 else 0, fun x => if x = 3 then 3 else if x = 4 then 4 else if x = 22 then 22 else if x = 23 then 3 else if x = 25 then 50 else 0, fun x => x⟩
theorem laysDelF : SlLaysH.n10 Try.prog renDelF where
  mixed := by kernel_rfl
  f6 := ⟨Try.f75.name, by kernel_rfl, by kernel_rfl⟩
  f10 := ⟨Try.f52.name, by kernel_rfl, by kernel_rfl⟩
  t0 := Try.underlying0
  a0 := Try.isAgg0
  z0 := Try.sizeOf0
  v0 := Try.zeroValue0
  t3 := Try.underlying3
  a3 := Try.isAgg3
  z3 := Try.sizeOf3
  v3 := Try.zeroValue3
  t4 := Try.underlying4
  a4 := Try.isAgg4
  z4 := Try.sizeOf4
  v4 := Try.zeroValue4
  t22 := Try.underlying22
  a22 := Try.isAgg22
  z22 := Try.sizeOf22
  v22 := Try.zeroValue22
  a23 := Try.isAgg3
  z23 := Try.sizeOf3
  t25 := Try.underlying50
  a25 := Try.isAgg50
  z25 := Try.sizeOf50
  v25 := Try.zeroValue50

end Go.Proofs.Ytnhcghlhicignaa
