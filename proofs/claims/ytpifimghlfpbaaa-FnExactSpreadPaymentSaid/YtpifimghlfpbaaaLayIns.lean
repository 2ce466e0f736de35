/-
  The library's insertion under a function of the caller's, at numbers: its contract's ground, laid at this program. The fields were printed by lay.py.
  Conditions: those written at each theorem.
-/
import Derived.Test.YtpifimghlfpbaaaTyInt
import Derived.Shelf.SlSortCmp.Insertion1
namespace Go.Proofs.Ytpifimghlfpbaaa
open Go.Shelf Go.RowKit
set_option maxRecDepth 100000

def laysIns_ren : Ren := ⟨fun x => if x = 20 then 36 else 0, fun x => if x = 0 then 0 else if x = 3 then 3 else if x = 4 then 4 else if x = 22 then 35 else if x = 24 then 3 else if x = 25 then 41 else 0, fun x => x⟩
theorem laysIns : SlLaysF.n20 Try.prog laysIns_ren where
  mixed := by kernel_rfl
  f20 := ⟨Try.f36.name, by kernel_rfl, by kernel_rfl⟩
  t0 := Try.underlying0
  a0 := Try.isAgg0
  z0 := Try.sizeOf0
  v0 := Try.zeroValue0
  t3 := Try.underlying3
  a3 := Try.isAgg3
  z3 := Try.sizeOf3
  v3 := Try.zeroValue3
  t4 := Try.underlying4
  a4 := Try.isAgg4
  z4 := Try.sizeOf4
  v4 := Try.zeroValue4
  t22 := Try.underlying35
  a22 := Try.isAgg35
  z22 := Try.sizeOf35
  v22 := Try.zeroValue35
  a24 := Try.isAgg3
  z24 := Try.sizeOf3
  t25 := Try.underlying41
  a25 := Try.isAgg41
  z25 := Try.sizeOf41
  v25 := Try.zeroValue41

end Go.Proofs.Ytpifimghlfpbaaa
