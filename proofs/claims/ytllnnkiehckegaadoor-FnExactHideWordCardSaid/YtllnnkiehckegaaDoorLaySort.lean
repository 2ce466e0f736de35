/-
  The library's slices.SortFunc at spans: its contract's ground, laid at this program. The fields were printed by lay.py.
  Conditions: those written at each theorem.
-/
import Derived.Test.YtllnnkiehckegaaDoorTySpan
import Derived.Shelf.SlSortCmp.NoneTotal
namespace Go.Proofs.YtllnnkiehckegaaDoor
open Go.Shelf Go.RowKit
set_option maxRecDepth 100000

def laysSort_ren : Ren := ⟨fun x => if x = 6 then 43 else if x = 14 then 54 else if x = 15 then 55 else if x = 20 then 65 else if x = 21 then 66 else if x = 22 then 67 else if x = 23 then 68 else if x = 24 then 69 else if x = 25 then 70 else if x = 26 then 71 else if x = 27 then 72 else if x = 28 then 73 else if x = 29 then 74 else if x = 46 then 81 else if x = 47 then 82 else if x = 48 then 83 else if x = 49 then 84 else if x = 50 then 85 else if x = 57 then 90 else 0, fun x => if x = 0 then 0 else if x = 3 then 3 else if x = 4 then 4 else if x = 5 then 5 else if x = 9 then 9 else if x = 22 then 24 else if x = 24 then 45 else if x = 25 then 60 else if x = 39 then 71 else if x = 45 then 81 else if x = 46 then 82 else if x = 50 then 86 else if x = 53 then 89 else if x = 55 then 91 else if x = 66 then 96 else if x = 70 then 100 else if x = 76 then 103 else if x = 77 then 104 else 0, fun x => x⟩
theorem laysSort : SlLaysF0.n6 Tryd.prog laysSort_ren where
  mixed := by kernel_rfl
  f6 := ⟨Tryd.f43.name, by kernel_rfl, by kernel_rfl⟩
  f14 := ⟨Tryd.f54.name, by kernel_rfl, by kernel_rfl⟩
  f15 := by kernel_rfl
  f20 := ⟨Tryd.f65.name, by kernel_rfl, by kernel_rfl⟩
  f21 := ⟨Tryd.f66.name, by kernel_rfl, by kernel_rfl⟩
  f22 := ⟨Tryd.f67.name, by kernel_rfl, by kernel_rfl⟩
  f23 := ⟨Tryd.f68.name, by kernel_rfl, by kernel_rfl⟩
  f24 := ⟨Tryd.f69.name, by kernel_rfl, by kernel_rfl⟩
  f25 := ⟨Tryd.f70.name, by kernel_rfl, by kernel_rfl⟩
  f26 := ⟨Tryd.f71.name, by kernel_rfl, by kernel_rfl⟩
  f27 := ⟨Tryd.f72.name, by kernel_rfl, by kernel_rfl⟩
  f28 := by kernel_rfl
  f29 := by kernel_rfl
  f46 := ⟨Tryd.f81.name, by kernel_rfl, by kernel_rfl⟩
  f47 := by kernel_rfl
  f48 := by kernel_rfl
  f49 := ⟨Tryd.f84.name, by kernel_rfl, by kernel_rfl⟩
  f50 := ⟨Tryd.f85.name, by kernel_rfl, by kernel_rfl⟩
  f57 := ⟨Tryd.f90.name, by kernel_rfl, by kernel_rfl⟩
  t0 := Tryd.underlying0
  a0 := Tryd.isAgg0
  z0 := Tryd.sizeOf0
  v0 := Tryd.zeroValue0
  t3 := Tryd.underlying3
  a3 := Tryd.isAgg3
  z3 := Tryd.sizeOf3
  v3 := Tryd.zeroValue3
  t4 := Tryd.underlying4
  a4 := Tryd.isAgg4
  z4 := Tryd.sizeOf4
  v4 := Tryd.zeroValue4
  t5 := Tryd.underlying5
  a5 := Tryd.isAgg5
  z5 := Tryd.sizeOf5
  v5 := Tryd.zeroValue5
  t9 := Tryd.underlying9
  a9 := Tryd.isAgg9
  z9 := Tryd.sizeOf9
  v9 := Tryd.zeroValue9
  t22 := Tryd.underlying24
  a22 := Tryd.isAgg24
  z22 := Tryd.sizeOf24
  v22 := Tryd.zeroValue24
  t25 := Tryd.underlying60
  a25 := Tryd.isAgg60
  z25 := Tryd.sizeOf60
  v25 := Tryd.zeroValue60
  t39 := Tryd.underlying71
  a39 := Tryd.isAgg71
  z39 := Tryd.sizeOf71
  v39 := Tryd.zeroValue71
  t45 := Tryd.underlying81
  a45 := Tryd.isAgg81
  z45 := Tryd.sizeOf81
  v45 := Tryd.zeroValue81
  t46 := Tryd.underlying82
  a46 := Tryd.isAgg82
  z46 := Tryd.sizeOf82
  v46 := Tryd.zeroValue82
  t50 := Tryd.underlying86
  a50 := Tryd.isAgg86
  z50 := Tryd.sizeOf86
  v50 := Tryd.zeroValue86
  t53 := Tryd.underlying89
  a53 := Tryd.isAgg89
  z53 := Tryd.sizeOf89
  v53 := Tryd.zeroValue89
  t55 := Tryd.underlying91
  a55 := Tryd.isAgg91
  z55 := Tryd.sizeOf91
  v55 := Tryd.zeroValue91
  t66 := Tryd.underlying96
  a66 := Tryd.isAgg96
  z66 := Tryd.sizeOf96
  v66 := Tryd.zeroValue96
  t70 := Tryd.underlying100
  a70 := Tryd.isAgg100
  z70 := Tryd.sizeOf100
  v70 := Tryd.zeroValue100
  t76 := Tryd.underlying103
  a76 := Tryd.isAgg103
  z76 := Tryd.sizeOf103
  v76 := Tryd.zeroValue103
  t77 := Tryd.underlying104
  a77 := Tryd.isAgg104
  z77 := Tryd.sizeOf104
  v77 := Tryd.zeroValue104

end Go.Proofs.YtllnnkiehckegaaDoor
