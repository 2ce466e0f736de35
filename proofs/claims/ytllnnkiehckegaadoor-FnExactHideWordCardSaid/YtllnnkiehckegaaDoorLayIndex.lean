/-
  The library's strings.Index at one byte: its contract's ground, laid at this program. The fields were printed by lay.py.
  Conditions: those written at each theorem.
-/
import Derived.Test.YtllnnkiehckegaaDoorStr
import Derived.Shelf.Strings.Search3
namespace Go.Proofs.YtllnnkiehckegaaDoor
open Go.Shelf Go.RowKit
set_option maxRecDepth 100000

def laysIndex_ren : Ren := ⟨fun x => if x = 143 then 80 else if x = 217 then 95 else if x = 219 then 89 else if x = 224 then 93 else if x = 225 then 94 else if x = 266 then 97 else if x = 267 then 96 else if x = 314 then 98 else 0, fun x => if x = 3 then 3 else if x = 4 then 4 else if x = 5 then 5 else if x = 9 then 9 else if x = 46 then 71 else if x = 51 then 89 else if x = 146 then 113 else 0, fun x => if x = 1 then 2 else 0⟩
theorem laysIndex : Lays.n143 Tryd.prog laysIndex_ren where
  mixed := by kernel_rfl
  f143 := by kernel_rfl
  f217 := by kernel_rfl
  f219 := by kernel_rfl
  f224 := by kernel_rfl
  f225 := by kernel_rfl
  f266 := by kernel_rfl
  f267 := by kernel_rfl
  f314 := by kernel_rfl
  t3 := Tryd.underlying3
  a3 := Tryd.isAgg3
  z3 := Tryd.sizeOf3
  v3 := Tryd.zeroValue3
  t4 := Tryd.underlying4
  a4 := Tryd.isAgg4
  z4 := Tryd.sizeOf4
  v4 := Tryd.zeroValue4
  t5 := Tryd.underlying5
  a5 := Tryd.isAgg5
  z5 := Tryd.sizeOf5
  v5 := Tryd.zeroValue5
  t9 := Tryd.underlying9
  a9 := Tryd.isAgg9
  z9 := Tryd.sizeOf9
  v9 := Tryd.zeroValue9
  t46 := Tryd.underlying71
  a46 := Tryd.isAgg71
  z46 := Tryd.sizeOf71
  v46 := Tryd.zeroValue71
  t51 := Tryd.underlying89
  a51 := Tryd.isAgg89
  z51 := Tryd.sizeOf89
  v51 := Tryd.zeroValue89
  t146 := Tryd.underlying113
  a146 := Tryd.isAgg113
  z146 := Tryd.sizeOf113
  v146 := Tryd.zeroValue113
  g1 := by kernel_rfl

theorem index_any (s : ByteArray) (c : UInt8) (w : World) : Calls Tryd.prog 80 #[.string s, .string ⟨#[c]⟩] w fun e w' => e = .returned (.int .i64 (Lib.indexByte s.data.toList c)) ∧ w' = w :=
  Any.strings_Index_one laysIndex s c w

end Go.Proofs.YtllnnkiehckegaaDoor
