/-
  The library's slices.Delete at []int: its contract, laid at this program.
  Conditions: those written at each theorem.
-/
import Derived.Test.YtfkpjfohkkilmaaP12e
import Derived.Shelf.Slices.Cells
namespace Go.Proofs.Ytfkpjfohkkilmaa
open Go.Shelf Go.RowKit
set_option maxRecDepth 100000

def renDel : Ren := ⟨fun x => if x = 23 then 40 else 0, fun x => if x = 3 then 3 else if x = 4 then 4 else if x = 22 then 24 else 0, fun x => x⟩
theorem laysDel : Lays2.n23 Try.prog renDel where
  mixed := by kernel_rfl
  f23 := by kernel_rfl
  t0 := Try.underlying0
  a0 := Try.isAgg0
  z0 := Try.sizeOf0
  v0 := Try.zeroValue0
  t3 := Try.underlying3
  a3 := Try.isAgg3
  z3 := Try.sizeOf3
  v3 := Try.zeroValue3
  t4 := Try.underlying4
  a4 := Try.isAgg4
  z4 := Try.sizeOf4
  v4 := Try.zeroValue4
  t22 := Try.underlying24
  a22 := Try.isAgg24
  z22 := Try.sizeOf24
  v22 := Try.zeroValue24
  i3 := by kernel_rfl

theorem delete_cells (b off n c i j : Nat) (zs : List Int) (w : World) (hz : n ≤ zs.length) (hcap : n ≤ c) (hm : c ≤ 9223372036854775807) (hij : i ≤ j) (hj : j ≤ n) (hc : ∀ j, j < zs.length → w.cell? ⟨b, off + j, none⟩ = some (.int .i64 (zs.getD j 0))) (hf : ∀ j, j < n → w.frozen? ⟨b, off + j, none⟩ = false) :
    Calls Try.prog 40 #[.slice (some ⟨b, off, none⟩) n c, .int .i64 i, .int .i64 j] w fun e w' => e = .returned (.slice (some ⟨b, off, none⟩) (n - (j - i)) c) ∧ ∃ q, w' = (w.drewN q).setCells b off (((zs.take n).take i ++ (zs.take n).drop j ++ List.replicate (j - i) 0).map (Value.int .i64)) :=
  Any.slices_Delete_int_cells laysDel b off n c i j zs w hz hcap hm hij hj hc hf

end Go.Proofs.Ytfkpjfohkkilmaa
