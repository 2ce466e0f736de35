/-
  The library's slices.Sort at []int: its contract's ground, laid at this program. The theorem's fields were printed by lay.py.
  Conditions: those written at each theorem.
-/
import Derived.Test.YtfkpjfohkkilmaaL12c
import Derived.Shelf.Sort.Plain
import Derived.Shelf.Slices.In.SortNone
import Derived.Sort.OwnSortedInts
namespace Go.Proofs.Ytfkpjfohkkilmaa
open Go.Shelf Go.RowKit
set_option maxRecDepth 100000

def laysSort_ren : Ren := ⟨fun x => if x = 125 then 44 else if x = 128 then 61 else if x = 129 then 62 else if x = 189 then 27 else if x = 215 then 69 else if x = 216 then 58 else if x = 257 then 43 else if x = 294 then 52 else if x = 295 then 53 else if x = 296 then 54 else if x = 297 then 55 else if x = 298 then 56 else if x = 299 then 57 else if x = 300 then 59 else if x = 301 then 60 else if x = 328 then 64 else if x = 329 then 65 else if x = 330 then 66 else if x = 331 then 67 else if x = 332 then 68 else if x = 343 then 70 else 0, fun x => if x = 0 then 0 else if x = 3 then 3 else if x = 4 then 4 else if x = 5 then 5 else if x = 9 then 9 else if x = 28 then 24 else if x = 46 then 63 else if x = 51 then 80 else if x = 53 then 82 else if x = 131 then 77 else if x = 182 then 71 else if x = 183 then 72 else if x = 218 then 84 else if x = 222 then 88 else if x = 228 then 90 else if x = 229 then 91 else 0, fun x => x⟩
theorem laysSort : Lays.n189 Try.prog laysSort_ren where
  mixed := by kernel_rfl
  f125 := by kernel_rfl
  f128 := by kernel_rfl
  f129 := by kernel_rfl
  f189 := by kernel_rfl
  f215 := by kernel_rfl
  f216 := by kernel_rfl
  f257 := by kernel_rfl
  f294 := by kernel_rfl
  f295 := by kernel_rfl
  f296 := by kernel_rfl
  f297 := by kernel_rfl
  f298 := by kernel_rfl
  f299 := by kernel_rfl
  f300 := by kernel_rfl
  f301 := by kernel_rfl
  f328 := by kernel_rfl
  f329 := by kernel_rfl
  f330 := by kernel_rfl
  f331 := by kernel_rfl
  f332 := by kernel_rfl
  f343 := by kernel_rfl
  t0 := Try.underlying0
  a0 := Try.isAgg0
  z0 := Try.sizeOf0
  v0 := Try.zeroValue0
  t3 := Try.underlying3
  a3 := Try.isAgg3
  z3 := Try.sizeOf3
  v3 := Try.zeroValue3
  t4 := Try.underlying4
  a4 := Try.isAgg4
  z4 := Try.sizeOf4
  v4 := Try.zeroValue4
  t5 := Try.underlying5
  a5 := Try.isAgg5
  z5 := Try.sizeOf5
  v5 := Try.zeroValue5
  t9 := Try.underlying9
  a9 := Try.isAgg9
  z9 := Try.sizeOf9
  v9 := Try.zeroValue9
  t28 := Try.underlying24
  a28 := Try.isAgg24
  z28 := Try.sizeOf24
  v28 := Try.zeroValue24
  t46 := Try.underlying63
  a46 := Try.isAgg63
  z46 := Try.sizeOf63
  v46 := Try.zeroValue63
  t51 := Try.underlying80
  a51 := Try.isAgg80
  z51 := Try.sizeOf80
  v51 := Try.zeroValue80
  t53 := Try.underlying82
  a53 := Try.isAgg82
  z53 := Try.sizeOf82
  v53 := Try.zeroValue82
  t131 := Try.underlying77
  a131 := Try.isAgg77
  z131 := Try.sizeOf77
  v131 := Try.zeroValue77
  t182 := Try.underlying71
  a182 := Try.isAgg71
  z182 := Try.sizeOf71
  v182 := Try.zeroValue71
  t183 := Try.underlying72
  a183 := Try.isAgg72
  z183 := Try.sizeOf72
  v183 := Try.zeroValue72
  t218 := Try.underlying84
  a218 := Try.isAgg84
  z218 := Try.sizeOf84
  v218 := Try.zeroValue84
  t222 := Try.underlying88
  a222 := Try.isAgg88
  z222 := Try.sizeOf88
  v222 := Try.zeroValue88
  t228 := Try.underlying90
  a228 := Try.isAgg90
  z228 := Try.sizeOf90
  v228 := Try.zeroValue90
  t229 := Try.underlying91
  a229 := Try.isAgg91
  z229 := Try.sizeOf91
  v229 := Try.zeroValue91

theorem ownSort (base : Nat) (l : List Int) (g c : Nat) (w : World) (ho : w.ownsRow base 3 1 (.slice (some ⟨g, 0, none⟩) l.length c) l.length (cellsI l)) (hl : l.length ≤ 1000000) :
    Calls Try.prog 27 #[.slice (some ⟨g, 0, none⟩) l.length c] w fun e w' => e = .returned (.tuple #[]) ∧ w'.ownsRow base 3 1 (.slice (some ⟨g, 0, none⟩) l.length c) l.length (cellsI (sortF l)) ∧ w.grownBy w' (some g) := by
  rcases ho.2 with ⟨hv, _⟩ | ⟨g', cap, cur, hv, hb, hg, hn, hcm, hcs, htake⟩
  · cases hv
  · cases hv
    rw [Nat.mul_one] at htake
    refine (Any.slices_Sort_int laysSort g 0 c l w (holds_of_blockI hg htake) (Array.getElem?_eq_some_iff.1 hg).1 (by omega)).mono ?_
    rintro e w' ⟨rfl, n, os, rfl⟩
    have hm := mergeSort_eq l
    rw [hm]
    refine ⟨rfl, ?_, grownBy_sortedI _⟩
    exact ownsRow_sortedI (ss := l) (ts := sortF l) (len_sortF l) hb hg hn hcm hcs
theorem sortNil (A : Option Addr) (c : Nat) (w : World) : Calls Try.prog 27 #[.slice A 0 c] w fun e w' => e = .returned (.tuple #[]) ∧ w = w' :=
  (Any.slices_Sort_int_none laysSort A c w).mono fun _ _ h => ⟨h.1, h.2.symm⟩

end Go.Proofs.Ytfkpjfohkkilmaa
