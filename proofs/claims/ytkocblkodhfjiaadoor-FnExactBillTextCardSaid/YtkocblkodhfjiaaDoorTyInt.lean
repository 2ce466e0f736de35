/-
  The walks of the law's own helpers on lists of numbers: copy, compare, mark, look.
  Conditions: those written at each theorem.
-/
import Derived.Test.YtkocblkodhfjiaaDoorNums
import Derived.Test.YtkocblkodhfjiaaDoorOpen
import Derived.OwnWalk
namespace Go.Proofs.YtkocblkodhfjiaaDoor
open Go.RowKit
set_option maxRecDepth 100000

def cellsI (l : List Int) : List Value := l.map (Value.int .i64)
theorem len_cellsI (l : List Int) : (cellsI l).length = l.length := by simp [cellsI]
theorem cellsI_append (l m : List Int) : cellsI (l ++ m) = cellsI l ++ cellsI m := by simp [cellsI]
theorem cellsI_at {w : World} {l : List Int} {b o k : Nat} (hc : ∀ j u, (cellsI l)[j]? = some u → w.cell? ⟨b, o + j, none⟩ = some u) (h : k < l.length) :
    w.cell? ⟨b, o + k, none⟩ = some (.int .i64 l[k]) := hc k _ (by simp [cellsI, h])

theorem flat_cellsI (l : List Int) : l.flatMap (fun y : Int => [Value.int .i64 y]) = cellsI l := by
  unfold cellsI; induction l with
  | nil => rfl
  | cons a l ih => rw [List.flatMap_cons, ih]; rfl

theorem infoI : (Tryd.prog.info? 3).map (fun i => (i.zero, i.size, i.bytes)) = some (some (.int .i64 0), 1, 8) := by kernel_rfl




end Go.Proofs.YtkocblkodhfjiaaDoor
