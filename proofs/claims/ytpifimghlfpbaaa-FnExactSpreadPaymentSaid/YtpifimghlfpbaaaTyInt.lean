/-
  The walks of the law's own helpers on lists of numbers: copy, compare, mark, look.
  Conditions: those written at each theorem.
-/
import Derived.Test.YtpifimghlfpbaaaNums
import Derived.Test.YtpifimghlfpbaaaOpen
import Derived.OwnWalk
namespace Go.Proofs.Ytpifimghlfpbaaa
open Go.RowKit
set_option maxRecDepth 100000

def cellsI (l : List Int) : List Value := l.map (Value.int .i64)
theorem len_cellsI (l : List Int) : (cellsI l).length = l.length := by simp [cellsI]
theorem cellsI_append (l m : List Int) : cellsI (l ++ m) = cellsI l ++ cellsI m := by simp [cellsI]
theorem cellsI_at {w : World} {l : List Int} {b o k : Nat} (hc : ∀ j u, (cellsI l)[j]? = some u → w.cell? ⟨b, o + j, none⟩ = some u) (h : k < l.length) :
    w.cell? ⟨b, o + k, none⟩ = some (.int .i64 l[k]) := hc k _ (by simp [cellsI, h])

theorem flat_cellsI (l : List Int) : l.flatMap (fun y : Int => [Value.int .i64 y]) = cellsI l := by
  unfold cellsI; induction l with
  | nil => rfl
  | cons a l ih => rw [List.flatMap_cons, ih]; rfl

theorem infoI : (Try.prog.info? 3).map (fun i => (i.zero, i.size, i.bytes)) = some (some (.int .i64 0), 1, 8) := by kernel_rfl




section
variable {H : Type} {enc : TypeId × Value → H} {W : World} {base : Nat} {v : Value} {d : DataW H} {p : List MemPlace} {r : Reach}
open Go.ChangeShapes Go.WideShapes Go.ChangeAt Go.RowKit Go.Deep
/-- what came in as a list of numbers -/
def InI (W : World) (v : Value) : Prop := ∃ (A : Option Addr) (k : Nat) (l : List Int), v = .slice A l.length k ∧ Rd W 1 A l.length (cellsI l) ∧ (∀ y ∈ l, I64 y) ∧ l.length ≤ 9223372036854775807
theorem in_ints (hv : Value.okWide Try.prog W r base 35 v) (h : DataW.Trod enc Try.prog W 0 (fun _ => true) true 35 v d p) : ∃ x, InI W x ∧ v = x := by
  obtain ⟨a, n, c, rfl⟩ := okWide_slice Try.underlying35 hv
  obtain ⟨fuel, hf⟩ := h
  obtain ⟨A, k, l, hv2, hr, hq, hm⟩ := slice_of (sz := 1) (c := fun y : Int => [Value.int .i64 y]) (Q := fun y : Int => I64 y) Try.underlying35 (by kernel_rfl) (by omega) (fun _ => rfl) (fun _ _ _ h => by
    obtain ⟨a, e0, _, w0⟩ := DataW.trod_int Try.underlying3 h
    exact ⟨a, e0, I64.of_wf w0⟩) hf
  refine ⟨_, ⟨A, k, l, hv2, ?_, hq, hm⟩, rfl⟩
  rwa [flat_cellsI] at hr
end
end Go.Proofs.Ytpifimghlfpbaaa
