/-
  Arguments that came in, opened to plain data: one lemma a type.
  Conditions: none beyond those written at each theorem.
-/
import Derived.Test.YtaogjkgaecjfoaaRows
import Derived.Test.YtaogjkgaecjfoaaBase
import Derived.ProofKit
import Derived.OpenShut
import Derived.ShutString
import Derived.ChangeOld
import Derived.Below
import Derived.Deep.Slices
import Derived.Deep.Fields
import Derived.Lib.SmallJoins
namespace Go.Proofs.Ytaogjkgaecjfoaa
open Go.ChangeShapes Go.WideShapes Go.ChangeAt Go.RowKit
open Go.ChangeMaps (open_string shut_string)
set_option linter.unusedVariables false

section
variable {H : Type} {enc : TypeId × Value → H} {W : World} {base : Nat} {v : Value} {d : DataW H} {p : List MemPlace}

/-- a number of 64 bits -/
def I64 (a : Int) : Prop := -9223372036854775808 ≤ a ∧ a ≤ 9223372036854775807

theorem I64.of_wf {a : Int} (h : (Lit.int .i64 a).wf = true) : I64 a := by
  have h2 : -9223372036854775808 ≤ a ∧ a ≤ 9223372036854775807 := by simpa [Lit.wf, IntKind.min, IntKind.max, IntKind.signed, IntKind.bits] using h
  exact h2

theorem in_int {r : Reach} (hv : Value.okWide Try.prog W r base 3 v) (h : DataW.Trod enc Try.prog W 0 (fun _ => true) true 3 v d p) : ∃ a, I64 a ∧ v = .int .i64 a := by
  obtain ⟨a, rfl, rfl, rfl, w⟩ := open_int Try.underlying3 hv h
  exact ⟨a, I64.of_wf w, rfl⟩
end
end Go.Proofs.Ytaogjkgaecjfoaa
