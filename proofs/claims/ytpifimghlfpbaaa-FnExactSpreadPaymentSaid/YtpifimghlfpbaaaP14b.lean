/-
  The walks of FeeOf and PagesFor, and of the laws on IsTariff, FeeOf and PagesFor.
  Conditions: those written at each theorem.
-/
import Derived.Test.YtpifimghlfpbaaaP14a
import Derived.Test.YtpifimghlfpbaaaL14b
namespace Go.Proofs.Ytpifimghlfpbaaa
open Go.RowKit Go.BigFrame

/-- what FeeOf answers -/
def foAns (t : Tariff) (b : Bill) : Value := if tarOk t = true ∧ billOk b = true then .tuple #[.int .i64 (feeI t b), .bool true] else .tuple #[.int .i64 0, .bool false]
theorem foAns_form (t : Tariff) (b : Bill) : ∃ (x : Int) (y : Bool), foAns t b = .tuple #[.int .i64 x, .bool y] := by
  unfold foAns; split <;> exact ⟨_, _, rfl⟩




end Go.Proofs.Ytpifimghlfpbaaa
