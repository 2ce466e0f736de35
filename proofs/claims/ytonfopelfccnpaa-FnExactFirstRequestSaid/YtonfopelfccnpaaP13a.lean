/-
  The walks of the small functions of chapter 13 that only compute with numbers.
  Conditions: those written at each theorem.
-/
import Derived.Test.YtonfopelfccnpaaNums
import Derived.Test.YtonfopelfccnpaaL13
import Derived.WalkSpells
import Derived.WalkLawsBesides
import Derived.Deep.QuietTactic
import Derived.BigQuiet
namespace Go.Proofs.Ytonfopelfccnpaa
open Go.RowKit

theorem l13Works_any (d : Int) (w : World) (h : 0 ≤ d) :
    Calls Try.prog 35 #[.int .i64 d] w fun e w' => e = .returned (.bool (wkB d)) ∧ w = w' := by
  go_enter Try.func35, Try.ntmps35
  go_wp2
  go_ret
  exact ⟨rfl, rfl⟩

theorem isWorkingDay_any (d : Int) (w : World) (h : 0 ≤ d) :
    Calls Try.prog 43 #[.int .i64 d] w fun e w' => e = .returned (.bool (wkB d)) ∧ w = w' := by
  go_enter Try.func43, Try.ntmps43
  go_wp2
  go_ret
  exact ⟨rfl, rfl⟩

/-- what IsWorkingDay answers -/
def wkAns (d : Int) : Value := if inB d 0 20000 then .tuple #[.bool (wkB d), .bool true] else .tuple #[.bool false, .bool false]




end Go.Proofs.Ytonfopelfccnpaa
