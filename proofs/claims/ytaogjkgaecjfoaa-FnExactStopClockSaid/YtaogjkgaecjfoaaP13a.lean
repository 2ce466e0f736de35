/-
  The walks of the small functions of chapter 13 that only compute with numbers.
  Conditions: those written at each theorem.
-/
import Derived.Test.YtaogjkgaecjfoaaNums
import Derived.Test.YtaogjkgaecjfoaaL13
import Derived.WalkSpells
import Derived.WalkLawsBesides
import Derived.Deep.QuietTactic
import Derived.BigQuiet
namespace Go.Proofs.Ytaogjkgaecjfoaa
open Go.RowKit

theorem l13Works_any (d : Int) (w : World) (h : 0 ≤ d) :
    Calls Try.prog 46 #[.int .i64 d] w fun e w' => e = .returned (.bool (wkB d)) ∧ w = w' := by
  go_enter Try.func46, Try.ntmps46
  go_wp2
  go_ret
  exact ⟨rfl, rfl⟩

theorem isWorkingDay_any (d : Int) (w : World) (h : 0 ≤ d) :
    Calls Try.prog 48 #[.int .i64 d] w fun e w' => e = .returned (.bool (wkB d)) ∧ w = w' := by
  go_enter Try.func48, Try.ntmps48
  go_wp2
  go_ret
  exact ⟨rfl, rfl⟩

/-- what IsWorkingDay answers -/
def wkAns (d : Int) : Value := if inB d 0 20000 then .tuple #[.bool (wkB d), .bool true] else .tuple #[.bool false, .bool false]

theorem specIsWorkingDay_any (d : Int) (w : World) :
    Calls Try.prog 13 #[.int .i64 d] w fun e w' => e = .returned (wkAns d) ∧ w = w' := by
  by_cases hd : inB d 0 20000 = true
  · have h := inB_true hd
    go_enter Try.func13, Try.ntmps13
    go_wp2_with (first
      | (go_at_call 45; refine (l2Day_any _ _).mono ?_; rintro e w' ⟨rfl, rfl⟩)
      | (go_at_call 46; refine (l13Works_any _ _ (by omega)).mono ?_; rintro e w' ⟨rfl, rfl⟩))
    go_ret2
    simp [wkAns, hd]
  · go_enter Try.func13, Try.ntmps13
    go_wp2_with (first
      | (go_at_call 45; refine (l2Day_any _ _).mono ?_; rintro e w' ⟨rfl, rfl⟩))
    go_ret2
    simp [wkAns, hd]

theorem implIsWorkingDay_any (d : Int) (w : World) :
    Calls Try.prog 14 #[.int .i64 d] w fun e w' => e = .returned (wkAns d) ∧ w = w' := by
  by_cases hd : inB d 0 20000 = true
  · have h := inB_true hd
    go_enter Try.func14, Try.ntmps14
    go_wp2_with (first
      | (go_at_call 47; refine (isDay_any _ _).mono ?_; rintro e w' ⟨rfl, rfl⟩)
      | (go_at_call 48; refine (isWorkingDay_any _ _ (by omega)).mono ?_; rintro e w' ⟨rfl, rfl⟩))
    go_ret2
    simp [wkAns, hd]
  · go_enter Try.func14, Try.ntmps14
    go_wp2_with (first
      | (go_at_call 47; refine (isDay_any _ _).mono ?_; rintro e w' ⟨rfl, rfl⟩))
    go_ret2
    simp [wkAns, hd]

theorem walkIsWorkingDay (d : Int) (_ : -9223372036854775808 ≤ d ∧ d ≤ 9223372036854775807) (w : World) :
    Calls Try.prog 3 #[.int .i64 d] w fun e w' => e = .returned (.bool true) ∧ Below w.heap.size w w' := by
  by_cases hd : inB d 0 20000 = true
  all_goals
    by_cases hw : wkB d = true
    all_goals
      go_enter Try.func3, Try.ntmps3
      go_wp2_with (first
        | (go_at_call 13; refine (specIsWorkingDay_any _ _).mono ?_; rintro e w' ⟨rfl, rfl⟩; simp only [wkAns, hd, if_true, if_false, Bool.false_eq_true])
        | (go_at_call 14; refine (implIsWorkingDay_any _ _).mono ?_; rintro e w' ⟨rfl, rfl⟩; simp only [wkAns, hd, if_true, if_false, Bool.false_eq_true]))
      go_ret
      exact ⟨rfl, Below.refl _ _⟩

end Go.Proofs.Ytaogjkgaecjfoaa
