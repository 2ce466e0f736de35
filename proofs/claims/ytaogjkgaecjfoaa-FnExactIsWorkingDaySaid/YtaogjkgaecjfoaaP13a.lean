/-
  The walks of the small functions of chapter 13 that only compute with numbers.
  Conditions: those written at each theorem.
-/
import Derived.Test.YtaogjkgaecjfoaaRows
import Derived.Test.YtaogjkgaecjfoaaBase
import Derived.WalkSpells
import Derived.WalkLawsBesides
import Derived.Deep.QuietTactic
import Derived.BigQuiet
namespace Go.Proofs.Ytaogjkgaecjfoaa
open Go.RowKit

theorem l1In_any (x a b : Int) (w : World) :
    Calls Try.prog 50 #[.int .i64 x, .int .i64 a, .int .i64 b] w fun e w' => e = .returned (.bool (inB x a b)) ∧ w = w' := by
  by_cases h1 : a ≤ x <;> by_cases h2 : x ≤ b
  all_goals
    go_enter Try.func50, Try.ntmps50
    go_wp2
    go_ret
    refine ⟨?_, rfl⟩
    simp [inB, h1, h2]

theorem within_any (x a b : Int) (w : World) :
    Calls Try.prog 51 #[.int .i64 x, .int .i64 a, .int .i64 b] w fun e w' => e = .returned (.bool (inB x a b)) ∧ w = w' := by
  by_cases h1 : a ≤ x <;> by_cases h2 : x ≤ b
  all_goals
    go_enter Try.func51, Try.ntmps51
    go_wp2
    go_ret
    refine ⟨?_, rfl⟩
    simp [inB, h1, h2]

theorem l2Day_any (x : Int) (w : World) :
    Calls Try.prog 45 #[.int .i64 x] w fun e w' => e = .returned (.bool (inB x 0 20000)) ∧ w = w' := by
  go_enter Try.func45, Try.ntmps45
  go_wp2_with (go_at_call 50; refine (l1In_any _ _ _ _).mono ?_; rintro e w' ⟨rfl, rfl⟩)
  go_ret
  exact ⟨rfl, rfl⟩

theorem isDay_any (x : Int) (w : World) :
    Calls Try.prog 47 #[.int .i64 x] w fun e w' => e = .returned (.bool (inB x 0 20000)) ∧ w = w' := by
  go_enter Try.func47, Try.ntmps47
  go_wp2_with (go_at_call 51; refine (within_any _ _ _ _).mono ?_; rintro e w' ⟨rfl, rfl⟩)
  go_ret
  exact ⟨rfl, rfl⟩

theorem isId_any (x : Int) (w : World) :
    Calls Try.prog 56 #[.int .i64 x] w fun e w' => e = .returned (.bool (inB x 1 99)) ∧ w = w' := by
  go_enter Try.func56, Try.ntmps56
  go_wp2_with (go_at_call 51; refine (within_any _ _ _ _).mono ?_; rintro e w' ⟨rfl, rfl⟩)
  go_ret
  exact ⟨rfl, rfl⟩

/-- two days are a span -/
def spanB (a b : Int) : Bool := decide (0 ≤ a ∧ a ≤ b ∧ b ≤ 20000)
theorem spanB_of {a b : Int} (h1 : 0 ≤ a) (h2 : a ≤ b) (h3 : b ≤ 20000) : spanB a b = true := decide_eq_true ⟨h1, h2, h3⟩
theorem spanB_true {a b : Int} (h : spanB a b = true) : 0 ≤ a ∧ a ≤ b ∧ b ≤ 20000 := of_decide_eq_true h
theorem spanB_false {a b : Int} (h : ¬ spanB a b = true) : ¬ (0 ≤ a ∧ a ≤ b ∧ b ≤ 20000) := fun k => h (decide_eq_true k)

theorem areDays_any (a b : Int) (w : World) :
    Calls Try.prog 49 #[.int .i64 a, .int .i64 b] w fun e w' => e = .returned (.bool (spanB a b)) ∧ w = w' := by
  go_enter Try.func49, Try.ntmps49
  go_wp2_with (go_at_call 47; refine (isDay_any _ _).mono ?_; rintro e w' ⟨rfl, rfl⟩)
  all_goals
    go_ret
    refine ⟨?_, rfl⟩
    simp_all [spanB, inB]
    try omega

/-- a working day -/
def wkB (d : Int) : Bool := decide (d % 7 < 5)

theorem l13Works_any (d : Int) (w : World) (h : 0 ≤ d) :
    Calls Try.prog 46 #[.int .i64 d] w fun e w' => e = .returned (.bool (wkB d)) ∧ w = w' := by
  go_enter Try.func46, Try.ntmps46
  go_wp2
  go_ret
  exact ⟨rfl, rfl⟩

theorem isWorkingDay_any (d : Int) (w : World) (h : 0 ≤ d) :
    Calls Try.prog 48 #[.int .i64 d] w fun e w' => e = .returned (.bool (wkB d)) ∧ w = w' := by
  go_enter Try.func48, Try.ntmps48
  go_wp2
  go_ret
  exact ⟨rfl, rfl⟩

/-- what IsWorkingDay answers -/
def wkAns (d : Int) : Value := if inB d 0 20000 then .tuple #[.bool (wkB d), .bool true] else .tuple #[.bool false, .bool false]

theorem specIsWorkingDay_any (d : Int) (w : World) :
    Calls Try.prog 13 #[.int .i64 d] w fun e w' => e = .returned (wkAns d) ∧ w = w' := by
  by_cases hd : inB d 0 20000 = true
  · have h := inB_true hd
    go_enter Try.func13, Try.ntmps13
    go_wp2_with (first
      | (go_at_call 45; refine (l2Day_any _ _).mono ?_; rintro e w' ⟨rfl, rfl⟩)
      | (go_at_call 46; refine (l13Works_any _ _ (by omega)).mono ?_; rintro e w' ⟨rfl, rfl⟩))
    go_ret2
    simp [wkAns, hd]
  · go_enter Try.func13, Try.ntmps13
    go_wp2_with (first
      | (go_at_call 45; refine (l2Day_any _ _).mono ?_; rintro e w' ⟨rfl, rfl⟩))
    go_ret2
    simp [wkAns, hd]

theorem implIsWorkingDay_any (d : Int) (w : World) :
    Calls Try.prog 14 #[.int .i64 d] w fun e w' => e = .returned (wkAns d) ∧ w = w' := by
  by_cases hd : inB d 0 20000 = true
  · have h := inB_true hd
    go_enter Try.func14, Try.ntmps14
    go_wp2_with (first
      | (go_at_call 47; refine (isDay_any _ _).mono ?_; rintro e w' ⟨rfl, rfl⟩)
      | (go_at_call 48; refine (isWorkingDay_any _ _ (by omega)).mono ?_; rintro e w' ⟨rfl, rfl⟩))
    go_ret2
    simp [wkAns, hd]
  · go_enter Try.func14, Try.ntmps14
    go_wp2_with (first
      | (go_at_call 47; refine (isDay_any _ _).mono ?_; rintro e w' ⟨rfl, rfl⟩))
    go_ret2
    simp [wkAns, hd]

theorem walkIsWorkingDay (d : Int) (_ : -9223372036854775808 ≤ d ∧ d ≤ 9223372036854775807) (w : World) :
    Calls Try.prog 3 #[.int .i64 d] w fun e w' => e = .returned (.bool true) ∧ Below w.heap.size w w' := by
  by_cases hd : inB d 0 20000 = true
  all_goals
    by_cases hw : wkB d = true
    all_goals
      go_enter Try.func3, Try.ntmps3
      go_wp2_with (first
        | (go_at_call 13; refine (specIsWorkingDay_any _ _).mono ?_; rintro e w' ⟨rfl, rfl⟩; simp only [wkAns, hd, if_true, if_false, Bool.false_eq_true])
        | (go_at_call 14; refine (implIsWorkingDay_any _ _).mono ?_; rintro e w' ⟨rfl, rfl⟩; simp only [wkAns, hd, if_true, if_false, Bool.false_eq_true]))
      go_ret
      exact ⟨rfl, Below.refl _ _⟩

end Go.Proofs.Ytaogjkgaecjfoaa
