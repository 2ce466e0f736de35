/-
  The walks of the functions that only hold numbers against bounds.
  Conditions: those written at each theorem.
-/
import Derived.Test.YtfkpjfohkkilmaaRows
import Derived.Test.YtfkpjfohkkilmaaCells
import Derived.WalkSpells
import Derived.WalkLawsBesides
import Derived.Deep.QuietTactic
import Derived.BigQuiet
namespace Go.Proofs.Ytfkpjfohkkilmaa
open Go.RowKit

theorem l1In_any (x a b : Int) (w : World) :
    Calls Try.prog 15 #[.int .i64 x, .int .i64 a, .int .i64 b] w fun e w' => e = .returned (.bool (inB x a b)) ∧ w = w' := by
  by_cases h1 : a ≤ x <;> by_cases h2 : x ≤ b
  all_goals
    go_enter Try.func15, Try.ntmps15
    go_wp2
    go_ret
    refine ⟨?_, rfl⟩
    simp [inB, h1, h2]

theorem l1In_t {x a b : Int} (h : inB x a b = true) (w : World) :
    Calls Try.prog 15 #[.int .i64 x, .int .i64 a, .int .i64 b] w fun e w' => e = .returned (.bool true) ∧ w = w' := by
  have := l1In_any x a b w; rwa [h] at this

theorem l1In_f {x a b : Int} (h : ¬ inB x a b = true) (w : World) :
    Calls Try.prog 15 #[.int .i64 x, .int .i64 a, .int .i64 b] w fun e w' => e = .returned (.bool false) ∧ w = w' := by
  have := l1In_any x a b w; rwa [Bool.eq_false_iff.2 h] at this

theorem within_any (x a b : Int) (w : World) :
    Calls Try.prog 23 #[.int .i64 x, .int .i64 a, .int .i64 b] w fun e w' => e = .returned (.bool (inB x a b)) ∧ w = w' := by
  by_cases h1 : a ≤ x <;> by_cases h2 : x ≤ b
  all_goals
    go_enter Try.func23, Try.ntmps23
    go_wp2
    go_ret
    refine ⟨?_, rfl⟩
    simp [inB, h1, h2]

theorem l2Day_any (x : Int) (w : World) :
    Calls Try.prog 47 #[.int .i64 x] w fun e w' => e = .returned (.bool (inB x 0 20000)) ∧ w = w' := by
  go_enter Try.func47, Try.ntmps47
  go_wp2_with (go_at_call 15; refine (l1In_any _ _ _ _).mono ?_; rintro e w' ⟨rfl, rfl⟩)
  go_ret
  exact ⟨rfl, rfl⟩

theorem isDay_any (x : Int) (w : World) :
    Calls Try.prog 50 #[.int .i64 x] w fun e w' => e = .returned (.bool (inB x 0 20000)) ∧ w = w' := by
  go_enter Try.func50, Try.ntmps50
  go_wp2_with (go_at_call 23; refine (within_any _ _ _ _).mono ?_; rintro e w' ⟨rfl, rfl⟩)
  go_ret
  exact ⟨rfl, rfl⟩

theorem isId_any (x : Int) (w : World) :
    Calls Try.prog 49 #[.int .i64 x] w fun e w' => e = .returned (.bool (inB x 1 99)) ∧ w = w' := by
  go_enter Try.func49, Try.ntmps49
  go_wp2_with (go_at_call 23; refine (within_any _ _ _ _).mono ?_; rintro e w' ⟨rfl, rfl⟩)
  go_ret
  exact ⟨rfl, rfl⟩

/-- two days are a span -/
def spanB (a b : Int) : Bool := decide (0 ≤ a ∧ a ≤ b ∧ b ≤ 20000)

theorem spanB_of {a b : Int} (h1 : 0 ≤ a) (h2 : a ≤ b) (h3 : b ≤ 20000) : spanB a b = true := decide_eq_true ⟨h1, h2, h3⟩

theorem spanB_true {a b : Int} (h : spanB a b = true) : 0 ≤ a ∧ a ≤ b ∧ b ≤ 20000 := of_decide_eq_true h

theorem spanB_false {a b : Int} (h : ¬ spanB a b = true) : ¬ (0 ≤ a ∧ a ≤ b ∧ b ≤ 20000) := fun k => h (decide_eq_true k)


end Go.Proofs.Ytfkpjfohkkilmaa
