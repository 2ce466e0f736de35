/-
  The walks of chapter 12: populations and the size of samples.
  Conditions: those written at each theorem.
-/
import Derived.Test.YtfkpjfohkkilmaaL12
namespace Go.Proofs.Ytfkpjfohkkilmaa
open Go.RowKit Go.BigFrame

theorem l1Most_any (a b : Int) (w : World) :
    Calls Try.prog 35 #[.int .i64 a, .int .i64 b] w fun e w' => e = .returned (.int .i64 (if b < a then a else b)) ∧ w = w' := by
  by_cases h : b < a
  all_goals
    go_enter Try.func35, Try.ntmps35
    go_wp2
    go_ret
    exact ⟨by simp [h], rfl⟩
theorem l1Least_any (a b : Int) (w : World) :
    Calls Try.prog 34 #[.int .i64 a, .int .i64 b] w fun e w' => e = .returned (.int .i64 (if a < b then a else b)) ∧ w = w' := by
  by_cases h : a < b
  all_goals
    go_enter Try.func34, Try.ntmps34
    go_wp2
    go_ret
    exact ⟨by simp [h], rfl⟩

theorem l12Size_any (c p m : Int) (hc : 0 ≤ c ∧ c ≤ 20) (hp : 0 ≤ p ∧ p ≤ 100) (hm : 0 ≤ m ∧ m ≤ 20) (w : World) :
    Calls Try.prog 19 #[.int .i64 c, .int .i64 p, .int .i64 m] w fun e w' => e = .returned (.int .i64 (sizeI c p m)) ∧ w = w' := by
  have h1 := mul_bd hc.1 hc.2 hp.1 hp.2
  have hs : Hid (sizeI c p m = if c < (if (c * p + 99) / 100 < m then m else (c * p + 99) / 100) then c else (if (c * p + 99) / 100 < m then m else (c * p + 99) / 100)) := rfl
  generalize hx : c * p = x at h1 hs
  have HX := Lib.hid hx
  clear hx
  go_enter Try.func19, Try.ntmps19
  have hx := HX.out
  go_wp2_with fail
  clear hx
  refine (l1Most_any _ _ _).mono ?_
  rintro e w1 ⟨rfl, rfl⟩
  go_wp2_with (go_at_call 34; refine (l1Least_any _ _ _).mono ?_; rintro e w' ⟨rfl, rfl⟩)
  all_goals
    go_ret
    refine ⟨?_, rfl⟩
    rw [hs.out]
    clear HX hs
    simp
    try grind

theorem ceilDiv_any (a : Int) (ha : 0 ≤ a ∧ a ≤ 1000000) (w : World) :
    Calls Try.prog 42 #[.int .i64 a, .int .i64 100] w fun e w' => e = .returned (.int .i64 ((a + 99) / 100)) ∧ w = w' := by
  go_enter Try.func42, Try.ntmps42
  go_wp2
  go_ret
  refine ⟨?_, rfl⟩
  simp
  omega

theorem sampleSize_any (c p m : Int) (hc : 0 ≤ c ∧ c ≤ 20) (hp : 0 ≤ p ∧ p ≤ 100) (hm : 0 ≤ m ∧ m ≤ 20) (w : World) :
    Calls Try.prog 26 #[.int .i64 c, .int .i64 p, .int .i64 m] w fun e w' => e = .returned (.int .i64 (sizeI c p m)) ∧ w = w' := by
  have h1 := mul_bd hc.1 hc.2 hp.1 hp.2
  have hs : Hid (sizeI c p m = if c < (if (c * p + 99) / 100 < m then m else (c * p + 99) / 100) then c else (if (c * p + 99) / 100 < m then m else (c * p + 99) / 100)) := rfl
  generalize hx : c * p = x at h1 hs
  have HX := Lib.hid hx
  clear hx
  go_enter Try.func26, Try.ntmps26
  have hx := HX.out
  go_wp2_with fail
  clear hx
  refine (ceilDiv_any _ (by omega) _).mono ?_
  rintro e w1 ⟨rfl, rfl⟩
  go_wp2
  all_goals
    go_ret
    refine ⟨?_, rfl⟩
    rw [hs.out]
    clear HX hs
    simp
    try grind








end Go.Proofs.Ytfkpjfohkkilmaa
