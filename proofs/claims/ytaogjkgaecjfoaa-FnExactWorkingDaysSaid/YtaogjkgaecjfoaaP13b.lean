/-
  The walks of WorkingDays: the program's and the reference's, and of the law on both.
  Conditions: those written at each theorem.
-/
import Derived.Test.YtaogjkgaecjfoaaP13a
namespace Go.Proofs.Ytaogjkgaecjfoaa
open Go.RowKit

/-- what WorkingDays answers -/
def wdAns (a b : Int) : Value := if spanB a b = true then .tuple #[.int .i64 (wcnt a (b + 1 - a).toNat), .bool true] else .tuple #[.int .i64 0, .bool false]

theorem wcnt_go (a d n : Int) (m : Nat) (c : Int) (h : Hid (c = n + wcnt d (m + 1))) : Hid (c = (n + if wkB d = true then 1 else 0) + wcnt (d + 1) m) := by
  have := h.out
  show c = _
  rw [this, wcnt]; omega

set_option maxHeartbeats 400000 in
theorem specWorkingDays_any (a b : Int) (w : World) (hb : -9223372036854775808 ≤ b ∧ b ≤ 9223372036854775807) :
    Calls Try.prog 15 #[.int .i64 a, .int .i64 b] w fun e w' => e = .returned (wdAns a b) ∧ w = w' := by
  by_cases h1 : inB a 0 20000 = true
  · by_cases h2 : inB b 0 20000 = true
    · by_cases h3 : a ≤ b
      · have g1 := inB_true h1
        have g2 := inB_true h2
        have hs : spanB a b = true := spanB_of (by omega) h3 (by omega)
        have hans : Hid (wdAns a b = .tuple #[.int .i64 (wcnt a (b + 1 - a).toNat), .bool true]) := by show _ = _; simp [wdAns, hs]
        clear hs
        have H0 : Hid (wcnt a (b + 1 - a).toNat = 0 + wcnt a (b + 1 - a).toNat) := by show _ = _; omega
        go_enter Try.func15, Try.ntmps15
        go_wp2_with (go_at_call 45; refine (l2Day_any _ _).mono ?_; rintro e w' ⟨rfl, rfl⟩)
        go_loop [6, 7] (fun n d => ∃ (x y : Int), n = .int .i64 x ∧ d = .int .i64 y ∧ a ≤ y ∧ y ≤ b + 1 ∧ 0 ≤ x ∧ x ≤ y - a ∧ Hid (wcnt a (b + 1 - a).toNat = x + wcnt y (b + 1 - y).toNat)) (fun _ d => (b + 1 - intOf d).toNat)
        case atStart => exact ⟨0, a, rfl, rfl, by omega, by omega, by omega, by omega, H0⟩
        case round =>
          obtain ⟨x, y, rfl, rfl, k1, k2, k3, k4, K⟩ := hrel
          by_cases hlt : y ≤ b
          · have K' : Hid (wcnt a (b + 1 - a).toNat = (x + if wkB y = true then 1 else 0) + wcnt (y + 1) (b + 1 - (y + 1)).toNat) := by
              refine wcnt_go a y x _ _ ?_
              rw [show (b + 1 - (y + 1)).toNat + 1 = (b + 1 - y).toNat by omega]; exact K
            clear K
            by_cases hw : wkB y = true
            · rw [if_pos hw] at K'
              go_wp2_with (go_at_call 46; refine (l13Works_any _ _ (by omega)).mono ?_; rintro e w' ⟨rfl, rfl⟩)
              go_round
              case rel => exact ⟨x + 1, y + 1, rfl, rfl, by omega, by omega, by omega, by omega, K'⟩
              case measure => simp [intOf]; omega
            · rw [if_neg hw, Int.add_zero] at K'
              go_wp2_with (go_at_call 46; refine (l13Works_any _ _ (by omega)).mono ?_; rintro e w' ⟨rfl, rfl⟩)
              go_round
              case rel => exact ⟨x, y + 1, rfl, rfl, by omega, by omega, by omega, by omega, K'⟩
              case measure => simp [intOf]; omega
          · obtain rfl : y = b + 1 := by omega
            go_wp2_with fail
            go_ret2
            refine ⟨?_, rfl⟩
            rw [hans.out, K.out, Int.sub_self, Int.toNat_zero, wcnt, Int.add_zero]; rfl
      · have hans : Hid (wdAns a b = .tuple #[.int .i64 0, .bool false]) := by show _ = _; rw [wdAns, if_neg (fun h => h3 (spanB_true h).2.1)]
        go_enter Try.func15, Try.ntmps15
        go_wp2_with (go_at_call 45; refine (l2Day_any _ _).mono ?_; rintro e w' ⟨rfl, rfl⟩)
        go_ret2
        exact ⟨by rw [hans.out]; rfl, rfl⟩
    · have hans : Hid (wdAns a b = .tuple #[.int .i64 0, .bool false]) := by show _ = _; rw [wdAns, if_neg (fun h => by have := spanB_true h; have := inB_false h2; omega)]
      go_enter Try.func15, Try.ntmps15
      go_wp2_with (go_at_call 45; refine (l2Day_any _ _).mono ?_; rintro e w' ⟨rfl, rfl⟩)
      go_ret2
      exact ⟨by rw [hans.out]; rfl, rfl⟩
  · have hans : Hid (wdAns a b = .tuple #[.int .i64 0, .bool false]) := by show _ = _; rw [wdAns, if_neg (fun h => by have := spanB_true h; have := inB_false h1; omega)]
    go_enter Try.func15, Try.ntmps15
    go_wp2_with (go_at_call 45; refine (l2Day_any _ _).mono ?_; rintro e w' ⟨rfl, rfl⟩)
    go_ret2
    exact ⟨by rw [hans.out]; rfl, rfl⟩

set_option maxHeartbeats 400000 in
theorem implWorkingDays_any (a b : Int) (w : World) (hb : -9223372036854775808 ≤ b ∧ b ≤ 9223372036854775807) :
    Calls Try.prog 16 #[.int .i64 a, .int .i64 b] w fun e w' => e = .returned (wdAns a b) ∧ w = w' := by
  by_cases hs : spanB a b = true
  · have g := spanB_true hs
    have hans : Hid (wdAns a b = .tuple #[.int .i64 (wcnt a (b + 1 - a).toNat), .bool true]) := by show _ = _; simp [wdAns, hs]
    have H0 : Hid (wcnt a (b + 1 - a).toNat = 0 + wcnt a (b + 1 - a).toNat) := by show _ = _; omega
    go_enter Try.func16, Try.ntmps16
    go_wp2_with (go_at_call 49; refine (areDays_any _ _ _).mono ?_; rintro e w' ⟨rfl, rfl⟩)
    go_loop [6, 7] (fun n d => ∃ (x y : Int), n = .int .i64 x ∧ d = .int .i64 y ∧ a ≤ y ∧ y ≤ b + 1 ∧ 0 ≤ x ∧ x ≤ y - a ∧ Hid (wcnt a (b + 1 - a).toNat = x + wcnt y (b + 1 - y).toNat)) (fun _ d => (b + 1 - intOf d).toNat)
    case atStart => exact ⟨0, a, rfl, rfl, by omega, by omega, by omega, by omega, H0⟩
    case round =>
      obtain ⟨x, y, rfl, rfl, k1, k2, k3, k4, K⟩ := hrel
      by_cases hlt : y ≤ b
      · have K' : Hid (wcnt a (b + 1 - a).toNat = (x + if wkB y = true then 1 else 0) + wcnt (y + 1) (b + 1 - (y + 1)).toNat) := by
          refine wcnt_go a y x _ _ ?_
          rw [show (b + 1 - (y + 1)).toNat + 1 = (b + 1 - y).toNat by omega]; exact K
        clear K
        by_cases hw : wkB y = true
        · rw [if_pos hw] at K'
          go_wp2_with (go_at_call 48; refine (isWorkingDay_any _ _ (by omega)).mono ?_; rintro e w' ⟨rfl, rfl⟩)
          go_round
          case rel => exact ⟨x + 1, y + 1, rfl, rfl, by omega, by omega, by omega, by omega, K'⟩
          case measure => simp [intOf]; omega
        · rw [if_neg hw, Int.add_zero] at K'
          go_wp2_with (go_at_call 48; refine (isWorkingDay_any _ _ (by omega)).mono ?_; rintro e w' ⟨rfl, rfl⟩)
          go_round
          case rel => exact ⟨x, y + 1, rfl, rfl, by omega, by omega, by omega, by omega, K'⟩
          case measure => simp [intOf]; omega
      · obtain rfl : y = b + 1 := by omega
        go_wp2_with fail
        go_ret2
        refine ⟨?_, rfl⟩
        rw [hans.out, K.out, Int.sub_self, Int.toNat_zero, wcnt, Int.add_zero]; rfl
  · have hans : Hid (wdAns a b = .tuple #[.int .i64 0, .bool false]) := by show _ = _; rw [wdAns, if_neg hs]
    go_enter Try.func16, Try.ntmps16
    go_wp2_with (go_at_call 49; refine (areDays_any _ _ _).mono ?_; rintro e w' ⟨rfl, rfl⟩)
    go_ret2
    exact ⟨by rw [hans.out]; rfl, rfl⟩

theorem walkWorkingDays (a : Int) (_ : -9223372036854775808 ≤ a ∧ a ≤ 9223372036854775807) (b : Int) (hb : -9223372036854775808 ≤ b ∧ b ≤ 9223372036854775807) (w : World) :
    Calls Try.prog 4 #[.int .i64 a, .int .i64 b] w fun e w' => e = .returned (.bool true) ∧ Below w.heap.size w w' := by
  obtain ⟨x, y, hx⟩ : ∃ (x : Int) (y : Bool), wdAns a b = .tuple #[.int .i64 x, .bool y] := by unfold wdAns; split <;> exact ⟨_, _, rfl⟩
  have HX := Lib.hid hx
  clear hx
  go_enter Try.func4, Try.ntmps4
  go_wp2_with (first
    | (go_at_call 15; refine (specWorkingDays_any _ _ _ hb).mono ?_; rintro e w' ⟨rfl, rfl⟩; rw [HX.out])
    | (go_at_call 16; refine (implWorkingDays_any _ _ _ hb).mono ?_; rintro e w' ⟨rfl, rfl⟩; rw [HX.out]))
  go_ret
  exact ⟨rfl, Below.refl _ _⟩

end Go.Proofs.Ytaogjkgaecjfoaa
