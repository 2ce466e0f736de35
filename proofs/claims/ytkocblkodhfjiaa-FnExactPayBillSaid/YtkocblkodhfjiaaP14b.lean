/-
  The walks of FeeOf and PagesFor, and of the laws on IsTariff, FeeOf and PagesFor.
  Conditions: those written at each theorem.
-/
import Derived.Test.YtkocblkodhfjiaaP14a
import Derived.Test.YtkocblkodhfjiaaL14b
namespace Go.Proofs.Ytkocblkodhfjiaa
open Go.RowKit Go.BigFrame

/-- what FeeOf answers -/
def foAns (t : Tariff) (b : Bill) : Value := if tarOk t = true ∧ billOk b = true then .tuple #[.int .i64 (feeI t b), .bool true] else .tuple #[.int .i64 0, .bool false]
theorem foAns_form (t : Tariff) (b : Bill) : ∃ (x : Int) (y : Bool), foAns t b = .tuple #[.int .i64 x, .bool y] := by
  unfold foAns; split <;> exact ⟨_, _, rfl⟩

set_option maxHeartbeats 400000 in
theorem specFeeOf_any (t : Tariff) (b : Bill) (w : World) : Calls Try.prog 15 #[aggTariff t, aggBill b] w fun e w' => e = .returned (foAns t b) ∧ Below w.heap.size w w' := by
  have HT := fun W => Lib.hid (l14Tariff_any t W)
  have HB := fun W => Lib.hid (l14Bill_any b W)
  by_cases h1 : tarOk t = true
  · by_cases h2 : billOk b = true
    · have hans : Hid (foAns t b = .tuple #[.int .i64 (feeI t b), .bool true]) := if_pos ⟨h1, h2⟩
      have HF := fun W => Lib.hid (l14Fee_any t b W (FeeIn.of h1 h2))
      unfold aggTariff aggBill at *
      go_enter Try.func15, Try.ntmps15
      go_wp2_with fail
      have bx := (Box.new w #[.int .i64 t.search, .int .i64 t.page, .int .i64 t.free, .int .i64 t.limit] 25).below ((Below.refl _ _).alloc (Nat.le_refl _) (.cells #[.int .i64 b.id, .int .i64 b.hours, .int .i64 b.pages, .bool b.poor, .bool b.pub, .int .i64 b.paid] 32))
      have by_ := Box.new (w.alloc (.cells #[.int .i64 t.search, .int .i64 t.page, .int .i64 t.free, .int .i64 t.limit] 25)) #[.int .i64 b.id, .int .i64 b.hours, .int .i64 b.pages, .bool b.poor, .bool b.pub, .int .i64 b.paid] 32
      rw [World.size_alloc] at by_
      refine (HT _).out.mono ?_
      rintro e w1 ⟨rfl, hb1⟩
      have bx1 := bx.below hb1
      have by1 := by_.below hb1
      obtain ⟨y0, y1, y2, y3, y4, y5⟩ := by1.six
      have B1 := Lib.hid (Below.trans' (a := w) (((Below.refl _ _).alloc (Nat.le_refl _) _).alloc (by simp) _) hb1)
      have BX := Lib.hid bx1
      have BY := Lib.hid by1
      clear hb1 bx by_ bx1 by1
      go_wp2_with fail
      refine (HB _).out.mono ?_
      rintro e w2 ⟨rfl, hb2⟩
      clear y0 y1 y2 y3 y4 y5
      obtain ⟨x0, x1, x2, x3⟩ := (BX.out.below hb2).four
      obtain ⟨y0, y1, y2, y3, y4, y5⟩ := (BY.out.below hb2).six
      have B2 := Lib.hid (Below.trans' B1.out hb2)
      clear hb2
      go_wp2_with fail
      refine (HF _).out.mono ?_
      rintro e w3 ⟨rfl, hb3⟩
      have B3 := Lib.hid (Below.trans' B2.out hb3)
      clear hb3
      go_wp2
      go_ret2
      exact ⟨by rw [hans.out]; rfl, B3.out⟩
    · have hans : Hid (foAns t b = .tuple #[.int .i64 0, .bool false]) := if_neg fun h => h2 h.2
      unfold aggTariff aggBill at *
      go_enter Try.func15, Try.ntmps15
      go_wp2_with fail
      have by_ := Box.new (w.alloc (.cells #[.int .i64 t.search, .int .i64 t.page, .int .i64 t.free, .int .i64 t.limit] 25)) #[.int .i64 b.id, .int .i64 b.hours, .int .i64 b.pages, .bool b.poor, .bool b.pub, .int .i64 b.paid] 32
      rw [World.size_alloc] at by_
      refine (HT _).out.mono ?_
      rintro e w1 ⟨rfl, hb1⟩
      obtain ⟨y0, y1, y2, y3, y4, y5⟩ := (by_.below hb1).six
      have B1 := Lib.hid (Below.trans' (a := w) (((Below.refl _ _).alloc (Nat.le_refl _) _).alloc (by simp) _) hb1)
      clear hb1 by_
      go_wp2_with fail
      refine (HB _).out.mono ?_
      rintro e w2 ⟨rfl, hb2⟩
      have B2 := Lib.hid (Below.trans' B1.out hb2)
      clear hb2
      go_wp2
      go_ret2
      exact ⟨by rw [hans.out]; rfl, B2.out⟩
  · have hans : Hid (foAns t b = .tuple #[.int .i64 0, .bool false]) := if_neg fun h => h1 h.1
    unfold aggTariff aggBill at *
    go_enter Try.func15, Try.ntmps15
    go_wp2_with fail
    refine (HT _).out.mono ?_
    rintro e w1 ⟨rfl, hb1⟩
    have B1 := Lib.hid (Below.trans' (a := w) (((Below.refl _ _).alloc (Nat.le_refl _) _).alloc (by simp) _) hb1)
    clear hb1
    go_wp2
    go_ret2
    exact ⟨by rw [hans.out]; rfl, B1.out⟩

set_option maxHeartbeats 400000 in
theorem implFeeOf_any (t : Tariff) (b : Bill) (w : World) : Calls Try.prog 17 #[aggTariff t, aggBill b] w fun e w' => e = .returned (foAns t b) ∧ Below w.heap.size w w' := by
  have HT := fun W => Lib.hid (implIsTariff_any t W)
  have HB := fun W => Lib.hid (isBill_any b W)
  by_cases h1 : tarOk t = true
  · by_cases h2 : billOk b = true
    · have hans : Hid (foAns t b = .tuple #[.int .i64 (feeI t b), .bool true]) := if_pos ⟨h1, h2⟩
      have HF := fun W => Lib.hid (fee_any t b W (FeeIn.of h1 h2))
      unfold aggTariff aggBill at *
      go_enter Try.func17, Try.ntmps17
      go_wp2_with fail
      have bx := (Box.new w #[.int .i64 t.search, .int .i64 t.page, .int .i64 t.free, .int .i64 t.limit] 25).below ((Below.refl _ _).alloc (Nat.le_refl _) (.cells #[.int .i64 b.id, .int .i64 b.hours, .int .i64 b.pages, .bool b.poor, .bool b.pub, .int .i64 b.paid] 32))
      have by_ := Box.new (w.alloc (.cells #[.int .i64 t.search, .int .i64 t.page, .int .i64 t.free, .int .i64 t.limit] 25)) #[.int .i64 b.id, .int .i64 b.hours, .int .i64 b.pages, .bool b.poor, .bool b.pub, .int .i64 b.paid] 32
      rw [World.size_alloc] at by_
      refine (HT _).out.mono ?_
      rintro e w1 ⟨rfl, hb1⟩
      have bx1 := bx.below hb1
      have by1 := by_.below hb1
      obtain ⟨y0, y1, y2, y3, y4, y5⟩ := by1.six
      have B1 := Lib.hid (Below.trans' (a := w) (((Below.refl _ _).alloc (Nat.le_refl _) _).alloc (by simp) _) hb1)
      have BX := Lib.hid bx1
      have BY := Lib.hid by1
      clear hb1 bx by_ bx1 by1
      go_wp2_with fail
      refine (HB _).out.mono ?_
      rintro e w2 ⟨rfl, hb2⟩
      clear y0 y1 y2 y3 y4 y5
      obtain ⟨x0, x1, x2, x3⟩ := (BX.out.below hb2).four
      obtain ⟨y0, y1, y2, y3, y4, y5⟩ := (BY.out.below hb2).six
      have B2 := Lib.hid (Below.trans' B1.out hb2)
      clear hb2
      go_wp2_with fail
      refine (HF _).out.mono ?_
      rintro e w3 ⟨rfl, hb3⟩
      have B3 := Lib.hid (Below.trans' B2.out hb3)
      clear hb3
      go_wp2
      go_ret2
      exact ⟨by rw [hans.out]; rfl, B3.out⟩
    · have hans : Hid (foAns t b = .tuple #[.int .i64 0, .bool false]) := if_neg fun h => h2 h.2
      unfold aggTariff aggBill at *
      go_enter Try.func17, Try.ntmps17
      go_wp2_with fail
      have by_ := Box.new (w.alloc (.cells #[.int .i64 t.search, .int .i64 t.page, .int .i64 t.free, .int .i64 t.limit] 25)) #[.int .i64 b.id, .int .i64 b.hours, .int .i64 b.pages, .bool b.poor, .bool b.pub, .int .i64 b.paid] 32
      rw [World.size_alloc] at by_
      refine (HT _).out.mono ?_
      rintro e w1 ⟨rfl, hb1⟩
      obtain ⟨y0, y1, y2, y3, y4, y5⟩ := (by_.below hb1).six
      have B1 := Lib.hid (Below.trans' (a := w) (((Below.refl _ _).alloc (Nat.le_refl _) _).alloc (by simp) _) hb1)
      clear hb1 by_
      go_wp2_with fail
      refine (HB _).out.mono ?_
      rintro e w2 ⟨rfl, hb2⟩
      have B2 := Lib.hid (Below.trans' B1.out hb2)
      clear hb2
      go_wp2
      go_ret2
      exact ⟨by rw [hans.out]; rfl, B2.out⟩
  · have hans : Hid (foAns t b = .tuple #[.int .i64 0, .bool false]) := if_neg fun h => h1 h.1
    unfold aggTariff aggBill at *
    go_enter Try.func17, Try.ntmps17
    go_wp2_with fail
    refine (HT _).out.mono ?_
    rintro e w1 ⟨rfl, hb1⟩
    have B1 := Lib.hid (Below.trans' (a := w) (((Below.refl _ _).alloc (Nat.le_refl _) _).alloc (by simp) _) hb1)
    clear hb1
    go_wp2
    go_ret2
    exact ⟨by rw [hans.out]; rfl, B1.out⟩

theorem walkIsTariff {w : World} (t : Tariff) (_ : I64 t.search ∧ I64 t.page ∧ I64 t.free ∧ I64 t.limit) : Calls Try.prog 3 #[aggTariff t] w fun e w' => e = .returned (.bool true) ∧ Below w.heap.size w w' := by
  unfold aggTariff
  go_enter Try.func3, Try.ntmps3
  go_wp2_with fail
  have bx := Box.new w #[.int .i64 t.search, .int .i64 t.page, .int .i64 t.free, .int .i64 t.limit] 23
  refine (toTariff_any t _).mono ?_
  rintro e w1 ⟨rfl, hb1⟩
  go_wp2_with fail
  refine (specIsTariff_any t _).mono ?_
  rintro e w2 ⟨rfl, hb2⟩
  obtain ⟨e0, e1, e2, e3⟩ := ((bx.below hb1).below hb2).four
  have B2 := Lib.hid (Below.trans' (Below.trans' (a := w) ((Below.refl _ _).alloc (Nat.le_refl _) _) hb1) hb2)
  clear hb1 hb2 bx
  go_wp2_with fail
  refine (toTariff_any t _).mono ?_
  rintro e w3 ⟨rfl, hb3⟩
  go_wp2_with fail
  refine (implIsTariff_any t _).mono ?_
  rintro e w4 ⟨rfl, hb4⟩
  have B4 := Lib.hid (Below.trans' (Below.trans' B2.out hb3) hb4)
  clear hb3 hb4
  go_wp2
  go_ret
  exact ⟨rfl, B4.out⟩

end Go.Proofs.Ytkocblkodhfjiaa
