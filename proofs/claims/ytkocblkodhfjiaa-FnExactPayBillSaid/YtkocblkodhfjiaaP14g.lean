/-
  The walk of the law AreBills. Written by gen_laws.py.
  Conditions: those written at each theorem.
-/
import Derived.Test.YtkocblkodhfjiaaP14f
namespace Go.Proofs.Ytkocblkodhfjiaa
open Go.RowKit Go.BigFrame
set_option maxRecDepth 100000

set_option maxHeartbeats 400000 in
theorem walkAreBills {w : World} (v : Value) (hv : InBillS w v) : Calls Try.prog 6 #[v] w fun e w' => e = .returned (.bool true) ∧ Below w.heap.size w w' := by
  obtain ⟨A, c, l, rfl, hr, _, hm⟩ := hv
  by_cases hl : l.length ≤ 1048576
  · go_enter Try.func6, Try.ntmps6
    go_wp2_with fail
    refine (szBillS_ok _ _ _ _ _ (by omega) (by omega)).mono ?_
    rintro e w1 ⟨rfl, rfl⟩
    go_wp2_with fail
    refine (toBillS_any l A c _ hr hl).mono ?_
    rintro e w1 ⟨g1, rfl, ho1, hb1⟩
    go_wp2_with fail
    refine (specAreBills_any l _ _ (by omega) _ (Rd.of_own ho1)).mono ?_
    rintro e w2 ⟨rfl, hb2⟩
    have B2 := Below.trans' hb1 hb2
    clear ho1 hb1 hb2
    go_wp2_with fail
    refine (toBillS_any l A c _ (hr.below B2) hl).mono ?_
    rintro e w3 ⟨g3, rfl, ho3, hb3⟩
    have B3 := Below.trans' B2 hb3
    have R3 := Rd.of_own ho3
    clear B2 ho3 hb3
    go_wp2_with fail
    refine (implAreBills_any l _ _ (by omega) _ R3).mono ?_
    rintro e w4 ⟨rfl, hb4⟩
    have B4 := Below.trans' B3 hb4
    have R4 := R3.below hb4
    clear B3 hb4 R3
    go_wp2_with fail
    refine (toBillS_any l A c _ (hr.below B4) hl).mono ?_
    rintro e w5 ⟨g5, rfl, ho5, hb5⟩
    have B5 := Below.trans' B4 hb5
    have R5 := Rd.of_own ho5
    have R4' := R4.below hb5
    clear B4 ho5 hb5 R4
    go_wp2_with fail
    refine (eqBillS_same l _ _ _ _ _ R4' R5 hl).mono ?_
    rintro e w6 ⟨rfl, hb6⟩
    have B6 := Lib.hid (Below.trans' B5 hb6)
    clear B5 hb6 R4' R5
    go_wp2
    go_ret
    exact ⟨rfl, B6.out⟩
  · go_enter Try.func6, Try.ntmps6
    go_wp2_with fail
    refine (szBillS_no _ _ _ _ _ (by omega) hm (by omega)).mono ?_
    rintro e w1 ⟨rfl, rfl⟩
    go_wp2
    go_ret
    exact ⟨rfl, Below.refl _ _⟩

end Go.Proofs.Ytkocblkodhfjiaa
