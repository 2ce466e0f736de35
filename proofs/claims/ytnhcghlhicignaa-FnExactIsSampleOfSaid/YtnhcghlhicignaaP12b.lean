/-
  The law on IsPopulation.
  Conditions: those written at each theorem.
-/
import Derived.Test.YtnhcghlhicignaaP12a
namespace Go.Proofs.Ytnhcghlhicignaa
open Go.RowKit Go.BigFrame

set_option maxHeartbeats 400000 in
theorem walkIsPopulation {w : World} (v : Value) (hv : InI w v) : Calls Try.prog 3 #[v] w fun e w' => e = .returned (.bool true) ∧ Below w.heap.size w w' := by
  obtain ⟨A, c, l, rfl, hr, _, hm⟩ := hv
  by_cases hl : l.length ≤ 1048576
  · go_enter Try.func3, Try.ntmps3
    go_wp2_with fail

    refine (toIntS_any l A c _ hr hl).mono ?_
    rintro e w1 ⟨g1, rfl, ho1, hb1⟩
    go_wp2_with fail
    refine (specIsPopulation_any l _ _ (by omega) _ (Rd.of_own ho1)).mono ?_
    rintro e w2 ⟨rfl, hb2⟩
    have B2 := Below.trans' hb1 hb2
    clear ho1 hb1 hb2
    go_wp2_with fail
    refine (toIntS_any l A c _ (hr.below B2) hl).mono ?_
    rintro e w3 ⟨g3, rfl, ho3, hb3⟩
    have B3 := Below.trans' B2 hb3
    have R3 := Rd.of_own ho3
    clear B2 ho3 hb3
    go_wp2_with fail
    refine (implIsPopulation_any l _ _ (by omega) _ R3).mono ?_
    rintro e w4 ⟨rfl, rfl⟩
    have B4 := B3
    have R4 := R3
    clear B3 R3
    go_wp2_with fail
    refine (toIntS_any l A c _ (hr.below B4) hl).mono ?_
    rintro e w5 ⟨g5, rfl, ho5, hb5⟩
    have B5 := Below.trans' B4 hb5
    have R5 := Rd.of_own ho5
    have R4' := R4.below hb5
    clear B4 ho5 hb5 R4
    go_wp2_with fail
    refine (eqIntS_same l _ _ _ _ _ R4' R5 hl).mono ?_
    rintro e w6 ⟨rfl, hb6⟩
    have B6 := Lib.hid (Below.trans' B5 hb6)
    clear B5 hb6 R4' R5
    go_wp2
    go_ret
    exact ⟨rfl, B6.out⟩
  · go_enter Try.func3, Try.ntmps3
    go_wp2
    go_ret
    exact ⟨rfl, Below.refl _ _⟩

end Go.Proofs.Ytnhcghlhicignaa
