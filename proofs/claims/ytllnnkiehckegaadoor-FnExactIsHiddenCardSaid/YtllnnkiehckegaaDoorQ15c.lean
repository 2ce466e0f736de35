/-
  The law IsHidden. Written by mklaw.py.
  Conditions: those written at each theorem.
-/
import Derived.Test.YtllnnkiehckegaaDoorQ15b
namespace Go.Proofs.YtllnnkiehckegaaDoor
open Go.RowKit Go.BigFrame
set_option maxRecDepth 100000

set_option maxHeartbeats 1000000 in
theorem walkIsHidden {w : World} (t : ByteArray) (ht : t.size ≤ 9223372036854775807) (v0 : Value) (hv0 : InSpanS w v0) (d : ByteArray) (hd : d.size ≤ 9223372036854775807) :
    Calls Tryd.prog 5 #[.string t, v0, .string d] w fun e w' => e = .returned (.bool true) ∧ Below w.heap.size w w' := by
  obtain ⟨A0, c0, l, rfl, hr0, hbd0, hm0⟩ := hv0
  by_cases hl_t : t.size ≤ 1048576
  · by_cases hl_d : d.size ≤ 1048576
    · by_cases hl0 : l.length ≤ 1048576
      · have HS := fun (W : World) (g0 c0 : Nat) r0 => Lib.hid (specIsHidden_any t l d (some ⟨g0, 0, none⟩) c0 hl_t hl_d hl0 W r0)
        have HI := fun (W : World) (g0 c0 : Nat) r0 => Lib.hid (implIsHidden_any t l d (some ⟨g0, 0, none⟩) c0 hl_t hl_d hl0 W r0)
        obtain ⟨xa, ya, hx⟩ := ihAns_form t l d
        simp only [hx] at HS HI
        clear hx
        have HR0 := Lib.hid hr0
        clear hr0 hbd0
        go_enter Tryd.func5, Tryd.ntmps5
        go_wp2_with fail
        have B0 := Lib.hid (Below.refl w.heap.size w)
        refine (szSpanS_ok _ _ _ _ _ (by omega) (by omega)).mono ?_
        rintro e w1 ⟨rfl, rfl⟩
        go_wp2_with fail
        refine (toSpanS_any l A0 c0 _ (HR0.out.below B0.out) hl0).mono ?_
        rintro e w1 ⟨g1, rfl, ho, hb⟩
        have ST0_ := B0.out.size
        have B1 := Lib.hid (Below.transB B0.out (Nat.le_refl _) hb)
        clear hb B0
        have T0_1 := Lib.hid ho
        clear ho
        go_wp2_with fail
        refine (HS _ _ _ (Rd.of_own T0_1.out)).out.mono ?_
        rintro e w2 ⟨rfl, hb⟩
        have B2 := Lib.hid (Below.transB B1.out (Nat.le_refl _) hb)
        clear hb B1 T0_1
        go_wp2_with fail
        refine (toSpanS_any l A0 c0 _ (HR0.out.below B2.out) hl0).mono ?_
        rintro e w3 ⟨g3, rfl, ho, hb⟩
        have SX0_ := B2.out.size
        have B3 := Lib.hid (Below.transB B2.out (Nat.le_refl _) hb)
        clear hb B2
        have X0_3 := Lib.hid ho
        clear ho
        go_wp2_with fail
        refine (HI _ _ _ (Rd.of_own X0_3.out)).out.mono ?_
        rintro e w4 ⟨rfl, hb⟩
        have X0_4 := Lib.hid (own_below X0_3.out hb)
        have B4 := Lib.hid (Below.transB B3.out (Nat.le_refl _) hb)
        clear hb X0_3 B3
        go_wp2_with fail
        refine (toSpanS_any l A0 c0 _ (HR0.out.below B4.out) hl0).mono ?_
        rintro e w5 ⟨g5, rfl, ho, hb⟩
        have ST9_ := B4.out.size
        have X0_5 := Lib.hid (own_below X0_4.out hb)
        have B5 := Lib.hid (Below.transB B4.out (Nat.le_refl _) hb)
        clear hb X0_4 B4
        have T9_5 := Lib.hid ho
        clear ho
        go_wp2_with fail
        refine (eqSpanS_same l _ _ _ _ _ (Rd.of_own X0_5.out) (Rd.of_own T9_5.out) hl0).mono ?_
        rintro e w6 ⟨rfl, hb⟩
        have X0_6 := Lib.hid (own_below X0_5.out hb)
        have T9_6 := Lib.hid (own_below T9_5.out hb)
        have B6 := Lib.hid (Below.transB B5.out (Nat.le_refl _) hb)
        clear hb X0_5 T9_5 B5
        clear T9_6
        go_wp2
        go_ret
        exact ⟨rfl, B6.out⟩
      · go_enter Tryd.func5, Tryd.ntmps5
        go_wp2_with fail
        refine (szSpanS_no _ _ _ _ _ (by omega) hm0 (by omega)).mono ?_
        rintro e w1 ⟨rfl, rfl⟩
        go_wp2
        go_ret
        exact ⟨rfl, by go_grown⟩
    · go_enter Tryd.func5, Tryd.ntmps5
      go_wp2
      go_ret
      exact ⟨rfl, by go_grown⟩
  · go_enter Tryd.func5, Tryd.ntmps5
    go_wp2
    go_ret
    exact ⟨rfl, by go_grown⟩

end Go.Proofs.YtllnnkiehckegaaDoor
