/-
  The law RootOf. Written by mklaw.py.
  Conditions: those written at each theorem.
-/
import Derived.Test.YtcajnbjonilljaaDoorP16v
namespace Go.Proofs.YtcajnbjonilljaaDoor
open Go.RowKit Go.BigFrame
set_option maxRecDepth 100000

set_option maxHeartbeats 1000000 in
theorem walkRootOf {w : World} (v0 : Value) (hv0 : InS w v0) (hT : TabP w) :
    Calls Tryd.prog 3 #[v0] w fun e w' => e = .returned (.bool true) ∧ Below w.heap.size w w' := by
  obtain ⟨A0, c0, l, rfl, hr0, hbd0, hm0⟩ := hv0
  by_cases hl0 : szS l ≤ 1048576
  · have hl0n : l.length ≤ 1048576 := szS_len hl0
    have hl0m : ∀ y ∈ l, y.size ≤ 1048576 := fun y hy => szS_mem hl0 hy
    have HS := fun (W : World) (g0 c0 : Nat) r0 => Lib.hid (specRootOf_any l (some ⟨g0, 0, none⟩) c0 (by omega) hl0m W r0)
    have HI := fun (W : World) (g0 c0 : Nat) r0 (tabW : TabP W) => Lib.hid (implRootOf_any l (some ⟨g0, 0, none⟩) c0 (by omega) hl0m W r0 tabW)
    have HTab := Lib.hid hT
    clear hT
    obtain ⟨xa, ya, hx⟩ := rtAns_form l
    simp only [hx] at HS HI
    clear hx
    have HR0 := Lib.hid hr0
    clear hr0 hbd0
    go_enter Tryd.func3, Tryd.ntmps3
    go_wp2_with fail
    have B0 := Lib.hid (Below.refl w.heap.size w)
    refine (szStringS_ok l _ _ _ _ (by omega) (by omega) (HR0.out.below B0.out)).mono ?_
    rintro e w1 ⟨rfl, rfl⟩
    go_wp2_with fail
    refine (toStringS_any l A0 c0 _ (HR0.out.below B0.out) hl0n).mono ?_
    rintro e w1 ⟨g1, rfl, ho, hb⟩
    have ST0_ := B0.out.size
    have B1 := Lib.hid (Below.transB B0.out (Nat.le_refl _) hb)
    clear hb B0
    have T0_1 := Lib.hid ho
    clear ho
    go_wp2_with fail
    refine (HS _ _ _ (Rd.of_own T0_1.out)).out.mono ?_
    rintro e w2 ⟨rfl, hb⟩
    have B2 := Lib.hid (Below.transB B1.out (Nat.le_refl _) hb)
    clear hb B1 T0_1
    go_wp2_with fail
    refine (toStringS_any l A0 c0 _ (HR0.out.below B2.out) hl0n).mono ?_
    rintro e w3 ⟨g3, rfl, ho, hb⟩
    have SX0_ := B2.out.size
    have B3 := Lib.hid (Below.transB B2.out (Nat.le_refl _) hb)
    clear hb B2
    have X0_3 := Lib.hid ho
    clear ho
    go_wp2_with fail
    refine (HI _ _ _ (Rd.of_own X0_3.out) (HTab.out.below B3.out)).out.mono ?_
    rintro e w4 ⟨rfl, hb⟩
    have X0_4 := Lib.hid (own_below X0_3.out hb)
    have B4 := Lib.hid (Below.transB B3.out (Nat.le_refl _) hb)
    clear hb X0_3 B3
    go_wp2_with fail
    refine (toStringS_any l A0 c0 _ (HR0.out.below B4.out) hl0n).mono ?_
    rintro e w5 ⟨g5, rfl, ho, hb⟩
    have ST9_ := B4.out.size
    have X0_5 := Lib.hid (own_below X0_4.out hb)
    have B5 := Lib.hid (Below.transB B4.out (Nat.le_refl _) hb)
    clear hb X0_4 B4
    have T9_5 := Lib.hid ho
    clear ho
    go_wp2_with fail
    refine (eqStringS_same l _ _ _ _ _ (Rd.of_own X0_5.out) (Rd.of_own T9_5.out) hl0n).mono ?_
    rintro e w6 ⟨rfl, hb⟩
    have X0_6 := Lib.hid (own_below X0_5.out hb)
    have T9_6 := Lib.hid (own_below T9_5.out hb)
    have B6 := Lib.hid (Below.transB B5.out (Nat.le_refl _) hb)
    clear hb X0_5 T9_5 B5
    clear T9_6
    go_wp2
    go_ret
    exact ⟨rfl, B6.out⟩
  · go_enter Tryd.func3, Tryd.ntmps3
    go_wp2_with fail
    refine (szStringS_no l _ _ _ _ (by omega) hm0 hbd0 (by omega) hr0).mono ?_
    rintro e w1 ⟨rfl, rfl⟩
    go_wp2
    go_ret
    exact ⟨rfl, by go_grown⟩

end Go.Proofs.YtcajnbjonilljaaDoor
