/-
  The law HideWord. Written by mklaw.py.
  Conditions: those written at each theorem.
-/
import Derived.Test.YtllnnkiehckegaaDoorQ15h
namespace Go.Proofs.YtllnnkiehckegaaDoor
open Go.RowKit Go.BigFrame
set_option maxRecDepth 100000

set_option maxHeartbeats 1000000 in
theorem walkHideWord {w : World} (t : ByteArray) (ht : t.size ≤ 9223372036854775807) (v0 : Value) (hv0 : InSpanS w v0) (d : ByteArray) (hd : d.size ≤ 9223372036854775807) (r : Int) (_ : I64 r) :
    Calls Tryd.prog 6 #[.string t, v0, .string d, .int .i64 r] w fun e w' => e = .returned (.bool true) ∧ Below w.heap.size w w' := by
  obtain ⟨A0, c0, l, rfl, hr0, hbd0, hm0⟩ := hv0
  by_cases hl_t : t.size ≤ 1048576
  · by_cases hl_d : d.size ≤ 1048576
    · by_cases hl0 : l.length ≤ 1048576
      · have hout : (hwOut t l d r).length ≤ 1048576 := len_hw t l d r
        have HS := fun (W : World) (g0 c0 : Nat) r0 => Lib.hid (specHideWord_any t l d r (some ⟨g0, 0, none⟩) c0 (fun h => by cases h) hl_t hl_d hl0 W r0)
        have HI := fun (W : World) (g0 c0 : Nat) r0 => Lib.hid (implHideWord_any t l d r (some ⟨g0, 0, none⟩) c0 (fun h => by cases h) hl_t hl_d hl0 W r0)
        generalize hwOut t l d r = out at HS HI hout
        generalize hwOk t l d r = q at HS HI
        have HR0 := Lib.hid hr0
        clear hr0 hbd0
        go_enter Tryd.func6, Tryd.ntmps6
        go_wp2_with fail
        have B0 := Lib.hid (Below.refl w.heap.size w)
        refine (szSpanS_ok _ _ _ _ _ (by omega) (by omega)).mono ?_
        rintro e w1 ⟨rfl, rfl⟩
        go_wp2_with fail
        refine (toSpanS_any l A0 c0 _ (HR0.out.below B0.out) hl0).mono ?_
        rintro e w1 ⟨g1, rfl, ho, hb⟩
        have ST0_ := B0.out.size
        have B1 := Lib.hid (Below.transB B0.out (Nat.le_refl _) hb)
        clear hb B0
        have T0_1 := Lib.hid ho
        clear ho
        go_wp2_with fail
        refine (HS _ _ _ (Rd.of_own T0_1.out)).out.mono ?_
        rintro e w2 ⟨_, rfl, ⟨A_s, c_s, rfl, ho⟩, hb⟩
        have SOW := B1.out.size
        have B2 := Lib.hid (Below.transB B1.out (Nat.le_refl _) hb)
        clear hb B1 T0_1
        have OW2 := Lib.hid ho
        clear ho
        go_wp2_with fail
        refine (toSpanS_any l A0 c0 _ (HR0.out.below B2.out) hl0).mono ?_
        rintro e w3 ⟨g3, rfl, ho, hb⟩
        have n1 : (Value.slice A_s out.length c_s).ownBlock = none ∨ (Value.slice A_s out.length c_s).ownBlock ≠ (Value.slice (some ⟨g3, 0, none⟩) l.length l.length).ownBlock := own_ne OW2.out ho (Nat.le_refl _)
        have n2 : (Value.slice (some ⟨g3, 0, none⟩) l.length l.length).ownBlock = none ∨ (Value.slice (some ⟨g3, 0, none⟩) l.length l.length).ownBlock ≠ (Value.slice A_s out.length c_s).ownBlock := own_ne' OW2.out ho (Nat.le_refl _)
        have NE_OW_X0_ := Lib.hid n1
        have NE_X0__OW := Lib.hid n2
        clear n1 n2
        have SX0_ := B2.out.size
        have OW3 := Lib.hid (own_below OW2.out hb)
        have B3 := Lib.hid (Below.transB B2.out (Nat.le_refl _) hb)
        clear hb OW2 B2
        have X0_3 := Lib.hid ho
        clear ho
        go_wp2_with fail
        refine (HI _ _ _ (Rd.of_own X0_3.out)).out.mono ?_
        rintro e w4 ⟨_, rfl, ⟨A_i, c_i, rfl, ho⟩, hb⟩
        have n1 : (Value.slice A_s out.length c_s).ownBlock = none ∨ (Value.slice A_s out.length c_s).ownBlock ≠ (Value.slice A_i out.length c_i).ownBlock := own_ne OW3.out ho (Nat.le_refl _)
        have n2 : (Value.slice A_i out.length c_i).ownBlock = none ∨ (Value.slice A_i out.length c_i).ownBlock ≠ (Value.slice A_s out.length c_s).ownBlock := own_ne' OW3.out ho (Nat.le_refl _)
        have NE_OW_OG := Lib.hid n1
        have NE_OG_OW := Lib.hid n2
        clear n1 n2
        have n1 : (Value.slice (some ⟨g3, 0, none⟩) l.length l.length).ownBlock = none ∨ (Value.slice (some ⟨g3, 0, none⟩) l.length l.length).ownBlock ≠ (Value.slice A_i out.length c_i).ownBlock := own_ne X0_3.out ho (Nat.le_refl _)
        have n2 : (Value.slice A_i out.length c_i).ownBlock = none ∨ (Value.slice A_i out.length c_i).ownBlock ≠ (Value.slice (some ⟨g3, 0, none⟩) l.length l.length).ownBlock := own_ne' X0_3.out ho (Nat.le_refl _)
        have NE_X0__OG := Lib.hid n1
        have NE_OG_X0_ := Lib.hid n2
        clear n1 n2
        have SOG := B3.out.size
        have OW4 := Lib.hid (own_below OW3.out hb)
        have X0_4 := Lib.hid (own_below X0_3.out hb)
        have B4 := Lib.hid (Below.transB B3.out (Nat.le_refl _) hb)
        clear hb OW3 X0_3 B3
        have OG4 := Lib.hid ho
        clear ho
        go_wp2_with fail
        refine (eqSpanS_same out _ _ _ _ _ (Rd.of_own OG4.out) (Rd.of_own OW4.out) hout).mono ?_
        rintro e w5 ⟨rfl, hb⟩
        have OW5 := Lib.hid (own_below OW4.out hb)
        have X0_5 := Lib.hid (own_below X0_4.out hb)
        have OG5 := Lib.hid (own_below OG4.out hb)
        have B5 := Lib.hid (Below.transB B4.out (Nat.le_refl _) hb)
        clear hb OW4 X0_4 OG4 B4
        go_wp2_with fail
        refine (toSpanS_any l A0 c0 _ (HR0.out.below B5.out) hl0).mono ?_
        rintro e w6 ⟨g6, rfl, ho, hb⟩
        have ST9_ := B5.out.size
        have OW6 := Lib.hid (own_below OW5.out hb)
        have X0_6 := Lib.hid (own_below X0_5.out hb)
        have OG6 := Lib.hid (own_below OG5.out hb)
        have B6 := Lib.hid (Below.transB B5.out (Nat.le_refl _) hb)
        clear hb OW5 X0_5 OG5 B5
        have T9_6 := Lib.hid ho
        clear ho
        go_wp2_with fail
        refine (eqSpanS_same l _ _ _ _ _ (Rd.of_own X0_6.out) (Rd.of_own T9_6.out) hl0).mono ?_
        rintro e w7 ⟨rfl, hb⟩
        have OW7 := Lib.hid (own_below OW6.out hb)
        have X0_7 := Lib.hid (own_below X0_6.out hb)
        have OG7 := Lib.hid (own_below OG6.out hb)
        have T9_7 := Lib.hid (own_below T9_6.out hb)
        have B7 := Lib.hid (Below.transB B6.out (Nat.le_refl _) hb)
        clear hb OW6 X0_6 OG6 T9_6 B6
        clear T9_7
        go_wp2_with fail
        refine (markSpanS_any _ l.length _ _ _ _ _ X0_7.out (by omega) (by omega)).mono ?_
        rintro e w8 ⟨rfl, ho, hg⟩
        have OW8 := Lib.hid (OW7.out.kept hg NE_OW_X0_.out)
        have OG8 := Lib.hid (OG7.out.kept hg NE_OG_X0_.out)
        have B8 := Lib.hid (Below.row B7.out X0_7.out hg SX0_ B7.out.size)
        have X0_8 := Lib.hid ho
        clear hg ho OW7 X0_7 OG7 B7
        clear X0_8
        go_wp2_with fail
        refine (eqSpanS_same out _ _ _ _ _ (Rd.of_own OG8.out) (Rd.of_own OW8.out) hout).mono ?_
        rintro e w9 ⟨rfl, hb⟩
        have OW9 := Lib.hid (own_below OW8.out hb)
        have OG9 := Lib.hid (own_below OG8.out hb)
        have B9 := Lib.hid (Below.transB B8.out (Nat.le_refl _) hb)
        clear hb OW8 OG8 B8
        go_wp2_with fail
        refine (markSpanS_any _ out.length 1 _ _ _ _ OG9.out (by omega) (by omega)).mono ?_
        rintro e w10 ⟨rfl, ho, hg⟩
        have OW10 := Lib.hid (OW9.out.kept hg NE_OW_OG.out)
        have B10 := Lib.hid (Below.row B9.out OG9.out hg SOG B9.out.size)
        have OG10 := Lib.hid ho
        clear hg ho OW9 OG9 B9
        go_wp2_with fail
        refine (heldSpanS_any out.length 1 _ _ _ (Rd.of_own OG10.out) (by omega) (by omega)).mono ?_
        rintro e wb ⟨rfl, rfl⟩
        go_wp2_with fail
        refine (toSpanS_any l A0 c0 _ (HR0.out.below B10.out) hl0).mono ?_
        rintro e w11 ⟨g11, rfl, ho, hb⟩
        have n1 : (Value.slice A_s out.length c_s).ownBlock = none ∨ (Value.slice A_s out.length c_s).ownBlock ≠ (Value.slice (some ⟨g11, 0, none⟩) l.length l.length).ownBlock := own_ne OW10.out ho (Nat.le_refl _)
        have n2 : (Value.slice (some ⟨g11, 0, none⟩) l.length l.length).ownBlock = none ∨ (Value.slice (some ⟨g11, 0, none⟩) l.length l.length).ownBlock ≠ (Value.slice A_s out.length c_s).ownBlock := own_ne' OW10.out ho (Nat.le_refl _)
        have NE_OW_T0_ := Lib.hid n1
        have NE_T0__OW := Lib.hid n2
        clear n1 n2
        have n1 : (Value.slice A_i out.length c_i).ownBlock = none ∨ (Value.slice A_i out.length c_i).ownBlock ≠ (Value.slice (some ⟨g11, 0, none⟩) l.length l.length).ownBlock := own_ne OG10.out ho (Nat.le_refl _)
        have n2 : (Value.slice (some ⟨g11, 0, none⟩) l.length l.length).ownBlock = none ∨ (Value.slice (some ⟨g11, 0, none⟩) l.length l.length).ownBlock ≠ (Value.slice A_i out.length c_i).ownBlock := own_ne' OG10.out ho (Nat.le_refl _)
        have NE_OG_T0_ := Lib.hid n1
        have NE_T0__OG := Lib.hid n2
        clear n1 n2
        have ST0_ := B10.out.size
        have OW11 := Lib.hid (own_below OW10.out hb)
        have OG11 := Lib.hid (own_below OG10.out hb)
        have B11 := Lib.hid (Below.transB B10.out (Nat.le_refl _) hb)
        clear hb OW10 OG10 B10
        have T0_11 := Lib.hid ho
        clear ho
        go_wp2_with fail
        refine (HI _ _ _ (Rd.of_own T0_11.out)).out.mono ?_
        rintro e w12 ⟨_, rfl, ⟨A_h, c_h, rfl, ho⟩, hb⟩
        have n1 : (Value.slice A_s out.length c_s).ownBlock = none ∨ (Value.slice A_s out.length c_s).ownBlock ≠ (Value.slice A_h out.length c_h).ownBlock := own_ne OW11.out ho (Nat.le_refl _)
        have n2 : (Value.slice A_h out.length c_h).ownBlock = none ∨ (Value.slice A_h out.length c_h).ownBlock ≠ (Value.slice A_s out.length c_s).ownBlock := own_ne' OW11.out ho (Nat.le_refl _)
        have NE_OW_OH := Lib.hid n1
        have NE_OH_OW := Lib.hid n2
        clear n1 n2
        have n1 : (Value.slice A_i out.length c_i).ownBlock = none ∨ (Value.slice A_i out.length c_i).ownBlock ≠ (Value.slice A_h out.length c_h).ownBlock := own_ne OG11.out ho (Nat.le_refl _)
        have n2 : (Value.slice A_h out.length c_h).ownBlock = none ∨ (Value.slice A_h out.length c_h).ownBlock ≠ (Value.slice A_i out.length c_i).ownBlock := own_ne' OG11.out ho (Nat.le_refl _)
        have NE_OG_OH := Lib.hid n1
        have NE_OH_OG := Lib.hid n2
        clear n1 n2
        have SOH := B11.out.size
        have OW12 := Lib.hid (own_below OW11.out hb)
        have OG12 := Lib.hid (own_below OG11.out hb)
        have B12 := Lib.hid (Below.transB B11.out (Nat.le_refl _) hb)
        clear hb OW11 OG11 B11 T0_11
        have OH12 := Lib.hid ho
        clear ho
        go_wp2_with fail
        refine (eqSpanS_same out _ _ _ _ _ (Rd.of_own OH12.out) (Rd.of_own OW12.out) hout).mono ?_
        rintro e w13 ⟨rfl, hb⟩
        have OW13 := Lib.hid (own_below OW12.out hb)
        have OG13 := Lib.hid (own_below OG12.out hb)
        have OH13 := Lib.hid (own_below OH12.out hb)
        have B13 := Lib.hid (Below.transB B12.out (Nat.le_refl _) hb)
        clear hb OW12 OG12 OH12 B12
        go_wp2_with fail
        refine (heldSpanS_any out.length 1 _ _ _ (Rd.of_own OG13.out) (by omega) (by omega)).mono ?_
        rintro e wf ⟨rfl, rfl⟩
        go_wp2
        go_ret
        exact ⟨rfl, B13.out⟩
      · go_enter Tryd.func6, Tryd.ntmps6
        go_wp2_with fail
        refine (szSpanS_no _ _ _ _ _ (by omega) hm0 (by omega)).mono ?_
        rintro e w1 ⟨rfl, rfl⟩
        go_wp2
        go_ret
        exact ⟨rfl, by go_grown⟩
    · go_enter Tryd.func6, Tryd.ntmps6
      go_wp2
      go_ret
      exact ⟨rfl, by go_grown⟩
  · go_enter Tryd.func6, Tryd.ntmps6
    go_wp2
    go_ret
    exact ⟨rfl, by go_grown⟩

end Go.Proofs.YtllnnkiehckegaaDoor
