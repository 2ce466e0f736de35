/-
  The walk of the law NotSampled. Written by mklaw.py.
  Conditions: those written at each theorem.
-/
import Derived.Test.YtnhcghlhicignaaP12n
import Derived.Test.YtnhcghlhicignaaBx
namespace Go.Proofs.Ytnhcghlhicignaa
open Go.RowKit Go.BigFrame
set_option maxRecDepth 100000

set_option maxHeartbeats 1000000 in
theorem walkNotSampled {w : World} (v0 : Value) (hv0 : InI w v0) (v1 : Value) (hv1 : InI w v1) :
    Calls Try.prog 8 #[v0, v1] w fun e w' => e = .returned (.bool true) ∧ Below w.heap.size w w' := by
  obtain ⟨A0, c0, l, rfl, hr0, hbd0, hm0⟩ := hv0
  obtain ⟨A1, c1, s, rfl, hr1, hbd1, hm1⟩ := hv1
  by_cases hl0 : l.length ≤ 1048576
  · by_cases hl1 : s.length ≤ 1048576
    · have hout : (nsOut l s).length ≤ 1048576 := ns_len l s hl0
      have HS := fun (W : World) (g0 c0 : Nat) (g1 c1 : Nat) r0 r1 => Lib.hid (specNotSampled_any l s (some ⟨g0, 0, none⟩) (some ⟨g1, 0, none⟩) c0 c1 (by omega) (by omega) W r0 r1)
      have HI := fun (W : World) (g0 c0 : Nat) (g1 c1 : Nat) r0 r1 => Lib.hid (implNotSampled_any l s ⟨g0, 0, none⟩ ⟨g1, 0, none⟩ c0 c1 (by omega) (by omega) W r0 r1)
      generalize nsOut l s = out at HS HI hout
      generalize nsOk l s = ok at HS HI
      have HR0 := Lib.hid hr0
      have HR1 := Lib.hid hr1
      clear hr0 hbd0 hr1 hbd1
      go_enter Try.func8, Try.ntmps8
      go_wp2_with fail
      have B0 := Lib.hid (Below.refl w.heap.size w)
      refine (toIntS_any l A0 c0 _ (HR0.out.below B0.out) hl0).mono ?_
      rintro e w1 ⟨g1, rfl, ho, hb⟩
      have ST0_ := B0.out.size
      have B1 := Lib.hid (Below.transB B0.out (Nat.le_refl _) hb)
      clear hb B0
      have T0_1 := Lib.hid ho
      clear ho
      go_wp2_with fail
      refine (toIntS_any s A1 c1 _ (HR1.out.below B1.out) hl1).mono ?_
      rintro e w2 ⟨g2, rfl, ho, hb⟩
      have n1 : (Value.slice (some ⟨g1, 0, none⟩) l.length l.length).ownBlock = none ∨ (Value.slice (some ⟨g1, 0, none⟩) l.length l.length).ownBlock ≠ (Value.slice (some ⟨g2, 0, none⟩) s.length s.length).ownBlock := own_ne T0_1.out ho (Nat.le_refl _)
      have n2 : (Value.slice (some ⟨g2, 0, none⟩) s.length s.length).ownBlock = none ∨ (Value.slice (some ⟨g2, 0, none⟩) s.length s.length).ownBlock ≠ (Value.slice (some ⟨g1, 0, none⟩) l.length l.length).ownBlock := own_ne' T0_1.out ho (Nat.le_refl _)
      have NE_T0__T1_ := Lib.hid n1
      have NE_T1__T0_ := Lib.hid n2
      clear n1 n2
      have ST1_ := B1.out.size
      have T0_2 := Lib.hid (own_below T0_1.out hb)
      have B2 := Lib.hid (Below.transB B1.out (Nat.le_refl _) hb)
      clear hb T0_1 B1
      have T1_2 := Lib.hid ho
      clear ho
      go_wp2_with fail
      refine (HS _ _ _ _ _ (Rd.of_own T0_2.out) (Rd.of_own T1_2.out)).out.mono ?_
      rintro e w3 ⟨_, rfl, ⟨A_s, c_s, rfl, ho⟩, hb⟩
      have SOW := B2.out.size
      have B3 := Lib.hid (Below.transB B2.out (Nat.le_refl _) hb)
      clear hb B2 T0_2 T1_2
      have OW3 := Lib.hid ho
      clear ho
      go_wp2_with fail
      refine (toIntS_any l A0 c0 _ (HR0.out.below B3.out) hl0).mono ?_
      rintro e w4 ⟨g4, rfl, ho, hb⟩
      have n1 : (Value.slice A_s out.length c_s).ownBlock = none ∨ (Value.slice A_s out.length c_s).ownBlock ≠ (Value.slice (some ⟨g4, 0, none⟩) l.length l.length).ownBlock := own_ne OW3.out ho (Nat.le_refl _)
      have n2 : (Value.slice (some ⟨g4, 0, none⟩) l.length l.length).ownBlock = none ∨ (Value.slice (some ⟨g4, 0, none⟩) l.length l.length).ownBlock ≠ (Value.slice A_s out.length c_s).ownBlock := own_ne' OW3.out ho (Nat.le_refl _)
      have NE_OW_X0_ := Lib.hid n1
      have NE_X0__OW := Lib.hid n2
      clear n1 n2
      have SX0_ := B3.out.size
      have OW4 := Lib.hid (own_below OW3.out hb)
      have B4 := Lib.hid (Below.transB B3.out (Nat.le_refl _) hb)
      clear hb OW3 B3
      have X0_4 := Lib.hid ho
      clear ho
      go_wp2_with fail
      refine (toIntS_any s A1 c1 _ (HR1.out.below B4.out) hl1).mono ?_
      rintro e w5 ⟨g5, rfl, ho, hb⟩
      have n1 : (Value.slice A_s out.length c_s).ownBlock = none ∨ (Value.slice A_s out.length c_s).ownBlock ≠ (Value.slice (some ⟨g5, 0, none⟩) s.length s.length).ownBlock := own_ne OW4.out ho (Nat.le_refl _)
      have n2 : (Value.slice (some ⟨g5, 0, none⟩) s.length s.length).ownBlock = none ∨ (Value.slice (some ⟨g5, 0, none⟩) s.length s.length).ownBlock ≠ (Value.slice A_s out.length c_s).ownBlock := own_ne' OW4.out ho (Nat.le_refl _)
      have NE_OW_X1_ := Lib.hid n1
      have NE_X1__OW := Lib.hid n2
      clear n1 n2
      have n1 : (Value.slice (some ⟨g4, 0, none⟩) l.length l.length).ownBlock = none ∨ (Value.slice (some ⟨g4, 0, none⟩) l.length l.length).ownBlock ≠ (Value.slice (some ⟨g5, 0, none⟩) s.length s.length).ownBlock := own_ne X0_4.out ho (Nat.le_refl _)
      have n2 : (Value.slice (some ⟨g5, 0, none⟩) s.length s.length).ownBlock = none ∨ (Value.slice (some ⟨g5, 0, none⟩) s.length s.length).ownBlock ≠ (Value.slice (some ⟨g4, 0, none⟩) l.length l.length).ownBlock := own_ne' X0_4.out ho (Nat.le_refl _)
      have NE_X0__X1_ := Lib.hid n1
      have NE_X1__X0_ := Lib.hid n2
      clear n1 n2
      have SX1_ := B4.out.size
      have OW5 := Lib.hid (own_below OW4.out hb)
      have X0_5 := Lib.hid (own_below X0_4.out hb)
      have B5 := Lib.hid (Below.transB B4.out (Nat.le_refl _) hb)
      clear hb OW4 X0_4 B4
      have X1_5 := Lib.hid ho
      clear ho
      go_wp2_with fail
      refine (HI _ _ _ _ _ (Rd.of_own X0_5.out) (Rd.of_own X1_5.out)).out.mono ?_
      rintro e w6 ⟨_, rfl, ⟨A_i, c_i, rfl, ho⟩, hb⟩
      have n1 : (Value.slice A_s out.length c_s).ownBlock = none ∨ (Value.slice A_s out.length c_s).ownBlock ≠ (Value.slice A_i out.length c_i).ownBlock := own_ne OW5.out ho (Nat.le_refl _)
      have n2 : (Value.slice A_i out.length c_i).ownBlock = none ∨ (Value.slice A_i out.length c_i).ownBlock ≠ (Value.slice A_s out.length c_s).ownBlock := own_ne' OW5.out ho (Nat.le_refl _)
      have NE_OW_OG := Lib.hid n1
      have NE_OG_OW := Lib.hid n2
      clear n1 n2
      have n1 : (Value.slice (some ⟨g4, 0, none⟩) l.length l.length).ownBlock = none ∨ (Value.slice (some ⟨g4, 0, none⟩) l.length l.length).ownBlock ≠ (Value.slice A_i out.length c_i).ownBlock := own_ne X0_5.out ho (Nat.le_refl _)
      have n2 : (Value.slice A_i out.length c_i).ownBlock = none ∨ (Value.slice A_i out.length c_i).ownBlock ≠ (Value.slice (some ⟨g4, 0, none⟩) l.length l.length).ownBlock := own_ne' X0_5.out ho (Nat.le_refl _)
      have NE_X0__OG := Lib.hid n1
      have NE_OG_X0_ := Lib.hid n2
      clear n1 n2
      have n1 : (Value.slice (some ⟨g5, 0, none⟩) s.length s.length).ownBlock = none ∨ (Value.slice (some ⟨g5, 0, none⟩) s.length s.length).ownBlock ≠ (Value.slice A_i out.length c_i).ownBlock := own_ne X1_5.out ho (Nat.le_refl _)
      have n2 : (Value.slice A_i out.length c_i).ownBlock = none ∨ (Value.slice A_i out.length c_i).ownBlock ≠ (Value.slice (some ⟨g5, 0, none⟩) s.length s.length).ownBlock := own_ne' X1_5.out ho (Nat.le_refl _)
      have NE_X1__OG := Lib.hid n1
      have NE_OG_X1_ := Lib.hid n2
      clear n1 n2
      have SOG := B5.out.size
      have OW6 := Lib.hid (own_below OW5.out hb)
      have X0_6 := Lib.hid (own_below X0_5.out hb)
      have X1_6 := Lib.hid (own_below X1_5.out hb)
      have B6 := Lib.hid (Below.transB B5.out (Nat.le_refl _) hb)
      clear hb OW5 X0_5 X1_5 B5
      have OG6 := Lib.hid ho
      clear ho
      go_wp2_with fail
      refine (eqIntS_same out _ _ _ _ _ (Rd.of_own OG6.out) (Rd.of_own OW6.out) hout).mono ?_
      rintro e w7 ⟨rfl, hb⟩
      have OW7 := Lib.hid (own_below OW6.out hb)
      have X0_7 := Lib.hid (own_below X0_6.out hb)
      have X1_7 := Lib.hid (own_below X1_6.out hb)
      have OG7 := Lib.hid (own_below OG6.out hb)
      have B7 := Lib.hid (Below.transB B6.out (Nat.le_refl _) hb)
      clear hb OW6 X0_6 X1_6 OG6 B6
      go_wp2_with fail
      refine (toIntS_any l A0 c0 _ (HR0.out.below B7.out) hl0).mono ?_
      rintro e w8 ⟨g8, rfl, ho, hb⟩
      have ST9_ := B7.out.size
      have OW8 := Lib.hid (own_below OW7.out hb)
      have X0_8 := Lib.hid (own_below X0_7.out hb)
      have X1_8 := Lib.hid (own_below X1_7.out hb)
      have OG8 := Lib.hid (own_below OG7.out hb)
      have B8 := Lib.hid (Below.transB B7.out (Nat.le_refl _) hb)
      clear hb OW7 X0_7 X1_7 OG7 B7
      have T9_8 := Lib.hid ho
      clear ho
      go_wp2_with fail
      refine (eqIntS_same l _ _ _ _ _ (Rd.of_own X0_8.out) (Rd.of_own T9_8.out) hl0).mono ?_
      rintro e w9 ⟨rfl, hb⟩
      have OW9 := Lib.hid (own_below OW8.out hb)
      have X0_9 := Lib.hid (own_below X0_8.out hb)
      have X1_9 := Lib.hid (own_below X1_8.out hb)
      have OG9 := Lib.hid (own_below OG8.out hb)
      have T9_9 := Lib.hid (own_below T9_8.out hb)
      have B9 := Lib.hid (Below.transB B8.out (Nat.le_refl _) hb)
      clear hb OW8 X0_8 X1_8 OG8 T9_8 B8
      clear T9_9
      go_wp2_with fail
      refine (toIntS_any s A1 c1 _ (HR1.out.below B9.out) hl1).mono ?_
      rintro e w10 ⟨g10, rfl, ho, hb⟩
      have ST9_ := B9.out.size
      have OW10 := Lib.hid (own_below OW9.out hb)
      have X0_10 := Lib.hid (own_below X0_9.out hb)
      have X1_10 := Lib.hid (own_below X1_9.out hb)
      have OG10 := Lib.hid (own_below OG9.out hb)
      have B10 := Lib.hid (Below.transB B9.out (Nat.le_refl _) hb)
      clear hb OW9 X0_9 X1_9 OG9 B9
      have T9_10 := Lib.hid ho
      clear ho
      go_wp2_with fail
      refine (eqIntS_same s _ _ _ _ _ (Rd.of_own X1_10.out) (Rd.of_own T9_10.out) hl1).mono ?_
      rintro e w11 ⟨rfl, hb⟩
      have OW11 := Lib.hid (own_below OW10.out hb)
      have X0_11 := Lib.hid (own_below X0_10.out hb)
      have X1_11 := Lib.hid (own_below X1_10.out hb)
      have OG11 := Lib.hid (own_below OG10.out hb)
      have T9_11 := Lib.hid (own_below T9_10.out hb)
      have B11 := Lib.hid (Below.transB B10.out (Nat.le_refl _) hb)
      clear hb OW10 X0_10 X1_10 OG10 T9_10 B10
      clear T9_11
      go_wp2_with fail
      refine (markIntS_any _ l.length _ _ _ _ _ X0_11.out (by omega) (by omega)).mono ?_
      rintro e w12 ⟨rfl, ho, hg⟩
      have OW12 := Lib.hid (OW11.out.kept hg NE_OW_X0_.out)
      have X1_12 := Lib.hid (X1_11.out.kept hg NE_X1__X0_.out)
      have OG12 := Lib.hid (OG11.out.kept hg NE_OG_X0_.out)
      have B12 := Lib.hid (Below.row B11.out X0_11.out hg SX0_ B11.out.size)
      have X0_12 := Lib.hid ho
      clear hg ho OW11 X0_11 X1_11 OG11 B11
      go_wp2_with fail
      refine (markIntS_any _ s.length _ _ _ _ _ X1_12.out (by omega) (by omega)).mono ?_
      rintro e w13 ⟨rfl, ho, hg⟩
      have OW13 := Lib.hid (OW12.out.kept hg NE_OW_X1_.out)
      have X0_13 := Lib.hid (X0_12.out.kept hg NE_X0__X1_.out)
      have OG13 := Lib.hid (OG12.out.kept hg NE_OG_X1_.out)
      have B13 := Lib.hid (Below.row B12.out X1_12.out hg SX1_ B12.out.size)
      have X1_13 := Lib.hid ho
      clear hg ho OW12 X0_12 X1_12 OG12 B12
      clear X0_13
      clear X1_13
      go_wp2_with fail
      refine (eqIntS_same out _ _ _ _ _ (Rd.of_own OG13.out) (Rd.of_own OW13.out) hout).mono ?_
      rintro e w14 ⟨rfl, hb⟩
      have OW14 := Lib.hid (own_below OW13.out hb)
      have OG14 := Lib.hid (own_below OG13.out hb)
      have B14 := Lib.hid (Below.transB B13.out (Nat.le_refl _) hb)
      clear hb OW13 OG13 B13
      go_wp2_with fail
      refine (markIntS_any _ out.length 1 _ _ _ _ OG14.out (by omega) (by omega)).mono ?_
      rintro e w15 ⟨rfl, ho, hg⟩
      have OW15 := Lib.hid (OW14.out.kept hg NE_OW_OG.out)
      have B15 := Lib.hid (Below.row B14.out OG14.out hg SOG B14.out.size)
      have OG15 := Lib.hid ho
      clear hg ho OW14 OG14 B14
      go_wp2_with fail
      refine (heldIntS_any out.length 1 _ _ _ (Rd.of_own OG15.out) (by omega) (by omega)).mono ?_
      rintro e wb ⟨rfl, rfl⟩
      go_wp2_with fail
      refine (toIntS_any l A0 c0 _ (HR0.out.below B15.out) hl0).mono ?_
      rintro e w16 ⟨g16, rfl, ho, hb⟩
      have n1 : (Value.slice A_s out.length c_s).ownBlock = none ∨ (Value.slice A_s out.length c_s).ownBlock ≠ (Value.slice (some ⟨g16, 0, none⟩) l.length l.length).ownBlock := own_ne OW15.out ho (Nat.le_refl _)
      have n2 : (Value.slice (some ⟨g16, 0, none⟩) l.length l.length).ownBlock = none ∨ (Value.slice (some ⟨g16, 0, none⟩) l.length l.length).ownBlock ≠ (Value.slice A_s out.length c_s).ownBlock := own_ne' OW15.out ho (Nat.le_refl _)
      have NE_OW_T0_ := Lib.hid n1
      have NE_T0__OW := Lib.hid n2
      clear n1 n2
      have n1 : (Value.slice A_i out.length c_i).ownBlock = none ∨ (Value.slice A_i out.length c_i).ownBlock ≠ (Value.slice (some ⟨g16, 0, none⟩) l.length l.length).ownBlock := own_ne OG15.out ho (Nat.le_refl _)
      have n2 : (Value.slice (some ⟨g16, 0, none⟩) l.length l.length).ownBlock = none ∨ (Value.slice (some ⟨g16, 0, none⟩) l.length l.length).ownBlock ≠ (Value.slice A_i out.length c_i).ownBlock := own_ne' OG15.out ho (Nat.le_refl _)
      have NE_OG_T0_ := Lib.hid n1
      have NE_T0__OG := Lib.hid n2
      clear n1 n2
      have ST0_ := B15.out.size
      have OW16 := Lib.hid (own_below OW15.out hb)
      have OG16 := Lib.hid (own_below OG15.out hb)
      have B16 := Lib.hid (Below.transB B15.out (Nat.le_refl _) hb)
      clear hb OW15 OG15 B15
      have T0_16 := Lib.hid ho
      clear ho
      go_wp2_with fail
      refine (toIntS_any s A1 c1 _ (HR1.out.below B16.out) hl1).mono ?_
      rintro e w17 ⟨g17, rfl, ho, hb⟩
      have n1 : (Value.slice A_s out.length c_s).ownBlock = none ∨ (Value.slice A_s out.length c_s).ownBlock ≠ (Value.slice (some ⟨g17, 0, none⟩) s.length s.length).ownBlock := own_ne OW16.out ho (Nat.le_refl _)
      have n2 : (Value.slice (some ⟨g17, 0, none⟩) s.length s.length).ownBlock = none ∨ (Value.slice (some ⟨g17, 0, none⟩) s.length s.length).ownBlock ≠ (Value.slice A_s out.length c_s).ownBlock := own_ne' OW16.out ho (Nat.le_refl _)
      have NE_OW_T1_ := Lib.hid n1
      have NE_T1__OW := Lib.hid n2
      clear n1 n2
      have n1 : (Value.slice A_i out.length c_i).ownBlock = none ∨ (Value.slice A_i out.length c_i).ownBlock ≠ (Value.slice (some ⟨g17, 0, none⟩) s.length s.length).ownBlock := own_ne OG16.out ho (Nat.le_refl _)
      have n2 : (Value.slice (some ⟨g17, 0, none⟩) s.length s.length).ownBlock = none ∨ (Value.slice (some ⟨g17, 0, none⟩) s.length s.length).ownBlock ≠ (Value.slice A_i out.length c_i).ownBlock := own_ne' OG16.out ho (Nat.le_refl _)
      have NE_OG_T1_ := Lib.hid n1
      have NE_T1__OG := Lib.hid n2
      clear n1 n2
      have n1 : (Value.slice (some ⟨g16, 0, none⟩) l.length l.length).ownBlock = none ∨ (Value.slice (some ⟨g16, 0, none⟩) l.length l.length).ownBlock ≠ (Value.slice (some ⟨g17, 0, none⟩) s.length s.length).ownBlock := own_ne T0_16.out ho (Nat.le_refl _)
      have n2 : (Value.slice (some ⟨g17, 0, none⟩) s.length s.length).ownBlock = none ∨ (Value.slice (some ⟨g17, 0, none⟩) s.length s.length).ownBlock ≠ (Value.slice (some ⟨g16, 0, none⟩) l.length l.length).ownBlock := own_ne' T0_16.out ho (Nat.le_refl _)
      have NE_T0__T1_ := Lib.hid n1
      have NE_T1__T0_ := Lib.hid n2
      clear n1 n2
      have ST1_ := B16.out.size
      have OW17 := Lib.hid (own_below OW16.out hb)
      have OG17 := Lib.hid (own_below OG16.out hb)
      have T0_17 := Lib.hid (own_below T0_16.out hb)
      have B17 := Lib.hid (Below.transB B16.out (Nat.le_refl _) hb)
      clear hb OW16 OG16 T0_16 B16
      have T1_17 := Lib.hid ho
      clear ho
      go_wp2_with fail
      refine (HI _ _ _ _ _ (Rd.of_own T0_17.out) (Rd.of_own T1_17.out)).out.mono ?_
      rintro e w18 ⟨_, rfl, ⟨A_h, c_h, rfl, ho⟩, hb⟩
      have n1 : (Value.slice A_s out.length c_s).ownBlock = none ∨ (Value.slice A_s out.length c_s).ownBlock ≠ (Value.slice A_h out.length c_h).ownBlock := own_ne OW17.out ho (Nat.le_refl _)
      have n2 : (Value.slice A_h out.length c_h).ownBlock = none ∨ (Value.slice A_h out.length c_h).ownBlock ≠ (Value.slice A_s out.length c_s).ownBlock := own_ne' OW17.out ho (Nat.le_refl _)
      have NE_OW_OH := Lib.hid n1
      have NE_OH_OW := Lib.hid n2
      clear n1 n2
      have n1 : (Value.slice A_i out.length c_i).ownBlock = none ∨ (Value.slice A_i out.length c_i).ownBlock ≠ (Value.slice A_h out.length c_h).ownBlock := own_ne OG17.out ho (Nat.le_refl _)
      have n2 : (Value.slice A_h out.length c_h).ownBlock = none ∨ (Value.slice A_h out.length c_h).ownBlock ≠ (Value.slice A_i out.length c_i).ownBlock := own_ne' OG17.out ho (Nat.le_refl _)
      have NE_OG_OH := Lib.hid n1
      have NE_OH_OG := Lib.hid n2
      clear n1 n2
      have SOH := B17.out.size
      have OW18 := Lib.hid (own_below OW17.out hb)
      have OG18 := Lib.hid (own_below OG17.out hb)
      have B18 := Lib.hid (Below.transB B17.out (Nat.le_refl _) hb)
      clear hb OW17 OG17 B17 T0_17 T1_17
      have OH18 := Lib.hid ho
      clear ho
      go_wp2_with fail
      refine (eqIntS_same out _ _ _ _ _ (Rd.of_own OH18.out) (Rd.of_own OW18.out) hout).mono ?_
      rintro e w19 ⟨rfl, hb⟩
      have OW19 := Lib.hid (own_below OW18.out hb)
      have OG19 := Lib.hid (own_below OG18.out hb)
      have OH19 := Lib.hid (own_below OH18.out hb)
      have B19 := Lib.hid (Below.transB B18.out (Nat.le_refl _) hb)
      clear hb OW18 OG18 OH18 B18
      go_wp2_with fail
      refine (heldIntS_any out.length 1 _ _ _ (Rd.of_own OG19.out) (by omega) (by omega)).mono ?_
      rintro e wf ⟨rfl, rfl⟩
      go_wp2
      go_ret
      exact ⟨rfl, B19.out⟩
    · go_enter Try.func8, Try.ntmps8
      go_wp2
      go_ret
      exact ⟨rfl, by go_grown⟩
  · go_enter Try.func8, Try.ntmps8
    go_wp2
    go_ret
    exact ⟨rfl, by go_grown⟩

end Go.Proofs.Ytnhcghlhicignaa
