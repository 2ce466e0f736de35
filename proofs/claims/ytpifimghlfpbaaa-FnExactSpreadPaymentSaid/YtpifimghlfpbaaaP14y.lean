/-
  The law SpreadPayment. Written by mklaw.py.
  Conditions: those written at each theorem.
-/
import Derived.Test.YtpifimghlfpbaaaP14x
namespace Go.Proofs.Ytpifimghlfpbaaa
open Go.RowKit Go.BigFrame
set_option maxRecDepth 100000

set_option maxHeartbeats 1000000 in
theorem walkSpreadPayment {w : World} (t : Tariff) (_ : I64 t.search ∧ I64 t.page ∧ I64 t.free ∧ I64 t.limit) (v0 : Value) (hv0 : InBillS w v0) (cents : Int) (_ : I64 cents) :
    Calls Try.prog 3 #[aggTariff t, v0, .int .i64 cents] w fun e w' => e = .returned (.bool true) ∧ Below w.heap.size w w' := by
  obtain ⟨A0, c0, l, rfl, hr0, hbd0, hm0⟩ := hv0
  by_cases hl0 : l.length ≤ 1048576
  · have hout : (spdOut t l cents).length ≤ 1048576 := len_spd t l cents hl0
    have HS := fun (W : World) (g0 c0 : Nat) r0 => Lib.hid (specSpreadPayment_any t l cents (some ⟨g0, 0, none⟩) c0 (fun h => by cases h) hl0 W r0)
    have HI := fun (W : World) (g0 c0 : Nat) r0 => Lib.hid (implSpreadPayment_any t l cents (some ⟨g0, 0, none⟩) c0 (fun h => by cases h) hl0 W r0)
    generalize spdOut t l cents = out at HS HI hout
    generalize spdRest t l cents = sm at HS HI
    generalize spdOk t l cents = ok at HS HI
    have HR0 := Lib.hid hr0
    clear hr0 hbd0
    unfold aggTariff at *
    go_enter Try.func3, Try.ntmps3
    go_wp2_with fail
    have B0 := Lib.hid (Below.refl w.heap.size w)
    have B90 := Lib.hid (Below.alloc B0.out B0.out.size (.cells #[.int .i64 t.search, .int .i64 t.page, .int .i64 t.free, .int .i64 t.limit] 23))
    have P0_90 := Lib.hid (BXT.new (w) #[.int .i64 t.search, .int .i64 t.page, .int .i64 t.free, .int .i64 t.limit] 23)
    clear B0
    refine (szBillS_ok _ _ _ _ _ (by omega) (by omega)).mono ?_
    rintro e w1 ⟨rfl, rfl⟩
    obtain ⟨P0_c0, P0_c1, P0_c2, P0_c3⟩ := P0_90.out.four
    go_wp2_with fail
    refine (toTariff_any t _).mono ?_
    rintro e w1 ⟨rfl, hb⟩
    have P0_1 := Lib.hid (P0_90.out.below hb)
    have B1 := Lib.hid (Below.transB B90.out (Nat.le_refl _) hb)
    clear hb P0_90 B90 P0_c0 P0_c1 P0_c2 P0_c3
    obtain ⟨P0_c0, P0_c1, P0_c2, P0_c3⟩ := P0_1.out.four
    go_wp2_with fail
    refine (toBillS_any l A0 c0 _ (HR0.out.below B1.out) hl0).mono ?_
    rintro e w2 ⟨g2, rfl, ho, hb⟩
    have ST0_ := B1.out.size
    have P0_2 := Lib.hid (P0_1.out.below hb)
    have B2 := Lib.hid (Below.transB B1.out (Nat.le_refl _) hb)
    clear hb P0_1 B1 P0_c0 P0_c1 P0_c2 P0_c3
    have T0_2 := Lib.hid ho
    clear ho
    obtain ⟨P0_c0, P0_c1, P0_c2, P0_c3⟩ := P0_2.out.four
    go_wp2_with fail
    refine (HS _ _ _ (Rd.of_own T0_2.out)).out.mono ?_
    rintro e w3 ⟨_, rfl, ⟨A_s, c_s, rfl, ho⟩, hb⟩
    have SOW := B2.out.size
    have P0_3 := Lib.hid (P0_2.out.below hb)
    have B3 := Lib.hid (Below.transB B2.out (Nat.le_refl _) hb)
    clear hb P0_2 B2 P0_c0 P0_c1 P0_c2 P0_c3 T0_2
    have OW3 := Lib.hid ho
    clear ho
    obtain ⟨P0_c0, P0_c1, P0_c2, P0_c3⟩ := P0_3.out.four
    go_wp2_with fail
    refine (toBillS_any l A0 c0 _ (HR0.out.below B3.out) hl0).mono ?_
    rintro e w4 ⟨g4, rfl, ho, hb⟩
    have n1 : (Value.slice A_s out.length c_s).ownBlock = none ∨ (Value.slice A_s out.length c_s).ownBlock ≠ (Value.slice (some ⟨g4, 0, none⟩) l.length l.length).ownBlock := own_ne OW3.out ho (Nat.le_refl _)
    have n2 : (Value.slice (some ⟨g4, 0, none⟩) l.length l.length).ownBlock = none ∨ (Value.slice (some ⟨g4, 0, none⟩) l.length l.length).ownBlock ≠ (Value.slice A_s out.length c_s).ownBlock := own_ne' OW3.out ho (Nat.le_refl _)
    have NE_OW_X0_ := Lib.hid n1
    have NE_X0__OW := Lib.hid n2
    clear n1 n2
    have SX0_ := B3.out.size
    have P0_4 := Lib.hid (P0_3.out.below hb)
    have OW4 := Lib.hid (own_below OW3.out hb)
    have B4 := Lib.hid (Below.transB B3.out (Nat.le_refl _) hb)
    clear hb P0_3 OW3 B3 P0_c0 P0_c1 P0_c2 P0_c3
    have X0_4 := Lib.hid ho
    clear ho
    obtain ⟨P0_c0, P0_c1, P0_c2, P0_c3⟩ := P0_4.out.four
    go_wp2_with fail
    refine (toTariff_any t _).mono ?_
    rintro e w5 ⟨rfl, hb⟩
    have P0_5 := Lib.hid (P0_4.out.below hb)
    have OW5 := Lib.hid (own_below OW4.out hb)
    have X0_5 := Lib.hid (own_below X0_4.out hb)
    have B5 := Lib.hid (Below.transB B4.out (Nat.le_refl _) hb)
    clear hb P0_4 OW4 X0_4 B4 P0_c0 P0_c1 P0_c2 P0_c3
    obtain ⟨P0_c0, P0_c1, P0_c2, P0_c3⟩ := P0_5.out.four
    go_wp2_with fail
    refine (HI _ _ _ (Rd.of_own X0_5.out)).out.mono ?_
    rintro e w6 ⟨_, rfl, ⟨A_i, c_i, rfl, ho⟩, hb⟩
    have n1 : (Value.slice A_s out.length c_s).ownBlock = none ∨ (Value.slice A_s out.length c_s).ownBlock ≠ (Value.slice A_i out.length c_i).ownBlock := own_ne OW5.out ho (Nat.le_refl _)
    have n2 : (Value.slice A_i out.length c_i).ownBlock = none ∨ (Value.slice A_i out.length c_i).ownBlock ≠ (Value.slice A_s out.length c_s).ownBlock := own_ne' OW5.out ho (Nat.le_refl _)
    have NE_OW_OG := Lib.hid n1
    have NE_OG_OW := Lib.hid n2
    clear n1 n2
    have n1 : (Value.slice (some ⟨g4, 0, none⟩) l.length l.length).ownBlock = none ∨ (Value.slice (some ⟨g4, 0, none⟩) l.length l.length).ownBlock ≠ (Value.slice A_i out.length c_i).ownBlock := own_ne X0_5.out ho (Nat.le_refl _)
    have n2 : (Value.slice A_i out.length c_i).ownBlock = none ∨ (Value.slice A_i out.length c_i).ownBlock ≠ (Value.slice (some ⟨g4, 0, none⟩) l.length l.length).ownBlock := own_ne' X0_5.out ho (Nat.le_refl _)
    have NE_X0__OG := Lib.hid n1
    have NE_OG_X0_ := Lib.hid n2
    clear n1 n2
    have SOG := B5.out.size
    have P0_6 := Lib.hid (P0_5.out.below hb)
    have OW6 := Lib.hid (own_below OW5.out hb)
    have X0_6 := Lib.hid (own_below X0_5.out hb)
    have B6 := Lib.hid (Below.transB B5.out (Nat.le_refl _) hb)
    clear hb P0_5 OW5 X0_5 B5 P0_c0 P0_c1 P0_c2 P0_c3
    have OG6 := Lib.hid ho
    clear ho
    obtain ⟨P0_c0, P0_c1, P0_c2, P0_c3⟩ := P0_6.out.four
    go_wp2_with fail
    refine (eqBillS_same out _ _ _ _ _ (Rd.of_own OG6.out) (Rd.of_own OW6.out) hout).mono ?_
    rintro e w7 ⟨rfl, hb⟩
    have P0_7 := Lib.hid (P0_6.out.below hb)
    have OW7 := Lib.hid (own_below OW6.out hb)
    have X0_7 := Lib.hid (own_below X0_6.out hb)
    have OG7 := Lib.hid (own_below OG6.out hb)
    have B7 := Lib.hid (Below.transB B6.out (Nat.le_refl _) hb)
    clear hb P0_6 OW6 X0_6 OG6 B6 P0_c0 P0_c1 P0_c2 P0_c3
    obtain ⟨P0_c0, P0_c1, P0_c2, P0_c3⟩ := P0_7.out.four
    go_wp2_with fail
    refine (toBillS_any l A0 c0 _ (HR0.out.below B7.out) hl0).mono ?_
    rintro e w8 ⟨g8, rfl, ho, hb⟩
    have ST9_ := B7.out.size
    have P0_8 := Lib.hid (P0_7.out.below hb)
    have OW8 := Lib.hid (own_below OW7.out hb)
    have X0_8 := Lib.hid (own_below X0_7.out hb)
    have OG8 := Lib.hid (own_below OG7.out hb)
    have B8 := Lib.hid (Below.transB B7.out (Nat.le_refl _) hb)
    clear hb P0_7 OW7 X0_7 OG7 B7 P0_c0 P0_c1 P0_c2 P0_c3
    have T9_8 := Lib.hid ho
    clear ho
    obtain ⟨P0_c0, P0_c1, P0_c2, P0_c3⟩ := P0_8.out.four
    go_wp2_with fail
    refine (eqBillS_same l _ _ _ _ _ (Rd.of_own X0_8.out) (Rd.of_own T9_8.out) hl0).mono ?_
    rintro e w9 ⟨rfl, hb⟩
    have P0_9 := Lib.hid (P0_8.out.below hb)
    have OW9 := Lib.hid (own_below OW8.out hb)
    have X0_9 := Lib.hid (own_below X0_8.out hb)
    have OG9 := Lib.hid (own_below OG8.out hb)
    have T9_9 := Lib.hid (own_below T9_8.out hb)
    have B9 := Lib.hid (Below.transB B8.out (Nat.le_refl _) hb)
    clear hb P0_8 OW8 X0_8 OG8 T9_8 B8 P0_c0 P0_c1 P0_c2 P0_c3
    obtain ⟨P0_c0, P0_c1, P0_c2, P0_c3⟩ := P0_9.out.four
    clear T9_9
    go_wp2_with fail
    refine (markBillS_any _ l.length _ _ _ _ _ X0_9.out (by omega) (by omega)).mono ?_
    rintro e w10 ⟨rfl, ho, hg⟩
    have P0_10 := Lib.hid (P0_9.out.grown hg (P0_9.out.not_own (by decide) X0_9.out))
    have OW10 := Lib.hid (OW9.out.kept hg NE_OW_X0_.out)
    have OG10 := Lib.hid (OG9.out.kept hg NE_OG_X0_.out)
    have B10 := Lib.hid (Below.row B9.out X0_9.out hg SX0_ B9.out.size)
    have X0_10 := Lib.hid ho
    clear hg ho P0_9 OW9 X0_9 OG9 B9 P0_c0 P0_c1 P0_c2 P0_c3
    obtain ⟨P0_c0, P0_c1, P0_c2, P0_c3⟩ := P0_10.out.four
    clear X0_10
    go_wp2_with fail
    refine (eqBillS_same out _ _ _ _ _ (Rd.of_own OG10.out) (Rd.of_own OW10.out) hout).mono ?_
    rintro e w11 ⟨rfl, hb⟩
    have P0_11 := Lib.hid (P0_10.out.below hb)
    have OW11 := Lib.hid (own_below OW10.out hb)
    have OG11 := Lib.hid (own_below OG10.out hb)
    have B11 := Lib.hid (Below.transB B10.out (Nat.le_refl _) hb)
    clear hb P0_10 OW10 OG10 B10 P0_c0 P0_c1 P0_c2 P0_c3
    obtain ⟨P0_c0, P0_c1, P0_c2, P0_c3⟩ := P0_11.out.four
    go_wp2_with fail
    refine (markBillS_any _ out.length 1 _ _ _ _ OG11.out (by omega) (by omega)).mono ?_
    rintro e w12 ⟨rfl, ho, hg⟩
    have P0_12 := Lib.hid (P0_11.out.grown hg (P0_11.out.not_own (by decide) OG11.out))
    have OW12 := Lib.hid (OW11.out.kept hg NE_OW_OG.out)
    have B12 := Lib.hid (Below.row B11.out OG11.out hg SOG B11.out.size)
    have OG12 := Lib.hid ho
    clear hg ho P0_11 OW11 OG11 B11 P0_c0 P0_c1 P0_c2 P0_c3
    obtain ⟨P0_c0, P0_c1, P0_c2, P0_c3⟩ := P0_12.out.four
    go_wp2_with fail
    refine (heldBillS_any out.length 1 _ _ _ (Rd.of_own OG12.out) (by omega) (by omega)).mono ?_
    rintro e wb ⟨rfl, rfl⟩
    go_wp2_with fail
    refine (toTariff_any t _).mono ?_
    rintro e w13 ⟨rfl, hb⟩
    have P0_13 := Lib.hid (P0_12.out.below hb)
    have OW13 := Lib.hid (own_below OW12.out hb)
    have OG13 := Lib.hid (own_below OG12.out hb)
    have B13 := Lib.hid (Below.transB B12.out (Nat.le_refl _) hb)
    clear hb P0_12 OW12 OG12 B12 P0_c0 P0_c1 P0_c2 P0_c3
    obtain ⟨P0_c0, P0_c1, P0_c2, P0_c3⟩ := P0_13.out.four
    go_wp2_with fail
    refine (toBillS_any l A0 c0 _ (HR0.out.below B13.out) hl0).mono ?_
    rintro e w14 ⟨g14, rfl, ho, hb⟩
    have n1 : (Value.slice A_s out.length c_s).ownBlock = none ∨ (Value.slice A_s out.length c_s).ownBlock ≠ (Value.slice (some ⟨g14, 0, none⟩) l.length l.length).ownBlock := own_ne OW13.out ho (Nat.le_refl _)
    have n2 : (Value.slice (some ⟨g14, 0, none⟩) l.length l.length).ownBlock = none ∨ (Value.slice (some ⟨g14, 0, none⟩) l.length l.length).ownBlock ≠ (Value.slice A_s out.length c_s).ownBlock := own_ne' OW13.out ho (Nat.le_refl _)
    have NE_OW_T0_ := Lib.hid n1
    have NE_T0__OW := Lib.hid n2
    clear n1 n2
    have n1 : (Value.slice A_i out.length c_i).ownBlock = none ∨ (Value.slice A_i out.length c_i).ownBlock ≠ (Value.slice (some ⟨g14, 0, none⟩) l.length l.length).ownBlock := own_ne OG13.out ho (Nat.le_refl _)
    have n2 : (Value.slice (some ⟨g14, 0, none⟩) l.length l.length).ownBlock = none ∨ (Value.slice (some ⟨g14, 0, none⟩) l.length l.length).ownBlock ≠ (Value.slice A_i out.length c_i).ownBlock := own_ne' OG13.out ho (Nat.le_refl _)
    have NE_OG_T0_ := Lib.hid n1
    have NE_T0__OG := Lib.hid n2
    clear n1 n2
    have ST0_ := B13.out.size
    have P0_14 := Lib.hid (P0_13.out.below hb)
    have OW14 := Lib.hid (own_below OW13.out hb)
    have OG14 := Lib.hid (own_below OG13.out hb)
    have B14 := Lib.hid (Below.transB B13.out (Nat.le_refl _) hb)
    clear hb P0_13 OW13 OG13 B13 P0_c0 P0_c1 P0_c2 P0_c3
    have T0_14 := Lib.hid ho
    clear ho
    obtain ⟨P0_c0, P0_c1, P0_c2, P0_c3⟩ := P0_14.out.four
    go_wp2_with fail
    refine (HI _ _ _ (Rd.of_own T0_14.out)).out.mono ?_
    rintro e w15 ⟨_, rfl, ⟨A_h, c_h, rfl, ho⟩, hb⟩
    have n1 : (Value.slice A_s out.length c_s).ownBlock = none ∨ (Value.slice A_s out.length c_s).ownBlock ≠ (Value.slice A_h out.length c_h).ownBlock := own_ne OW14.out ho (Nat.le_refl _)
    have n2 : (Value.slice A_h out.length c_h).ownBlock = none ∨ (Value.slice A_h out.length c_h).ownBlock ≠ (Value.slice A_s out.length c_s).ownBlock := own_ne' OW14.out ho (Nat.le_refl _)
    have NE_OW_OH := Lib.hid n1
    have NE_OH_OW := Lib.hid n2
    clear n1 n2
    have n1 : (Value.slice A_i out.length c_i).ownBlock = none ∨ (Value.slice A_i out.length c_i).ownBlock ≠ (Value.slice A_h out.length c_h).ownBlock := own_ne OG14.out ho (Nat.le_refl _)
    have n2 : (Value.slice A_h out.length c_h).ownBlock = none ∨ (Value.slice A_h out.length c_h).ownBlock ≠ (Value.slice A_i out.length c_i).ownBlock := own_ne' OG14.out ho (Nat.le_refl _)
    have NE_OG_OH := Lib.hid n1
    have NE_OH_OG := Lib.hid n2
    clear n1 n2
    have SOH := B14.out.size
    have P0_15 := Lib.hid (P0_14.out.below hb)
    have OW15 := Lib.hid (own_below OW14.out hb)
    have OG15 := Lib.hid (own_below OG14.out hb)
    have B15 := Lib.hid (Below.transB B14.out (Nat.le_refl _) hb)
    clear hb P0_14 OW14 OG14 B14 P0_c0 P0_c1 P0_c2 P0_c3 T0_14
    have OH15 := Lib.hid ho
    clear ho
    obtain ⟨P0_c0, P0_c1, P0_c2, P0_c3⟩ := P0_15.out.four
    go_wp2_with fail
    refine (eqBillS_same out _ _ _ _ _ (Rd.of_own OH15.out) (Rd.of_own OW15.out) hout).mono ?_
    rintro e w16 ⟨rfl, hb⟩
    have P0_16 := Lib.hid (P0_15.out.below hb)
    have OW16 := Lib.hid (own_below OW15.out hb)
    have OG16 := Lib.hid (own_below OG15.out hb)
    have OH16 := Lib.hid (own_below OH15.out hb)
    have B16 := Lib.hid (Below.transB B15.out (Nat.le_refl _) hb)
    clear hb P0_15 OW15 OG15 OH15 B15 P0_c0 P0_c1 P0_c2 P0_c3
    obtain ⟨P0_c0, P0_c1, P0_c2, P0_c3⟩ := P0_16.out.four
    go_wp2_with fail
    refine (heldBillS_any out.length 1 _ _ _ (Rd.of_own OG16.out) (by omega) (by omega)).mono ?_
    rintro e wf ⟨rfl, rfl⟩
    go_wp2
    go_ret
    exact ⟨rfl, B16.out⟩
  · unfold aggTariff at *
    go_enter Try.func3, Try.ntmps3
    go_wp2_with fail
    refine (szBillS_no _ _ _ _ _ (by omega) hm0 (by omega)).mono ?_
    rintro e w1 ⟨rfl, rfl⟩
    go_wp2
    go_ret
    exact ⟨rfl, by go_grown⟩

end Go.Proofs.Ytpifimghlfpbaaa
