/-
  The law AppendHand. Written by mklaw.py.
  Conditions: those written at each theorem.
-/
import Derived.Test.YtcneipheipneaaaP17j
namespace Go.Proofs.Ytcneipheipneaaa
open Go.RowKit Go.BigFrame
set_option maxRecDepth 100000

set_option maxHeartbeats 1000000 in
theorem walkAppendHand {w : World} (v0 : Value) (hv0 : InHandS w v0) (h : Hand) (_ : I64 h.record ∧ I64 h.giver ∧ I64 h.taker ∧ I64 h.day ∧ I64 h.sum) :
    Calls Try.prog 7 #[v0, aggHand h] w fun e w' => e = .returned (.bool true) ∧ Below w.heap.size w w' := by
  obtain ⟨A0, c0, l, rfl, hr0, hbd0, hm0⟩ := hv0
  by_cases hl0 : l.length ≤ 1048576
  · have hout : (ahOut l h).length ≤ 1048576 := len_ahOut l h
    have HS := fun (W : World) (g0 c0 : Nat) r0 => Lib.hid (specAppendHand_any l h (some ⟨g0, 0, none⟩) c0 (by simp) hl0 W r0)
    have HI := fun (W : World) (g0 c0 : Nat) r0 => Lib.hid (implAppendHand_any l h (some ⟨g0, 0, none⟩) c0 (by simp) hl0 W r0)
    generalize ahOut l h = out at HS HI hout
    generalize custB (l ++ [h]) = ok at HS HI
    have HHand := fun (x : Hand) W => Lib.hid (toHand_any x W)
    have HR0 := Lib.hid hr0
    clear hr0 hbd0
    unfold aggHand at *
    go_enter Try.func7, Try.ntmps7
    go_wp2_with fail
    have B0 := Lib.hid (Below.refl w.heap.size w)
    have B90 := Lib.hid (Below.alloc B0.out B0.out.size (.cells #[.int .i64 h.record, .int .i64 h.giver, .int .i64 h.taker, .int .i64 h.day, .int .i64 h.sum, .bool h.sealed] 23))
    have P0_90 := Lib.hid (BXT.new (w) #[.int .i64 h.record, .int .i64 h.giver, .int .i64 h.taker, .int .i64 h.day, .int .i64 h.sum, .bool h.sealed] 23)
    clear B0
    refine (szHandS_ok _ _ _ _ _ (by omega) (by omega)).mono ?_
    rintro e w1 ⟨rfl, rfl⟩
    obtain ⟨P0_c0, P0_c1, P0_c2, P0_c3, P0_c4, P0_c5⟩ := P0_90.out.six
    go_wp2_with fail
    have P0_q := P0_90
    have Bq := B90
    clear P0_90 B90
    go_region_held3 (fun w' => w'.cell? ⟨w.heap.size, 0, none⟩ = some (.int .i64 h.record) ∧ w'.cell? ⟨w.heap.size, 1, none⟩ = some (.int .i64 h.giver) ∧ w'.cell? ⟨w.heap.size, 2, none⟩ = some (.int .i64 h.taker) ∧ w'.cell? ⟨w.heap.size, 3, none⟩ = some (.int .i64 h.day) ∧ w'.cell? ⟨w.heap.size, 4, none⟩ = some (.int .i64 h.sum) ∧ w'.cell? ⟨w.heap.size, 5, none⟩ = some (.bool h.sealed)) (go_keep)
      (first
        | (go_at_call 14
           refine (toHandS_any l A0 c0 _ (HR0.out.below (by first | exact Bq.out | exact below_D Bq.out)) hl0).mono ?_
           rintro e wr ⟨g0x, rfl, ho, hb⟩
           (try replace hb := below_ofD hb)
           have T0_q := Lib.hid ho
           replace P0_q := Lib.hid (P0_q.out.below hb)
           replace Bq := Lib.hid (Below.transB Bq.out (Nat.le_refl _) hb)
           clear hb ho
           clear P0_c0 P0_c1 P0_c2 P0_c3 P0_c4 P0_c5
           obtain ⟨P0_c0, P0_c1, P0_c2, P0_c3, P0_c4, P0_c5⟩ := P0_q.out.six)
        | (go_at_call 10
           refine (HHand _ _).out.mono ?_
           rintro e wr ⟨rfl, hb⟩
           (try replace hb := below_ofD hb)
           replace P0_q := Lib.hid (P0_q.out.below hb)
           replace T0_q := Lib.hid (own_below T0_q.out hb)
           replace Bq := Lib.hid (Below.transB Bq.out (Nat.le_refl _) hb)
           clear hb
           clear P0_c0 P0_c1 P0_c2 P0_c3 P0_c4 P0_c5
           obtain ⟨P0_c0, P0_c1, P0_c2, P0_c3, P0_c4, P0_c5⟩ := P0_q.out.six)
        | (go_at_call 21
           refine (HS _ _ _ (Rd.of_own T0_q.out)).out.mono ?_
           rintro e wr ⟨_, rfl, ⟨A_s, c_s, rfl, ho⟩, hb⟩
           (try replace hb := below_ofD hb)
           have SOW := Bq.out.size
           replace P0_q := Lib.hid (P0_q.out.below hb)
           replace T0_q := Lib.hid (own_below T0_q.out hb)
           replace Bq := Lib.hid (Below.transB Bq.out (Nat.le_refl _) hb)
           have OWq := Lib.hid ho
           clear ho hb
           clear P0_c0 P0_c1 P0_c2 P0_c3 P0_c4 P0_c5
           obtain ⟨P0_c0, P0_c1, P0_c2, P0_c3, P0_c4, P0_c5⟩ := P0_q.out.six))
    have P0_1 := P0_q
    have OW1 := OWq
    have B1 := Bq
    clear P0_q OWq T0_q Bq
    go_wp2_with fail
    refine (toHandS_any l A0 c0 _ (HR0.out.below B1.out) hl0).mono ?_
    rintro e w2 ⟨g2, rfl, ho, hb⟩
    have n1 : (Value.slice A_s out.length c_s).ownBlock = none ∨ (Value.slice A_s out.length c_s).ownBlock ≠ (Value.slice (some ⟨g2, 0, none⟩) l.length l.length).ownBlock := own_ne OW1.out ho (Nat.le_refl _)
    have n2 : (Value.slice (some ⟨g2, 0, none⟩) l.length l.length).ownBlock = none ∨ (Value.slice (some ⟨g2, 0, none⟩) l.length l.length).ownBlock ≠ (Value.slice A_s out.length c_s).ownBlock := own_ne' OW1.out ho (Nat.le_refl _)
    have NE_OW_X0_ := Lib.hid n1
    have NE_X0__OW := Lib.hid n2
    clear n1 n2
    have SX0_ := B1.out.size
    have P0_2 := Lib.hid (P0_1.out.below hb)
    have OW2 := Lib.hid (own_below OW1.out hb)
    have B2 := Lib.hid (Below.transB B1.out (Nat.le_refl _) hb)
    clear hb P0_1 OW1 B1 P0_c0 P0_c1 P0_c2 P0_c3 P0_c4 P0_c5
    have X0_2 := Lib.hid ho
    clear ho
    obtain ⟨P0_c0, P0_c1, P0_c2, P0_c3, P0_c4, P0_c5⟩ := P0_2.out.six
    go_wp2_with fail
    refine (toHand_any h _).mono ?_
    rintro e w3 ⟨rfl, hb⟩
    have P0_3 := Lib.hid (P0_2.out.below hb)
    have OW3 := Lib.hid (own_below OW2.out hb)
    have X0_3 := Lib.hid (own_below X0_2.out hb)
    have B3 := Lib.hid (Below.transB B2.out (Nat.le_refl _) hb)
    clear hb P0_2 OW2 X0_2 B2 P0_c0 P0_c1 P0_c2 P0_c3 P0_c4 P0_c5
    obtain ⟨P0_c0, P0_c1, P0_c2, P0_c3, P0_c4, P0_c5⟩ := P0_3.out.six
    go_wp2_with fail
    refine (HI _ _ _ (Rd.of_own X0_3.out)).out.mono ?_
    rintro e w4 ⟨_, rfl, ⟨A_i, c_i, rfl, ho⟩, hb⟩
    have n1 : (Value.slice A_s out.length c_s).ownBlock = none ∨ (Value.slice A_s out.length c_s).ownBlock ≠ (Value.slice A_i out.length c_i).ownBlock := own_ne OW3.out ho (Nat.le_refl _)
    have n2 : (Value.slice A_i out.length c_i).ownBlock = none ∨ (Value.slice A_i out.length c_i).ownBlock ≠ (Value.slice A_s out.length c_s).ownBlock := own_ne' OW3.out ho (Nat.le_refl _)
    have NE_OW_OG := Lib.hid n1
    have NE_OG_OW := Lib.hid n2
    clear n1 n2
    have n1 : (Value.slice (some ⟨g2, 0, none⟩) l.length l.length).ownBlock = none ∨ (Value.slice (some ⟨g2, 0, none⟩) l.length l.length).ownBlock ≠ (Value.slice A_i out.length c_i).ownBlock := own_ne X0_3.out ho (Nat.le_refl _)
    have n2 : (Value.slice A_i out.length c_i).ownBlock = none ∨ (Value.slice A_i out.length c_i).ownBlock ≠ (Value.slice (some ⟨g2, 0, none⟩) l.length l.length).ownBlock := own_ne' X0_3.out ho (Nat.le_refl _)
    have NE_X0__OG := Lib.hid n1
    have NE_OG_X0_ := Lib.hid n2
    clear n1 n2
    have SOG := B3.out.size
    have P0_4 := Lib.hid (P0_3.out.below hb)
    have OW4 := Lib.hid (own_below OW3.out hb)
    have X0_4 := Lib.hid (own_below X0_3.out hb)
    have B4 := Lib.hid (Below.transB B3.out (Nat.le_refl _) hb)
    clear hb P0_3 OW3 X0_3 B3 P0_c0 P0_c1 P0_c2 P0_c3 P0_c4 P0_c5
    have OG4 := Lib.hid ho
    clear ho
    obtain ⟨P0_c0, P0_c1, P0_c2, P0_c3, P0_c4, P0_c5⟩ := P0_4.out.six
    go_wp2_with fail
    refine (eqHandS_same out _ _ _ _ _ (Rd.of_own OG4.out) (Rd.of_own OW4.out) hout).mono ?_
    rintro e w5 ⟨rfl, hb⟩
    have P0_5 := Lib.hid (P0_4.out.below hb)
    have OW5 := Lib.hid (own_below OW4.out hb)
    have X0_5 := Lib.hid (own_below X0_4.out hb)
    have OG5 := Lib.hid (own_below OG4.out hb)
    have B5 := Lib.hid (Below.transB B4.out (Nat.le_refl _) hb)
    clear hb P0_4 OW4 X0_4 OG4 B4 P0_c0 P0_c1 P0_c2 P0_c3 P0_c4 P0_c5
    obtain ⟨P0_c0, P0_c1, P0_c2, P0_c3, P0_c4, P0_c5⟩ := P0_5.out.six
    go_wp2_with fail
    refine (toHandS_any l A0 c0 _ (HR0.out.below B5.out) hl0).mono ?_
    rintro e w6 ⟨g6, rfl, ho, hb⟩
    have ST9_ := B5.out.size
    have P0_6 := Lib.hid (P0_5.out.below hb)
    have OW6 := Lib.hid (own_below OW5.out hb)
    have X0_6 := Lib.hid (own_below X0_5.out hb)
    have OG6 := Lib.hid (own_below OG5.out hb)
    have B6 := Lib.hid (Below.transB B5.out (Nat.le_refl _) hb)
    clear hb P0_5 OW5 X0_5 OG5 B5 P0_c0 P0_c1 P0_c2 P0_c3 P0_c4 P0_c5
    have T9_6 := Lib.hid ho
    clear ho
    obtain ⟨P0_c0, P0_c1, P0_c2, P0_c3, P0_c4, P0_c5⟩ := P0_6.out.six
    go_wp2_with fail
    refine (eqHandS_same l _ _ _ _ _ (Rd.of_own X0_6.out) (Rd.of_own T9_6.out) hl0).mono ?_
    rintro e w7 ⟨rfl, hb⟩
    have P0_7 := Lib.hid (P0_6.out.below hb)
    have OW7 := Lib.hid (own_below OW6.out hb)
    have X0_7 := Lib.hid (own_below X0_6.out hb)
    have OG7 := Lib.hid (own_below OG6.out hb)
    have T9_7 := Lib.hid (own_below T9_6.out hb)
    have B7 := Lib.hid (Below.transB B6.out (Nat.le_refl _) hb)
    clear hb P0_6 OW6 X0_6 OG6 T9_6 B6 P0_c0 P0_c1 P0_c2 P0_c3 P0_c4 P0_c5
    obtain ⟨P0_c0, P0_c1, P0_c2, P0_c3, P0_c4, P0_c5⟩ := P0_7.out.six
    clear T9_7
    go_wp2_with fail
    refine (markHandS_any _ l.length _ _ _ _ _ X0_7.out (by omega) (by omega)).mono ?_
    rintro e w8 ⟨rfl, ho, hg⟩
    have P0_8 := Lib.hid (P0_7.out.grown hg (P0_7.out.not_own (by decide) X0_7.out))
    have OW8 := Lib.hid (OW7.out.kept hg NE_OW_X0_.out)
    have OG8 := Lib.hid (OG7.out.kept hg NE_OG_X0_.out)
    have B8 := Lib.hid (Below.row B7.out X0_7.out hg SX0_ B7.out.size)
    have X0_8 := Lib.hid ho
    clear hg ho P0_7 OW7 X0_7 OG7 B7 P0_c0 P0_c1 P0_c2 P0_c3 P0_c4 P0_c5
    obtain ⟨P0_c0, P0_c1, P0_c2, P0_c3, P0_c4, P0_c5⟩ := P0_8.out.six
    clear X0_8
    go_wp2_with fail
    refine (eqHandS_same out _ _ _ _ _ (Rd.of_own OG8.out) (Rd.of_own OW8.out) hout).mono ?_
    rintro e w9 ⟨rfl, hb⟩
    have P0_9 := Lib.hid (P0_8.out.below hb)
    have OW9 := Lib.hid (own_below OW8.out hb)
    have OG9 := Lib.hid (own_below OG8.out hb)
    have B9 := Lib.hid (Below.transB B8.out (Nat.le_refl _) hb)
    clear hb P0_8 OW8 OG8 B8 P0_c0 P0_c1 P0_c2 P0_c3 P0_c4 P0_c5
    obtain ⟨P0_c0, P0_c1, P0_c2, P0_c3, P0_c4, P0_c5⟩ := P0_9.out.six
    go_wp2_with fail
    refine (markHandS_any _ out.length 1 _ _ _ _ OG9.out (by omega) (by omega)).mono ?_
    rintro e w10 ⟨rfl, ho, hg⟩
    have P0_10 := Lib.hid (P0_9.out.grown hg (P0_9.out.not_own (by decide) OG9.out))
    have OW10 := Lib.hid (OW9.out.kept hg NE_OW_OG.out)
    have B10 := Lib.hid (Below.row B9.out OG9.out hg SOG B9.out.size)
    have OG10 := Lib.hid ho
    clear hg ho P0_9 OW9 OG9 B9 P0_c0 P0_c1 P0_c2 P0_c3 P0_c4 P0_c5
    obtain ⟨P0_c0, P0_c1, P0_c2, P0_c3, P0_c4, P0_c5⟩ := P0_10.out.six
    go_wp2_with fail
    refine (heldHandS_any out.length 1 _ _ _ (Rd.of_own OG10.out) (by omega) (by omega)).mono ?_
    rintro e wb ⟨rfl, rfl⟩
    go_wp2_with fail
    have P0_q := P0_10
    have OWq := OW10
    have OGq := OG10
    have Bq := B10
    clear P0_10 OW10 OG10 B10
    go_region_held3 (fun w' => w'.cell? ⟨w.heap.size, 0, none⟩ = some (.int .i64 h.record) ∧ w'.cell? ⟨w.heap.size, 1, none⟩ = some (.int .i64 h.giver) ∧ w'.cell? ⟨w.heap.size, 2, none⟩ = some (.int .i64 h.taker) ∧ w'.cell? ⟨w.heap.size, 3, none⟩ = some (.int .i64 h.day) ∧ w'.cell? ⟨w.heap.size, 4, none⟩ = some (.int .i64 h.sum) ∧ w'.cell? ⟨w.heap.size, 5, none⟩ = some (.bool h.sealed)) (go_keep)
      (first
        | (go_at_call 14
           refine (toHandS_any l A0 c0 _ (HR0.out.below (by first | exact Bq.out | exact below_D Bq.out)) hl0).mono ?_
           rintro e wr ⟨g0x, rfl, ho, hb⟩
           (try replace hb := below_ofD hb)
           have T0_q := Lib.hid ho
           replace P0_q := Lib.hid (P0_q.out.below hb)
           replace OWq := Lib.hid (own_below OWq.out hb)
           replace OGq := Lib.hid (own_below OGq.out hb)
           replace Bq := Lib.hid (Below.transB Bq.out (Nat.le_refl _) hb)
           clear hb ho
           clear P0_c0 P0_c1 P0_c2 P0_c3 P0_c4 P0_c5
           obtain ⟨P0_c0, P0_c1, P0_c2, P0_c3, P0_c4, P0_c5⟩ := P0_q.out.six)
        | (go_at_call 10
           refine (HHand _ _).out.mono ?_
           rintro e wr ⟨rfl, hb⟩
           (try replace hb := below_ofD hb)
           replace P0_q := Lib.hid (P0_q.out.below hb)
           replace OWq := Lib.hid (own_below OWq.out hb)
           replace OGq := Lib.hid (own_below OGq.out hb)
           replace T0_q := Lib.hid (own_below T0_q.out hb)
           replace Bq := Lib.hid (Below.transB Bq.out (Nat.le_refl _) hb)
           clear hb
           clear P0_c0 P0_c1 P0_c2 P0_c3 P0_c4 P0_c5
           obtain ⟨P0_c0, P0_c1, P0_c2, P0_c3, P0_c4, P0_c5⟩ := P0_q.out.six)
        | (go_at_call 22
           refine (HI _ _ _ (Rd.of_own T0_q.out)).out.mono ?_
           rintro e wr ⟨_, rfl, ⟨A_h, c_h, rfl, ho⟩, hb⟩
           (try replace hb := below_ofD hb)
           have n1 : (Value.slice A_s out.length c_s).ownBlock = none ∨ (Value.slice A_s out.length c_s).ownBlock ≠ (Value.slice A_h out.length c_h).ownBlock := own_ne OWq.out ho (Nat.le_refl _)
           have n2 : (Value.slice A_h out.length c_h).ownBlock = none ∨ (Value.slice A_h out.length c_h).ownBlock ≠ (Value.slice A_s out.length c_s).ownBlock := own_ne' OWq.out ho (Nat.le_refl _)
           have NE_OW_OH := Lib.hid n1
           have NE_OH_OW := Lib.hid n2
           clear n1 n2
           have n1 : (Value.slice A_i out.length c_i).ownBlock = none ∨ (Value.slice A_i out.length c_i).ownBlock ≠ (Value.slice A_h out.length c_h).ownBlock := own_ne OGq.out ho (Nat.le_refl _)
           have n2 : (Value.slice A_h out.length c_h).ownBlock = none ∨ (Value.slice A_h out.length c_h).ownBlock ≠ (Value.slice A_i out.length c_i).ownBlock := own_ne' OGq.out ho (Nat.le_refl _)
           have NE_OG_OH := Lib.hid n1
           have NE_OH_OG := Lib.hid n2
           clear n1 n2
           have SOH := Bq.out.size
           replace P0_q := Lib.hid (P0_q.out.below hb)
           replace OWq := Lib.hid (own_below OWq.out hb)
           replace OGq := Lib.hid (own_below OGq.out hb)
           replace T0_q := Lib.hid (own_below T0_q.out hb)
           replace Bq := Lib.hid (Below.transB Bq.out (Nat.le_refl _) hb)
           have OHq := Lib.hid ho
           clear ho hb
           clear P0_c0 P0_c1 P0_c2 P0_c3 P0_c4 P0_c5
           obtain ⟨P0_c0, P0_c1, P0_c2, P0_c3, P0_c4, P0_c5⟩ := P0_q.out.six))
    have P0_11 := P0_q
    have OW11 := OWq
    have OG11 := OGq
    have OH11 := OHq
    have B11 := Bq
    clear P0_q OWq OGq OHq T0_q Bq
    go_wp2_with fail
    refine (eqHandS_same out _ _ _ _ _ (Rd.of_own OH11.out) (Rd.of_own OW11.out) hout).mono ?_
    rintro e w12 ⟨rfl, hb⟩
    have P0_12 := Lib.hid (P0_11.out.below hb)
    have OW12 := Lib.hid (own_below OW11.out hb)
    have OG12 := Lib.hid (own_below OG11.out hb)
    have OH12 := Lib.hid (own_below OH11.out hb)
    have B12 := Lib.hid (Below.transB B11.out (Nat.le_refl _) hb)
    clear hb P0_11 OW11 OG11 OH11 B11 P0_c0 P0_c1 P0_c2 P0_c3 P0_c4 P0_c5
    obtain ⟨P0_c0, P0_c1, P0_c2, P0_c3, P0_c4, P0_c5⟩ := P0_12.out.six
    go_wp2_with fail
    refine (heldHandS_any out.length 1 _ _ _ (Rd.of_own OG12.out) (by omega) (by omega)).mono ?_
    rintro e wf ⟨rfl, rfl⟩
    go_wp2
    go_ret
    exact ⟨rfl, B12.out⟩
  · unfold aggHand at *
    go_enter Try.func7, Try.ntmps7
    go_wp2_with fail
    refine (szHandS_no _ _ _ _ _ (by omega) hm0 (by omega)).mono ?_
    rintro e w1 ⟨rfl, rfl⟩
    go_wp2
    go_ret
    exact ⟨rfl, by go_grown⟩

end Go.Proofs.Ytcneipheipneaaa
