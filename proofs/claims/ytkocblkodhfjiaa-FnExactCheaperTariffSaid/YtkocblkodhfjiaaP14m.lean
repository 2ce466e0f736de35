/-
  The law CheaperTariff. Written by mklaw.py.
  Conditions: those written at each theorem.
-/
import Derived.Test.YtkocblkodhfjiaaP14i
import Derived.Test.YtkocblkodhfjiaaP14j
namespace Go.Proofs.Ytkocblkodhfjiaa
open Go.RowKit Go.BigFrame
set_option maxRecDepth 100000

set_option maxHeartbeats 1000000 in
theorem walkCheaperTariff {w : World} (a : Tariff) (_ : I64 a.search ∧ I64 a.page ∧ I64 a.free ∧ I64 a.limit) (b : Tariff) (_ : I64 b.search ∧ I64 b.page ∧ I64 b.free ∧ I64 b.limit) (v0 : Value) (hv0 : InBillS w v0) :
    Calls Try.prog 7 #[aggTariff a, aggTariff b, v0] w fun e w' => e = .returned (.bool true) ∧ Below w.heap.size w w' := by
  obtain ⟨A0, c0, l, rfl, hr0, hbd0, hm0⟩ := hv0
  by_cases hl0 : l.length ≤ 1048576
  · have HS := fun (W : World) (g0 c0 : Nat) r0 => Lib.hid (specCheaperTariff_any a b l (some ⟨g0, 0, none⟩) c0 hl0 W r0)
    have HI := fun (W : World) (g0 c0 : Nat) r0 => Lib.hid (implCheaperTariff_any a b l (some ⟨g0, 0, none⟩) c0 hl0 W r0)
    obtain ⟨xa, ya, hx⟩ := ctAns_form a b l
    rw [hx] at HS HI
    clear hx
    have HTariff := fun (x : Tariff) W => Lib.hid (toTariff_any x W)
    have HR0 := Lib.hid hr0
    clear hr0 hbd0
    unfold aggTariff at *
    go_enter Try.func7, Try.ntmps7
    go_wp2_with fail
    have B0 := Lib.hid (Below.refl w.heap.size w)
    have B90 := Lib.hid (Below.alloc B0.out B0.out.size (.cells #[.int .i64 a.search, .int .i64 a.page, .int .i64 a.free, .int .i64 a.limit] 23))
    have P0_90 := Lib.hid (BXT.new (w) #[.int .i64 a.search, .int .i64 a.page, .int .i64 a.free, .int .i64 a.limit] 23)
    clear B0
    have P0_91 := Lib.hid (P0_90.out.alloc (.cells #[.int .i64 b.search, .int .i64 b.page, .int .i64 b.free, .int .i64 b.limit] 23))
    have B91 := Lib.hid (Below.alloc B90.out B90.out.size (.cells #[.int .i64 b.search, .int .i64 b.page, .int .i64 b.free, .int .i64 b.limit] 23))
    have P1_91 := Lib.hid (BXT.new ((w).alloc (.cells #[.int .i64 a.search, .int .i64 a.page, .int .i64 a.free, .int .i64 a.limit] 23)) #[.int .i64 b.search, .int .i64 b.page, .int .i64 b.free, .int .i64 b.limit] 23)
    simp only [World.size_alloc] at P1_91
    clear P0_90 B90
    refine (szBillS_ok _ _ _ _ _ (by omega) (by omega)).mono ?_
    rintro e w1 ⟨rfl, rfl⟩
    obtain ⟨P0_c0, P0_c1, P0_c2, P0_c3⟩ := P0_91.out.four
    obtain ⟨P1_c0, P1_c1, P1_c2, P1_c3⟩ := P1_91.out.four
    go_wp2_with fail
    have P0_q := P0_91
    have P1_q := P1_91
    have Bq := B91
    clear P0_91 P1_91 B91
    go_region_held3 (fun w' => w'.cell? ⟨w.heap.size, 0, none⟩ = some (.int .i64 a.search) ∧ w'.cell? ⟨w.heap.size, 1, none⟩ = some (.int .i64 a.page) ∧ w'.cell? ⟨w.heap.size, 2, none⟩ = some (.int .i64 a.free) ∧ w'.cell? ⟨w.heap.size, 3, none⟩ = some (.int .i64 a.limit) ∧ w'.cell? ⟨w.heap.size + 1, 0, none⟩ = some (.int .i64 b.search) ∧ w'.cell? ⟨w.heap.size + 1, 1, none⟩ = some (.int .i64 b.page) ∧ w'.cell? ⟨w.heap.size + 1, 2, none⟩ = some (.int .i64 b.free) ∧ w'.cell? ⟨w.heap.size + 1, 3, none⟩ = some (.int .i64 b.limit)) (go_keep)
      (first
        | (go_at_call 13
           refine (HTariff _ _).out.mono ?_
           rintro e wr ⟨rfl, hb⟩
           (try replace hb := below_ofD hb)
           replace P0_q := Lib.hid (P0_q.out.below hb)
           replace P1_q := Lib.hid (P1_q.out.below hb)
           replace Bq := Lib.hid (Below.transB Bq.out (Nat.le_refl _) hb)
           clear hb
           clear P0_c0 P0_c1 P0_c2 P0_c3 P1_c0 P1_c1 P1_c2 P1_c3
           obtain ⟨P0_c0, P0_c1, P0_c2, P0_c3⟩ := P0_q.out.four
           obtain ⟨P1_c0, P1_c1, P1_c2, P1_c3⟩ := P1_q.out.four)
        | (go_at_call 22
           refine (toBillS_any l A0 c0 _ (HR0.out.below (by first | exact Bq.out | exact below_D Bq.out)) hl0).mono ?_
           rintro e wr ⟨g0x, rfl, ho, hb⟩
           (try replace hb := below_ofD hb)
           have T0_q := Lib.hid ho
           replace P0_q := Lib.hid (P0_q.out.below hb)
           replace P1_q := Lib.hid (P1_q.out.below hb)
           replace Bq := Lib.hid (Below.transB Bq.out (Nat.le_refl _) hb)
           clear hb ho
           clear P0_c0 P0_c1 P0_c2 P0_c3 P1_c0 P1_c1 P1_c2 P1_c3
           obtain ⟨P0_c0, P0_c1, P0_c2, P0_c3⟩ := P0_q.out.four
           obtain ⟨P1_c0, P1_c1, P1_c2, P1_c3⟩ := P1_q.out.four)
        | (go_at_call 25
           refine (HS _ _ _ (Rd.of_own T0_q.out)).out.mono ?_
           rintro e wr ⟨rfl, hb⟩
           (try replace hb := below_ofD hb)
           replace P0_q := Lib.hid (P0_q.out.below hb)
           replace P1_q := Lib.hid (P1_q.out.below hb)
           replace T0_q := Lib.hid (own_below T0_q.out hb)
           replace Bq := Lib.hid (Below.transB Bq.out (Nat.le_refl _) hb)
           clear hb
           clear P0_c0 P0_c1 P0_c2 P0_c3 P1_c0 P1_c1 P1_c2 P1_c3
           obtain ⟨P0_c0, P0_c1, P0_c2, P0_c3⟩ := P0_q.out.four
           obtain ⟨P1_c0, P1_c1, P1_c2, P1_c3⟩ := P1_q.out.four))
    have P0_1 := P0_q
    have P1_1 := P1_q
    have B1 := Bq
    clear P0_q P1_q T0_q Bq
    go_wp2_with fail
    refine (toBillS_any l A0 c0 _ (HR0.out.below B1.out) hl0).mono ?_
    rintro e w2 ⟨g2, rfl, ho, hb⟩
    have SX0_ := B1.out.size
    have P0_2 := Lib.hid (P0_1.out.below hb)
    have P1_2 := Lib.hid (P1_1.out.below hb)
    have B2 := Lib.hid (Below.transB B1.out (Nat.le_refl _) hb)
    clear hb P0_1 P1_1 B1 P0_c0 P0_c1 P0_c2 P0_c3 P1_c0 P1_c1 P1_c2 P1_c3
    have X0_2 := Lib.hid ho
    clear ho
    obtain ⟨P0_c0, P0_c1, P0_c2, P0_c3⟩ := P0_2.out.four
    obtain ⟨P1_c0, P1_c1, P1_c2, P1_c3⟩ := P1_2.out.four
    go_wp2_with fail
    have P0_q := P0_2
    have P1_q := P1_2
    have X0_q := X0_2
    have Bq := B2
    clear P0_2 P1_2 X0_2 B2
    go_region_held3 (fun w' => w'.cell? ⟨w.heap.size, 0, none⟩ = some (.int .i64 a.search) ∧ w'.cell? ⟨w.heap.size, 1, none⟩ = some (.int .i64 a.page) ∧ w'.cell? ⟨w.heap.size, 2, none⟩ = some (.int .i64 a.free) ∧ w'.cell? ⟨w.heap.size, 3, none⟩ = some (.int .i64 a.limit) ∧ w'.cell? ⟨w.heap.size + 1, 0, none⟩ = some (.int .i64 b.search) ∧ w'.cell? ⟨w.heap.size + 1, 1, none⟩ = some (.int .i64 b.page) ∧ w'.cell? ⟨w.heap.size + 1, 2, none⟩ = some (.int .i64 b.free) ∧ w'.cell? ⟨w.heap.size + 1, 3, none⟩ = some (.int .i64 b.limit)) (go_keep)
      (first
        | (go_at_call 13
           refine (HTariff _ _).out.mono ?_
           rintro e wr ⟨rfl, hb⟩
           (try replace hb := below_ofD hb)
           replace P0_q := Lib.hid (P0_q.out.below hb)
           replace P1_q := Lib.hid (P1_q.out.below hb)
           replace X0_q := Lib.hid (own_below X0_q.out hb)
           replace Bq := Lib.hid (Below.transB Bq.out (Nat.le_refl _) hb)
           clear hb
           clear P0_c0 P0_c1 P0_c2 P0_c3 P1_c0 P1_c1 P1_c2 P1_c3
           obtain ⟨P0_c0, P0_c1, P0_c2, P0_c3⟩ := P0_q.out.four
           obtain ⟨P1_c0, P1_c1, P1_c2, P1_c3⟩ := P1_q.out.four)
        | (go_at_call 26
           refine (HI _ _ _ (Rd.of_own X0_q.out)).out.mono ?_
           rintro e wr ⟨rfl, hb⟩
           (try replace hb := below_ofD hb)
           replace P0_q := Lib.hid (P0_q.out.below hb)
           replace P1_q := Lib.hid (P1_q.out.below hb)
           replace X0_q := Lib.hid (own_below X0_q.out hb)
           replace Bq := Lib.hid (Below.transB Bq.out (Nat.le_refl _) hb)
           clear hb
           clear P0_c0 P0_c1 P0_c2 P0_c3 P1_c0 P1_c1 P1_c2 P1_c3
           obtain ⟨P0_c0, P0_c1, P0_c2, P0_c3⟩ := P0_q.out.four
           obtain ⟨P1_c0, P1_c1, P1_c2, P1_c3⟩ := P1_q.out.four))
    have P0_3 := P0_q
    have P1_3 := P1_q
    have X0_3 := X0_q
    have B3 := Bq
    clear P0_q P1_q X0_q Bq
    go_wp2_with fail
    refine (toBillS_any l A0 c0 _ (HR0.out.below B3.out) hl0).mono ?_
    rintro e w4 ⟨g4, rfl, ho, hb⟩
    have ST9_ := B3.out.size
    have P0_4 := Lib.hid (P0_3.out.below hb)
    have P1_4 := Lib.hid (P1_3.out.below hb)
    have X0_4 := Lib.hid (own_below X0_3.out hb)
    have B4 := Lib.hid (Below.transB B3.out (Nat.le_refl _) hb)
    clear hb P0_3 P1_3 X0_3 B3 P0_c0 P0_c1 P0_c2 P0_c3 P1_c0 P1_c1 P1_c2 P1_c3
    have T9_4 := Lib.hid ho
    clear ho
    obtain ⟨P0_c0, P0_c1, P0_c2, P0_c3⟩ := P0_4.out.four
    obtain ⟨P1_c0, P1_c1, P1_c2, P1_c3⟩ := P1_4.out.four
    go_wp2_with fail
    refine (eqBillS_same l _ _ _ _ _ (Rd.of_own X0_4.out) (Rd.of_own T9_4.out) hl0).mono ?_
    rintro e w5 ⟨rfl, hb⟩
    have P0_5 := Lib.hid (P0_4.out.below hb)
    have P1_5 := Lib.hid (P1_4.out.below hb)
    have X0_5 := Lib.hid (own_below X0_4.out hb)
    have T9_5 := Lib.hid (own_below T9_4.out hb)
    have B5 := Lib.hid (Below.transB B4.out (Nat.le_refl _) hb)
    clear hb P0_4 P1_4 X0_4 T9_4 B4 P0_c0 P0_c1 P0_c2 P0_c3 P1_c0 P1_c1 P1_c2 P1_c3
    obtain ⟨P0_c0, P0_c1, P0_c2, P0_c3⟩ := P0_5.out.four
    obtain ⟨P1_c0, P1_c1, P1_c2, P1_c3⟩ := P1_5.out.four
    clear T9_5
    go_wp2
    go_ret
    exact ⟨rfl, B5.out⟩
  · unfold aggTariff at *
    go_enter Try.func7, Try.ntmps7
    go_wp2_with fail
    refine (szBillS_no _ _ _ _ _ (by omega) hm0 (by omega)).mono ?_
    rintro e w1 ⟨rfl, rfl⟩
    go_wp2
    go_ret
    exact ⟨rfl, by go_grown⟩

end Go.Proofs.Ytkocblkodhfjiaa
