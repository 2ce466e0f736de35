/-
  The walks of PagesFor, and of the laws on FeeOf and PagesFor.
  Conditions: those written at each theorem.
-/
import Derived.Test.YtkocblkodhfjiaaP14b
namespace Go.Proofs.Ytkocblkodhfjiaa
open Go.RowKit Go.BigFrame

set_option maxHeartbeats 800000 in
theorem walkFeeOf {w : World} (t : Tariff) (_ : I64 t.search ∧ I64 t.page ∧ I64 t.free ∧ I64 t.limit) (b : Bill) (_ : I64 b.id ∧ I64 b.hours ∧ I64 b.pages ∧ I64 b.paid) :
    Calls Try.prog 4 #[aggTariff t, aggBill b] w fun e w' => e = .returned (.bool true) ∧ Below w.heap.size w w' := by
  have HT := fun W => Lib.hid (toTariff_any t W)
  have HB := fun W => Lib.hid (toBill_any b W)
  have HS := fun W => Lib.hid (specFeeOf_any t b W)
  have HI := fun W => Lib.hid (implFeeOf_any t b W)
  obtain ⟨x, y, hx⟩ := foAns_form t b
  rw [hx] at HS HI
  clear hx
  unfold aggTariff aggBill at *
  go_enter Try.func4, Try.ntmps4
  go_wp2_with fail
  have bx := (Box.new w #[.int .i64 t.search, .int .i64 t.page, .int .i64 t.free, .int .i64 t.limit] 23).below ((Below.refl _ _).alloc (Nat.le_refl _) (.cells #[.int .i64 b.id, .int .i64 b.hours, .int .i64 b.pages, .bool b.poor, .bool b.pub, .int .i64 b.paid] 29))
  have by_ := Box.new (w.alloc (.cells #[.int .i64 t.search, .int .i64 t.page, .int .i64 t.free, .int .i64 t.limit] 23)) #[.int .i64 b.id, .int .i64 b.hours, .int .i64 b.pages, .bool b.poor, .bool b.pub, .int .i64 b.paid] 29
  rw [World.size_alloc] at by_
  have B0 := Lib.hid (((Below.refl w.heap.size w).alloc (Nat.le_refl _) (.cells #[.int .i64 t.search, .int .i64 t.page, .int .i64 t.free, .int .i64 t.limit] 23)).alloc (by simp) (.cells #[.int .i64 b.id, .int .i64 b.hours, .int .i64 b.pages, .bool b.poor, .bool b.pub, .int .i64 b.paid] 29))
  have a0 := bx.G 0 _ rfl
  have a1 := bx.G 1 _ rfl
  have a2 := bx.G 2 _ rfl
  have a3 := bx.G 3 _ rfl
  have c0 := by_.G 0 _ rfl
  have c1 := by_.G 1 _ rfl
  have c2 := by_.G 2 _ rfl
  have c3 := by_.G 3 _ rfl
  have c4 := by_.G 4 _ rfl
  have c5 := by_.G 5 _ rfl
  have BX := Lib.hid bx
  have BY := Lib.hid by_
  clear bx by_
  refine wp_region_grow (by kernel_rfl) (by kernel_rfl) ?_
  repeat (go_big_quiet_step (first | (go_at_call 13; exact quietG (HT _).out) | (go_at_call 16; exact quietG (HB _).out) | (go_at_call 15; exact quietG (HS _).out)))
  refine wpQuiet_endG ?_
  intro w2 hb2
  have B2 := Lib.hid (Below.trans (B0.out) (hb2.mono (by simp; omega)))
  have bx := BX.out.below hb2
  have by_ := BY.out.below hb2
  clear a0 a1 a2 a3 c0 c1 c2 c3 c4 c5 hb2
  have a0 := bx.G 0 _ rfl
  have a1 := bx.G 1 _ rfl
  have a2 := bx.G 2 _ rfl
  have a3 := bx.G 3 _ rfl
  have c0 := by_.G 0 _ rfl
  have c1 := by_.G 1 _ rfl
  have c2 := by_.G 2 _ rfl
  have c3 := by_.G 3 _ rfl
  have c4 := by_.G 4 _ rfl
  have c5 := by_.G 5 _ rfl
  clear bx by_
  go_wp2_with fail
  refine wp_region_grow (by kernel_rfl) (by kernel_rfl) ?_
  repeat (go_big_quiet_step (first | (go_at_call 13; exact quietG (HT _).out) | (go_at_call 16; exact quietG (HB _).out) | (go_at_call 17; exact quietG (HI _).out)))
  refine wpQuiet_endG ?_
  intro w3 hb3
  have B3 := Lib.hid (Below.transB B2.out (Nat.le_refl _) hb3)
  clear hb3
  go_wp2
  go_ret
  exact ⟨rfl, B3.out⟩

/-- what PagesFor answers -/
def pfAns (t : Tariff) (h c : Int) : Value :=
  if tarOk t = true ∧ inB h 0 200 = true ∧ inB c 0 1000000 = true ∧ feeP t h 0 ≤ c then .tuple #[.int .i64 (bestP t h c 5000), .bool true] else .tuple #[.int .i64 0, .bool false]
theorem pfAns_form (t : Tariff) (h c : Int) : ∃ (x : Int) (y : Bool), pfAns t h c = .tuple #[.int .i64 x, .bool y] := by
  unfold pfAns; split <;> exact ⟨_, _, rfl⟩

theorem feeP_impl {t : Tariff} {h : Int} (ht : tarOk t = true) (hh : inB h 0 200 = true) (p : Int) (h0 : 0 ≤ p) (h1 : p ≤ 5000) (w : World) :
    Calls Try.prog 46 #[.agg #[.int .i64 t.search, .int .i64 t.page, .int .i64 t.free, .int .i64 t.limit], .agg #[.int .i64 0, .int .i64 h, .int .i64 p, .bool false, .bool false, .int .i64 0]] w
      fun e w' => e = .returned (.int .i64 (feeP t h p)) ∧ Below w.heap.size w w' := fee_any t ⟨0, h, p, false, false, 0⟩ w ⟨ht, inB_true hh, h0, h1⟩
theorem feeP_spec {t : Tariff} {h : Int} (ht : tarOk t = true) (hh : inB h 0 200 = true) (p : Int) (h0 : 0 ≤ p) (h1 : p ≤ 5000) (w : World) :
    Calls Try.prog 44 #[.agg #[.int .i64 t.search, .int .i64 t.page, .int .i64 t.free, .int .i64 t.limit], .agg #[.int .i64 0, .int .i64 h, .int .i64 p, .bool false, .bool false, .int .i64 0]] w
      fun e w' => e = .returned (.int .i64 (feeP t h p)) ∧ Below w.heap.size w w' := l14Fee_any t ⟨0, h, p, false, false, 0⟩ w ⟨ht, inB_true hh, h0, h1⟩

set_option maxHeartbeats 800000 in
theorem implPagesFor_any (t : Tariff) (h c : Int) (w : World) : Calls Try.prog 19 #[aggTariff t, .int .i64 h, .int .i64 c] w fun e w' => e = .returned (pfAns t h c) ∧ Below w.heap.size w w' := by
  have HT := fun W => Lib.hid (implIsTariff_any t W)
  by_cases hv : tarOk t = true ∧ inB h 0 200 = true ∧ inB c 0 1000000 = true
  · obtain ⟨v1, v2, v3⟩ := hv
    have HF := fun p h0 h1 W => Lib.hid (feeP_impl v1 v2 p h0 h1 W)
    have hm := fun p q : Int => fun hpq : p ≤ q => feeP_mono (h := h) v1 hpq
    have HM := Lib.hid hm
    clear hm
    have hno : Hid (¬ feeP t h 0 ≤ c → pfAns t h c = .tuple #[.int .i64 0, .bool false]) := fun k => if_neg fun k2 => k k2.2.2.2
    have hyes : Hid (feeP t h 0 ≤ c → pfAns t h c = .tuple #[.int .i64 (bestP t h c 5000), .bool true]) := fun k => if_pos ⟨v1, v2, v3, k⟩
    unfold aggTariff at *
    go_enter Try.func19, Try.ntmps19
    go_wp2_with fail
    have bx := Box.new w #[.int .i64 t.search, .int .i64 t.page, .int .i64 t.free, .int .i64 t.limit] 25
    refine (HT _).out.mono ?_
    rintro e w1 ⟨rfl, hb1⟩
    have B1 := Lib.hid (Below.trans' (a := w) ((Below.refl _ _).alloc (Nat.le_refl _) _) hb1)
    have BX := Lib.hid (bx.below hb1)
    clear bx hb1
    go_wp2_with (first
      | (go_at_call 41; refine (within_any _ _ _ _).mono ?_; rintro e w' ⟨rfl, rfl⟩)
      | (go_at_call 42; refine (isCents_any _ _).mono ?_; rintro e w' ⟨rfl, rfl⟩))
    go_loopw [8] (fun v wr => ∃ p : Nat, p ≤ 5001 ∧ v = .int .i64 ((p : Int) - 1) ∧ Below w1.heap.size w1 wr ∧ Hid (∀ q : Nat, p ≤ q → q ≤ 5000 → c < feeP t h q)) (fun v _ => (intOf v + 1).toNat)
    case atStart => exact ⟨5001, Nat.le_refl _, rfl, Below.refl _ _, fun q a b => absurd a (by omega)⟩
    case round =>
      obtain ⟨p, hp, rfl, hb, K⟩ := hrel
      rcases Nat.eq_zero_or_pos p with rfl | hpos
      · have hn := hno.out (by have := K.out 0 (Nat.le_refl _) (by omega); simp at this; omega)
        have HN := Lib.hid hn
        have HB := Lib.hid (Below.trans' B1.out hb)
        clear hn hb
        go_wp2
        go_ret2
        exact ⟨by rw [HN.out]; rfl, HB.out⟩
      · obtain ⟨m, rfl⟩ : ∃ m, p = m + 1 := ⟨p - 1, by omega⟩
        rw [show (((m + 1 : Nat) : Int) - 1) = (m : Int) by omega]
        obtain ⟨e0, e1, e2, e3⟩ := (BX.out.below hb).four
        have HB := Lib.hid hb
        clear hb
        by_cases hf : feeP t h m ≤ c
        · have hb5 : bestP t h c 5000 = (m : Int) := bestP_is 5000 m (by omega) hf (fun q a b => K.out q (by omega) b)
          have hn := hyes.out (by have := HM.out 0 m (by omega); omega)
          rw [hb5] at hn
          have HN := Lib.hid hn
          clear hn hb5
          go_wp2_with fail
          refine (HF _ (by omega) (by omega) _).out.mono ?_
          rintro e w2 ⟨rfl, hb2⟩
          have HB2 := Lib.hid (Below.trans' (Below.trans' B1.out HB.out) hb2)
          clear hb2
          go_wp2
          go_ret2
          exact ⟨by rw [HN.out]; rfl, HB2.out⟩
        · have K2 : Hid (∀ q : Nat, m ≤ q → q ≤ 5000 → c < feeP t h q) := fun q a b => by
            by_cases e : q = m
            · subst e; omega
            · exact K.out q (by omega) b
          clear K
          go_wp2_with fail
          refine (HF _ (by omega) (by omega) _).out.mono ?_
          rintro e w2 ⟨rfl, hb2⟩
          have HB2 := Lib.hid (Below.transB HB.out (Nat.le_refl _) hb2)
          clear hb2
          go_wp2
          go_roundw
          case rel => exact ⟨m, by omega, by go_num, HB2.out, K2⟩
          case measure => simp [intOf]
  · have hans : Hid (pfAns t h c = .tuple #[.int .i64 0, .bool false]) := if_neg fun k => hv ⟨k.1, k.2.1, k.2.2.1⟩
    unfold aggTariff at *
    go_enter Try.func19, Try.ntmps19
    go_wp2_with fail
    refine (HT _).out.mono ?_
    rintro e w1 ⟨rfl, hb1⟩
    have B1 := Lib.hid (Below.trans' (a := w) ((Below.refl _ _).alloc (Nat.le_refl _) _) hb1)
    clear hb1
    go_wp2_with (first
      | (go_at_call 41; refine (within_any _ _ _ _).mono ?_; rintro e w' ⟨rfl, rfl⟩)
      | (go_at_call 42; refine (isCents_any _ _).mono ?_; rintro e w' ⟨rfl, rfl⟩))
    all_goals first
      | (go_ret2; exact ⟨by rw [hans.out]; rfl, B1.out⟩)
      | (exfalso; clear hans B1 HT; simp_all; done)

end Go.Proofs.Ytkocblkodhfjiaa
