/-
  The walk of the reference's PagesFor, and the law on PagesFor.
  Conditions: those written at each theorem.
-/
import Derived.Test.YtkocblkodhfjiaaP14c
namespace Go.Proofs.Ytkocblkodhfjiaa
open Go.RowKit Go.BigFrame

set_option maxHeartbeats 800000 in
theorem specPagesFor_any (t : Tariff) (h c : Int) (w : World) : Calls Try.prog 18 #[aggTariff t, .int .i64 h, .int .i64 c] w fun e w' => e = .returned (pfAns t h c) ∧ Below w.heap.size w w' := by
  have HT := fun W => Lib.hid (l14Tariff_any t W)
  by_cases hv : tarOk t = true ∧ inB h 0 200 = true ∧ inB c 0 1000000 = true
  · obtain ⟨v1, v2, v3⟩ := hv
    have HF := fun p h0 h1 W => Lib.hid (feeP_spec v1 v2 p h0 h1 W)
    have hm := fun p q : Int => fun hpq : p ≤ q => feeP_mono (h := h) v1 hpq
    have HM := Lib.hid hm
    clear hm
    have hno : Hid (¬ feeP t h 0 ≤ c → pfAns t h c = .tuple #[.int .i64 0, .bool false]) := fun k => if_neg fun k2 => k k2.2.2.2
    have hyes : Hid (feeP t h 0 ≤ c → pfAns t h c = .tuple #[.int .i64 (bestP t h c 5000), .bool true]) := fun k => if_pos ⟨v1, v2, v3, k⟩
    unfold aggTariff at *
    go_enter Try.func18, Try.ntmps18
    go_wp2_with fail
    have bx := Box.new w #[.int .i64 t.search, .int .i64 t.page, .int .i64 t.free, .int .i64 t.limit] 25
    refine (HT _).out.mono ?_
    rintro e w1 ⟨rfl, hb1⟩
    have B1 := Lib.hid (Below.trans' (a := w) ((Below.refl _ _).alloc (Nat.le_refl _) _) hb1)
    have bx1 := bx.below hb1
    obtain ⟨e0, e1, e2, e3⟩ := bx1.four
    have BX := Lib.hid bx1
    clear bx hb1 bx1
    go_wp2_with (first
      | (go_at_call 47; refine (l1In_any _ _ _ _).mono ?_; rintro e w' ⟨rfl, rfl⟩)
      | (go_at_call 48; refine (l14Cents_any _ _).mono ?_; rintro e w' ⟨rfl, rfl⟩))
    refine (HF 0 (by omega) (by omega) _).out.mono ?_
    rintro e w2 ⟨rfl, hb2⟩
    have HB2 := Lib.hid hb2
    clear hb2 e0 e1 e2 e3
    by_cases h0 : feeP t h 0 ≤ c
    · have hn := hyes.out h0
      have HN := Lib.hid hn
      have H0 := Lib.hid h0
      clear hn
      go_wp2_with fail
      go_loopw [8, 9] (fun v8 v9 wr => ∃ lo hi : Nat, lo ≤ hi ∧ hi ≤ 5000 ∧ v8 = .int .i64 lo ∧ v9 = .int .i64 hi ∧ Below w1.heap.size w1 wr ∧ Hid (feeP t h lo ≤ c) ∧ Hid (∀ q : Nat, hi < q → q ≤ 5000 → c < feeP t h q)) (fun v8 v9 _ => (intOf v9 - intOf v8).toNat)
      case atStart => exact ⟨0, 5000, by omega, Nat.le_refl _, rfl, rfl, HB2.out, H0.out, fun q a b => absurd a (by omega)⟩
      case round =>
        obtain ⟨lo, hi, h1, h2, rfl, rfl, hb, K1, K2⟩ := hrel
        by_cases hlt : lo < hi
        · obtain ⟨mid, hmid⟩ : ∃ mid : Nat, ((mid : Nat) : Int) = ((lo : Int) + (hi : Int) + 1) / 2 := ⟨(lo + hi + 1) / 2, by omega⟩
          have m1 : lo < mid := by omega
          have m2 : mid ≤ hi := by omega
          have hlt' : ((lo : Int) < (hi : Int)) := by omega
          have HMI := Lib.hid hmid
          obtain ⟨e0, e1, e2, e3⟩ := (BX.out.below hb).four
          have HB := Lib.hid hb
          clear hb hmid
          go_wp2_with fail
          rw [← HMI.out]
          refine (HF _ (by omega) (by omega) _).out.mono ?_
          rintro e w3 ⟨rfl, hb3⟩
          have HB3 := Lib.hid (Below.transB HB.out (Nat.le_refl _) hb3)
          clear hb3
          by_cases hf : feeP t h mid ≤ c
          · have HF2 := Lib.hid hf
            go_wp2
            go_roundw
            case rel => exact ⟨mid, hi, m2, h2, rfl, rfl, HB3.out, HF2.out, K2⟩
            case measure => simp [intOf]; omega
          · have K3 : Hid (∀ q : Nat, mid - 1 < q → q ≤ 5000 → c < feeP t h q) := fun q a b => by
              have := HM.out mid q (by omega); omega
            have hm1 : ((mid : Int) - 1) = ((mid - 1 : Nat) : Int) := by omega
            have HM1 := Lib.hid hm1
            clear hm1
            go_wp2
            go_roundw
            case rel => exact ⟨lo, mid - 1, by omega, by omega, rfl, by rw [HM1.out], HB3.out, K1, K3⟩
            case measure => simp [intOf]; omega
        · obtain rfl : lo = hi := by omega
          have hb5 : bestP t h c 5000 = (lo : Int) := bestP_is 5000 lo h2 K1.out K2.out
          have HN2 : Hid (pfAns t h c = .tuple #[.int .i64 lo, .bool true]) := by show _ = _; rw [HN.out, hb5]
          have HB := Lib.hid (Below.trans' B1.out hb)
          clear hb hb5
          go_wp2
          go_ret2
          exact ⟨by rw [HN2.out]; rfl, HB.out⟩
    · have hn := hno.out (by omega)
      have HN := Lib.hid hn
      have HB := Lib.hid (Below.trans' B1.out HB2.out)
      clear hn
      go_wp2
      go_ret2
      exact ⟨by rw [HN.out]; rfl, HB.out⟩
  · have hans : Hid (pfAns t h c = .tuple #[.int .i64 0, .bool false]) := if_neg fun k => hv ⟨k.1, k.2.1, k.2.2.1⟩
    unfold aggTariff at *
    go_enter Try.func18, Try.ntmps18
    go_wp2_with fail
    refine (HT _).out.mono ?_
    rintro e w1 ⟨rfl, hb1⟩
    have B1 := Lib.hid (Below.trans' (a := w) ((Below.refl _ _).alloc (Nat.le_refl _) _) hb1)
    clear hb1
    go_wp2_with (first
      | (go_at_call 47; refine (l1In_any _ _ _ _).mono ?_; rintro e w' ⟨rfl, rfl⟩)
      | (go_at_call 48; refine (l14Cents_any _ _).mono ?_; rintro e w' ⟨rfl, rfl⟩))
    all_goals first
      | (go_ret2; exact ⟨by rw [hans.out]; rfl, B1.out⟩)
      | (exfalso; clear hans B1 HT; simp_all; done)

set_option maxHeartbeats 800000 in
theorem walkPagesFor {w : World} (t : Tariff) (_ : I64 t.search ∧ I64 t.page ∧ I64 t.free ∧ I64 t.limit) (h : Int) (_ : I64 h) (c : Int) (_ : I64 c) :
    Calls Try.prog 5 #[aggTariff t, .int .i64 h, .int .i64 c] w fun e w' => e = .returned (.bool true) ∧ Below w.heap.size w w' := by
  have HT := fun W => Lib.hid (toTariff_any t W)
  have HS := fun W => Lib.hid (specPagesFor_any t h c W)
  have HI := fun W => Lib.hid (implPagesFor_any t h c W)
  obtain ⟨x, y, hx⟩ := pfAns_form t h c
  rw [hx] at HS HI
  clear hx
  unfold aggTariff at *
  go_enter Try.func5, Try.ntmps5
  go_wp2_with fail
  have bx := Box.new w #[.int .i64 t.search, .int .i64 t.page, .int .i64 t.free, .int .i64 t.limit] 23
  refine (HT _).out.mono ?_
  rintro e w1 ⟨rfl, hb1⟩
  go_wp2_with fail
  refine (HS _).out.mono ?_
  rintro e w2 ⟨rfl, hb2⟩
  have bx2 := (bx.below hb1).below hb2
  obtain ⟨e0, e1, e2, e3⟩ := bx2.four
  have B2 := Lib.hid (Below.trans' (Below.trans' (a := w) ((Below.refl _ _).alloc (Nat.le_refl _) _) hb1) hb2)
  clear hb1 hb2 bx bx2
  go_wp2_with fail
  refine (HT _).out.mono ?_
  rintro e w3 ⟨rfl, hb3⟩
  go_wp2_with fail
  refine (HI _).out.mono ?_
  rintro e w4 ⟨rfl, hb4⟩
  have B4 := Lib.hid (Below.trans' (Below.trans' B2.out hb3) hb4)
  clear hb3 hb4
  go_wp2
  go_ret
  exact ⟨rfl, B4.out⟩

end Go.Proofs.Ytkocblkodhfjiaa
