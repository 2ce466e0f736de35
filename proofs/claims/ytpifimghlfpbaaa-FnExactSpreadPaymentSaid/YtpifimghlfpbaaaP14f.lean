/-
  AreBills by the reference.
  Conditions: those written at each theorem.
-/
import Derived.Test.YtpifimghlfpbaaaP14e
namespace Go.Proofs.Ytpifimghlfpbaaa
open Go.RowKit Go.BigFrame
set_option maxRecDepth 100000

set_option maxHeartbeats 1000000 in
theorem l14Good_any (l : List Bill) (A : Option Addr) (c : Nat) (hl : l.length ≤ 1048577) (w : World) (hr : Rd w 6 A l.length (cellsBill l)) :
    Calls Try.prog 26 #[.slice A l.length c] w fun e w' => e = .returned (.bool (areB l)) ∧ Below w.heap.size w w' := by
  have HR := Lib.hid hr
  clear hr
  go_enter Try.func26, Try.ntmps26
  go_wp2
  go_loopw [3] (fun v wr => ∃ k : Nat, k ≤ l.length ∧ v = .int .i64 k ∧ Below w.heap.size w wr ∧ Hid (billsOk 0 l = billsOk (lastBill l k) (l.drop k))) (fun v _ => l.length - (intOf v).toNat)
  case atStart => exact ⟨0, Nat.zero_le _, rfl, Below.refl _ _, by show _ = _; rfl⟩
  case round =>
    obtain ⟨k, hk, rfl, hb, K⟩ := hrel
    have hrr := HR.out.below hb
    by_cases hlt : k < l.length
    · obtain ⟨gb, go, rfl, hgb, hcell⟩ := hrr.2 (by omega)
      obtain ⟨h0, h1, h2, h3, h4, h5⟩ := cellsBill_at hcell hlt
      have HC := Lib.hid hcell
      have hlt' : ((k : Int) < (l.length : Int)) := by omega
      clear hrr hcell
      have HB := Lib.hid hb
      clear hb
      have hh := l14Bill_any l[k]
      have b0 := cellG (w := wr) hgb h0
      have b1 := cellG (w := wr) hgb h1
      have b2 := cellG (w := wr) hgb h2
      have b3 := cellG (w := wr) hgb h3
      have b4 := cellG (w := wr) hgb h4
      have b5 := cellG (w := wr) hgb h5
      have K1 := K.out
      rw [List.drop_eq_getElem_cons hlt] at K1
      have HK1 := Lib.hid K1
      clear K K1
      by_cases hok : billOk l[k] = true
      · rw [hok] at hh
        have HH := Lib.hid hh
        clear hh
        by_cases hk0 : k = 0
        · have K2 : Hid (billsOk 0 l = billsOk (lastBill l (k + 1)) (l.drop (k + 1))) := by
            show _ = _; rw [HK1.out, lastBill_succ hlt]
            exact billsOk_go hok (by subst hk0; have := (billOk_true hok).1; simp only [lastBill]; omega)
          have hk1 : decide ((0 : Int) < (k : Int)) = false := by simp; omega
          have hk2 : decide (0 < k) = false := by simp; omega
          clear HK1 hk0
          go_wp2_with fail
          refine wp_region_grow (by kernel_rfl) (by kernel_rfl) ?_
          repeat (go_big_quiet_step (first | (go_at_call 35; exact quietG (HH.out _))))
          refine wpQuiet_endG ?_
          intro w2 hb2
          have HW := Lib.hid (Below.transB HB.out (Nat.le_refl _) hb2)
          clear hb2 b0 b1 b2 b3 b4 b5 h0 h1 h2 h3 h4 h5
          go_wp2
          go_roundw
          case rel => exact ⟨k + 1, by omega, by go_num, HW.out, K2⟩
          case measure => simp [intOf]; omega
        · obtain ⟨m, rfl⟩ : ∃ m, k = m + 1 := ⟨k - 1, by omega⟩
          have hm : m < l.length := by omega
          obtain ⟨p0, _⟩ := cellsBill_at HC.out hm
          have q0 := cellG (w := wr) hgb p0
          clear hk0 p0
          by_cases hD : l[m].id < l[m + 1].id
          · have K2 : Hid (billsOk 0 l = billsOk (lastBill l (m + 1 + 1)) (l.drop (m + 1 + 1))) := by
              show _ = _; rw [HK1.out, lastBill_succ hlt, lastBill_succ hm]
              exact billsOk_go hok hD
            clear HK1
            go_wp2_with fail
            refine wp_region_grow (by kernel_rfl) (by kernel_rfl) ?_
            repeat (go_big_quiet_step (first | (go_at_call 35; exact quietG (HH.out _))))
            refine wpQuiet_endG ?_
            intro w2 hb2
            have HW := Lib.hid (Below.transB HB.out (Nat.le_refl _) hb2)
            clear hb2 b0 b1 b2 b3 b4 b5 h0 h1 h2 h3 h4 h5
            go_wp2
            go_roundw
            case rel => exact ⟨m + 1 + 1, by omega, by go_num, HW.out, K2⟩
            case measure => simp [intOf]; omega
          · have K2 : Hid (areB l = false) := by
              show _ = _; rw [areB, HK1.out, lastBill_succ hm, billsOk_bad fun h => hD h.2]; rfl
            have hD' : l[m + 1].id ≤ l[m].id := by omega
            clear HK1 hD
            go_wp2_with fail
            refine wp_region_grow (by kernel_rfl) (by kernel_rfl) ?_
            repeat (go_big_quiet_step (first | (go_at_call 35; exact quietG (HH.out _))))
            refine wpQuiet_endG ?_
            intro w2 hb2
            have HW := Lib.hid (Below.transB HB.out (Nat.le_refl _) hb2)
            clear hb2 b0 b1 b2 b3 b4 b5 h0 h1 h2 h3 h4 h5
            go_wp2
            go_ret
            exact ⟨by rw [K2.out]; rfl, HW.out⟩
      · have K2 : Hid (areB l = false) := by
          show _ = _; rw [areB, HK1.out, billsOk_bad fun h => hok h.1]; rfl
        rw [show billOk l[k] = false by simpa using hok] at hh
        have HH := Lib.hid hh
        clear hh HK1
        go_wp2_with fail
        refine wp_region_grow (by kernel_rfl) (by kernel_rfl) ?_
        repeat (go_big_quiet_step (first | (go_at_call 35; exact quietG (HH.out _))))
        refine wpQuiet_endG ?_
        intro w2 hb2
        have HW := Lib.hid (Below.transB HB.out (Nat.le_refl _) hb2)
        clear hb2 b0 b1 b2 b3 b4 b5 h0 h1 h2 h3 h4 h5
        go_wp2
        go_ret
        exact ⟨by rw [K2.out]; rfl, HW.out⟩
    · have K2 : Hid (areB l = decide ((l.length : Int) ≤ 10)) := by
        show _ = _; rw [areB, K.out, List.drop_of_length_le (by omega)]; simp [billsOk]; omega
      have HB := Lib.hid hb
      clear K hb hrr
      go_wp2
      go_ret
      exact ⟨by rw [K2.out]; rfl, HB.out⟩


end Go.Proofs.Ytpifimghlfpbaaa
