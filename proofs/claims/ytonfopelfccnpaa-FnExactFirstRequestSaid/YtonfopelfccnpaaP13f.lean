/-
  The walks of what is a valid request: by the reference and by the program; the law on IsRequest.
  Conditions: those written at each theorem.
-/
import Derived.Test.YtonfopelfccnpaaP13e
import Derived.Deep.RegionHeld3
namespace Go.Proofs.Ytonfopelfccnpaa
open Go.RowKit

set_option maxHeartbeats 400000 in
theorem l13Good_any (r : Req) (A : Option Addr) (c : Nat) (w : World) (hr : Rd w 2 A r.stops.length (cells2 r.stops)) (hl : r.stops.length ≤ 9223372036854775807) :
    Calls Try.prog 28 #[.agg #[.int .i64 r.id, .int .i64 r.came, .int .i64 r.working, .int .i64 r.extended, .slice A r.stops.length c]] w
      fun e w' => e = .returned (.bool (reqOk r)) ∧ Below w.heap.size w w' := by
  by_cases hh : headOk r = true
  · have hans : Hid (reqOk r = stopsOk r.came r.stops) := by show _ = _; simp [reqOk, hh]
    have h := headOk_true hh
    have i0 : inB r.id 1 99 = true := inB_of (by omega) (by omega)
    have i1 : inB r.came 0 20000 = true := inB_of (by omega) (by omega)
    have i2 : inB r.working 1 60 = true := inB_of (by omega) (by omega)
    have i3 : inB r.extended 0 40 = true := inB_of (by omega) (by omega)
    have i4 : ¬ (4 : Int) < (r.stops.length : Int) := by omega
    clear h hh
    obtain ⟨hx, hrd⟩ := hr
    have HRD := Lib.hid hrd
    clear hx hrd
    have H0 : Hid (stopsOk r.came r.stops = stopsOk r.came (r.stops.drop 0)) := rfl
    go_enter Try.func28, Try.ntmps28
    go_wp2_with (first
      | (go_at_call 33; refine (l1In_any _ _ _ _).mono ?_; rintro e w' ⟨rfl, rfl⟩)
      | (go_at_call 24; refine (l2Day_any _ _).mono ?_; rintro e w' ⟨rfl, rfl⟩))
    clear i0 i1 i2 i3 i4
    go_loopw [3, 4] (fun v3 v4 wr => ∃ (k : Nat) (b : Int), k ≤ r.stops.length ∧ v4 = .int .i64 k ∧ v3 = .int .i64 b ∧ Hid (stopsOk r.came r.stops = stopsOk b (r.stops.drop k)) ∧ (∃ nq, wr = (w.alloc (.cells #[.int .i64 r.id, .int .i64 r.came, .int .i64 r.working, .int .i64 r.extended, .slice A r.stops.length c] 43)).drewN nq)) (fun _ i _ => r.stops.length - (intOf i).toNat)
    case atStart => exact ⟨0, r.came, Nat.zero_le _, rfl, rfl, H0, 0, rfl⟩
    case round =>
      obtain ⟨k, b, hk, rfl, rfl, K, nq, rfl⟩ := hrel
      by_cases hlt : k < r.stops.length
      · obtain ⟨gb, go, rfl, hgb, hcell⟩ := HRD.out (by omega)
        obtain ⟨h0, h1⟩ := cells2_at hcell hlt
        clear hcell
        have hlt' : ((k : Int) < (r.stops.length : Int)) := by omega
        have K1 : Hid (stopsOk r.came r.stops = stopsOk b (r.stops[k] :: r.stops.drop (k + 1))) := by
          show _ = _; rw [K.out, List.drop_eq_getElem_cons hlt]
        clear K
        by_cases hok : b < r.stops[k].1 ∧ r.stops[k].1 ≤ r.stops[k].2 ∧ r.stops[k].2 ≤ 20000
        · have K2 : Hid (stopsOk r.came r.stops = stopsOk r.stops[k].2 (r.stops.drop (k + 1))) := by
            show _ = _; rw [K1.out, stopsOk_cons _ _ _ hok]
          obtain ⟨g1, g2, g3⟩ := hok
          go_wp2
          go_quiet (fail)
          go_wp2
          go_roundw
          case rel => exact ⟨k + 1, _, by omega, by go_num, rfl, K2, _, rfl⟩
          case measure => simp [intOf]; omega
        · have K2 : Hid (reqOk r = false) := by
            show _ = _; rw [hans.out, K1.out, stopsOk_bad _ _ _ hok]
          go_wp2
          go_quiet (fail)
          go_wp2
          all_goals first
            | (exfalso; apply hok; (first | omega | (simp_all; omega)); done)
            | (go_ret; exact ⟨by rw [K2.out]; rfl, by (repeat refine below_drewN ?_ _); go_grown⟩)
      · have K2 : Hid (reqOk r = true) := by
          show _ = _
          rw [hans.out, K.out, List.drop_of_length_le (by omega)]; rfl
        go_wp2
        go_ret
        exact ⟨by rw [K2.out]; rfl, by (repeat refine below_drewN ?_ _); go_grown⟩
  · have hans : Hid (reqOk r = false) := by show _ = _; simp [reqOk, hh]
    go_enter Try.func28, Try.ntmps28
    go_wp2_with (first
      | (go_at_call 33; refine (l1In_any _ _ _ _).mono ?_; rintro e w' ⟨rfl, rfl⟩)
      | (go_at_call 24; refine (l2Day_any _ _).mono ?_; rintro e w' ⟨rfl, rfl⟩))
    all_goals first
      | (exfalso; apply hh; simp [headOk, *]; omega)
      | (go_ret; exact ⟨by rw [hans.out]; rfl, by (repeat refine below_drewN ?_ _); go_grown⟩)


set_option maxHeartbeats 400000 in
theorem implIsRequest_any (r : Req) (A : Option Addr) (c : Nat) (w : World) (hr : Rd w 2 A r.stops.length (cells2 r.stops)) (hl : r.stops.length ≤ 9223372036854775807) :
    Calls Try.prog 37 #[.agg #[.int .i64 r.id, .int .i64 r.came, .int .i64 r.working, .int .i64 r.extended, .slice A r.stops.length c]] w
      fun e w' => e = .returned (.bool (reqOk r)) ∧ Below w.heap.size w w' := by
  by_cases hh : headOk r = true
  · have hans : Hid (reqOk r = stopsOk r.came r.stops) := by show _ = _; simp [reqOk, hh]
    have h := headOk_true hh
    have hcame : 0 ≤ r.came := h.2.1.1
    have i0 : inB r.id 1 99 = true := inB_of (by omega) (by omega)
    have i1 : inB r.came 0 20000 = true := inB_of (by omega) (by omega)
    have i2 : inB r.working 1 60 = true := inB_of (by omega) (by omega)
    have i3 : inB r.extended 0 40 = true := inB_of (by omega) (by omega)
    have i4 : ¬ (4 : Int) < (r.stops.length : Int) := by omega
    clear h hh
    obtain ⟨hx, hrd⟩ := hr
    have HRD := Lib.hid hrd
    clear hx hrd
    have H0 : Hid (stopsOk r.came r.stops = stopsOk r.came (r.stops.drop 0)) := rfl
    go_enter Try.func37, Try.ntmps37
    go_wp2_with (first
      | (go_at_call 34; refine (within_any _ _ _ _).mono ?_; rintro e w' ⟨rfl, rfl⟩)
      | (go_at_call 40; refine (isId_any _ _).mono ?_; rintro e w' ⟨rfl, rfl⟩)
      | (go_at_call 25; refine (isDay_any _ _).mono ?_; rintro e w' ⟨rfl, rfl⟩))
    clear i0 i1 i2 i3 i4
    go_loopw [3, 39] (fun v3 v4 wr => ∃ (k : Nat) (b : Int), k ≤ r.stops.length ∧ v4 = .int .i64 k ∧ v3 = .int .i64 b ∧ 0 ≤ b ∧ Hid (stopsOk r.came r.stops = stopsOk b (r.stops.drop k)) ∧ Below w.heap.size w wr) (fun _ i _ => r.stops.length - (intOf i).toNat)
    case atStart => exact ⟨0, r.came, Nat.zero_le _, rfl, rfl, hcame, H0, by go_grown⟩
    case round =>
      obtain ⟨k, b, hk, rfl, rfl, hb0, K, hb⟩ := hrel
      by_cases hlt : k < r.stops.length
      · obtain ⟨gb, go, rfl, hgb, hcell⟩ := HRD.out (by omega)
        obtain ⟨h0, h1⟩ := cells2_at hcell hlt
        have c0 : wr.cell? ⟨gb, go + k * 2, none⟩ = some (.int .i64 r.stops[k].1) := (hb.cell (p := ⟨gb, go + k * 2, none⟩) hgb).trans h0
        have c1 : wr.cell? ⟨gb, go + k * 2 + 1, none⟩ = some (.int .i64 r.stops[k].2) := (hb.cell (p := ⟨gb, go + k * 2 + 1, none⟩) hgb).trans h1
        clear h0 h1 hcell
        have HB := Lib.hid hb
        have hsz := hb.size
        clear hb
        have hlt' : ((k : Int) < (r.stops.length : Int)) := by omega
        have K1 : Hid (stopsOk r.came r.stops = stopsOk b (r.stops[k] :: r.stops.drop (k + 1))) := by
          show _ = _; rw [K.out, List.drop_eq_getElem_cons hlt]
        clear K
        by_cases hok : b < r.stops[k].1 ∧ r.stops[k].1 ≤ r.stops[k].2 ∧ r.stops[k].2 ≤ 20000
        · have K2 : Hid (stopsOk r.came r.stops = stopsOk r.stops[k].2 (r.stops.drop (k + 1))) := by
            show _ = _; rw [K1.out, stopsOk_cons _ _ _ hok]
          obtain ⟨g1, g2, g3⟩ := hok
          have gs : spanB r.stops[k].1 r.stops[k].2 = true := spanB_of (by omega) g2 g3
          go_wp2_with (go_at_call 41; refine (areDays_any _ _ _).mono ?_; rintro e w' ⟨rfl, rfl⟩)
          go_roundw
          case rel => exact ⟨k + 1, _, by omega, by go_num, rfl, by omega, K2, by have h := HB.out; go_grown⟩
          case measure => simp [intOf]; omega
        · have K2 : Hid (reqOk r = false) := by
            show _ = _; rw [hans.out, K1.out, stopsOk_bad _ _ _ hok]
          by_cases hlo : r.stops[k].1 ≤ b
          · go_wp2
            go_ret
            exact ⟨by rw [K2.out]; rfl, by have h := HB.out; go_grown⟩
          · have gs : ¬ spanB r.stops[k].1 r.stops[k].2 = true := fun h => hok (by have := spanB_true h; omega)
            go_wp2_with (go_at_call 41; refine (areDays_any _ _ _).mono ?_; rintro e w' ⟨rfl, rfl⟩)
            go_ret
            exact ⟨by rw [K2.out]; rfl, by have h := HB.out; go_grown⟩
      · have K2 : Hid (reqOk r = true) := by
          show _ = _
          rw [hans.out, K.out, List.drop_of_length_le (by omega)]; rfl
        go_wp2
        go_ret
        exact ⟨by rw [K2.out]; rfl, hb⟩
  · have hans : Hid (reqOk r = false) := by show _ = _; simp [reqOk, hh]
    go_enter Try.func37, Try.ntmps37
    go_wp2_with (first
      | (go_at_call 34; refine (within_any _ _ _ _).mono ?_; rintro e w' ⟨rfl, rfl⟩)
      | (go_at_call 40; refine (isId_any _ _).mono ?_; rintro e w' ⟨rfl, rfl⟩)
      | (go_at_call 25; refine (isDay_any _ _).mono ?_; rintro e w' ⟨rfl, rfl⟩))
    all_goals first
      | (exfalso; apply hh; simp [headOk, *]; omega)
      | (go_ret; exact ⟨by rw [hans.out]; rfl, by go_grown⟩)

end Go.Proofs.Ytonfopelfccnpaa
