/-
  PlaceFrom by the reference and by the program.
  Conditions: those written at each theorem.
-/
import Derived.Test.YtnlhjbplpnkjbaaP16a
namespace Go.Proofs.Ytnlhjbplpnkjbaa
open Go.RowKit Go.BigFrame
set_option maxRecDepth 100000

/-- the number of partners at the left -/
def placeF : List (Int × Int) → Int
  | [] => 0
  | p :: r => (1 - p.1) + placeF r
def pfAns (l : List (Int × Int)) : Value := if pathB l = true then .tuple #[.int .i64 (placeF l), .bool true] else .tuple #[.int .i64 0, .bool false]
theorem pfAns_form (l : List (Int × Int)) : ∃ (x : Int) (y : Bool), pfAns l = .tuple #[.int .i64 x, .bool y] := by
  unfold pfAns; split <;> exact ⟨_, _, rfl⟩

set_option maxHeartbeats 400000 in
theorem implPlaceFrom_any (l : List (Int × Int)) (A : Option Addr) (c : Nat) (hl : l.length ≤ 1048576) (w : World) (hr : Rd w 2 A l.length (cells2 l)) :
    Calls Try.prog 7 #[.slice A l.length c] w fun e w' => e = .returned (pfAns l) ∧ Below w.heap.size w w' := by
  have HI := Lib.hid (isPath_any l A c hl w hr)
  have HR := Lib.hid hr
  clear hr
  by_cases h1 : pathB l = true
  · have e1 : Hid (pfAns l = .tuple #[.int .i64 (placeF l), .bool true]) := if_pos h1
    obtain ⟨hst, hl8⟩ := pathB_true h1
    have HS := Lib.hid hst
    clear hst
    go_enter Try.func7, Try.ntmps7
    go_wp2_with fail
    refine HI.out.mono ?_
    rintro e w1 ⟨rfl, hb1⟩
    rw [h1]
    have B1 := Lib.hid hb1
    clear hb1
    go_wp2_with fail
    go_loopw [4, 12] (fun v4 v12 wr => ∃ (k : Nat) (s : Int), k ≤ l.length ∧ v12 = .int .i64 k ∧ v4 = .int .i64 s ∧ (0 ≤ s ∧ s ≤ k) ∧ Below w.heap.size w wr ∧ Hid (placeF l = s + placeF (l.drop k))) (fun _ v12 _ => l.length - (intOf v12).toNat)
    case atStart => exact ⟨0, 0, Nat.zero_le _, rfl, rfl, by omega, B1.out, by show _ = _; simp⟩
    case round =>
      obtain ⟨k, s, hk, rfl, rfl, hs, hb, K⟩ := hrel
      by_cases hlt : k < l.length
      · obtain ⟨gb, go, rfl, hgb, hcell⟩ := (HR.out.below hb).2 (by omega)
        obtain ⟨h0, h1⟩ := cells2_at hcell hlt
        clear hcell
        have hlt' : ((k : Int) < (l.length : Int)) := by omega
        have h01 := (HS.out k hlt).1
        have K2 : Hid (placeF l = (s + (1 - l[k].1)) + placeF (l.drop (k + 1))) := by
          show _ = _; rw [K.out, List.drop_eq_getElem_cons hlt, placeF]; omega
        have HB := Lib.hid (Below.alloc hb hb.size (.cells #[.int .i64 l[k].1, .int .i64 l[k].2] 29))
        clear K hb
        go_wp2
        go_roundw
        case rel => exact ⟨k + 1, _, by omega, by go_num, rfl, by omega, HB.out, K2⟩
        case measure => simp [intOf]; omega
      · have K2 : Hid (placeF l = s) := by show _ = _; rw [K.out, List.drop_of_length_le (by omega), placeF]; omega
        clear K
        go_wp2
        go_ret2
        exact ⟨by rw [e1.out, K2.out]; rfl, hb⟩
  · have e1 : Hid (pfAns l = .tuple #[.int .i64 0, .bool false]) := if_neg h1
    go_enter Try.func7, Try.ntmps7
    go_wp2_with fail
    refine HI.out.mono ?_
    rintro e w1 ⟨rfl, hb1⟩
    rw [show pathB l = false by simpa using h1]
    go_wp2
    go_ret2
    exact ⟨by rw [e1.out]; rfl, hb1⟩

set_option maxHeartbeats 400000 in
theorem specPlaceFrom_any (l : List (Int × Int)) (A : Option Addr) (c : Nat) (hl : l.length ≤ 1048576) (w : World) (hr : Rd w 2 A l.length (cells2 l)) :
    Calls Try.prog 5 #[.slice A l.length c] w fun e w' => e = .returned (pfAns l) ∧ Below w.heap.size w w' := by
  have HI := Lib.hid (l16Path_any l A c hl w hr)
  have HR := Lib.hid hr
  clear hr
  by_cases h1 : pathB l = true
  · have e1 : Hid (pfAns l = .tuple #[.int .i64 (placeF l), .bool true]) := if_pos h1
    obtain ⟨hst, hl8⟩ := pathB_true h1
    have HS := Lib.hid hst
    clear hst
    go_enter Try.func5, Try.ntmps5
    go_wp2_with fail
    refine HI.out.mono ?_
    rintro e w1 ⟨rfl, rfl⟩
    rw [h1]
    go_wp2_with fail
    go_loop [4, 5] (fun v4 v5 => ∃ (k : Nat) (s : Int), k ≤ l.length ∧ v5 = .int .i64 k ∧ v4 = .int .i64 s ∧ (0 ≤ s ∧ s ≤ k) ∧ Hid (placeF l = s + placeF (l.drop k))) (fun _ v5 => l.length - (intOf v5).toNat)
    case atStart => exact ⟨0, 0, Nat.zero_le _, rfl, rfl, by omega, by show _ = _; simp⟩
    case round =>
      obtain ⟨k, s, hk, rfl, rfl, hs, K⟩ := hrel
      by_cases hlt : k < l.length
      · obtain ⟨gb, go, rfl, hgb, hcell⟩ := HR.out.2 (by omega)
        obtain ⟨h0, h1⟩ := cells2_at hcell hlt
        clear hcell
        have hlt' : ((k : Int) < (l.length : Int)) := by omega
        have h01 := (HS.out k hlt).1
        have K1 := K.out
        rw [List.drop_eq_getElem_cons hlt, placeF] at K1
        by_cases hz : l[k].1 = 0
        · have K2 : Hid (placeF l = (s + 1) + placeF (l.drop (k + 1))) := by show _ = _; rw [K1, hz]; omega
          have hze : (l[k].1 == 0) = true := by simpa using hz
          clear K K1 hz
          go_wp2
          go_round
          case rel => exact ⟨k + 1, s + 1, by omega, by go_num, rfl, by omega, K2⟩
          case measure => simp [intOf]; omega
        · have h9 : l[k].1 = 1 := by omega
          have K2 : Hid (placeF l = s + placeF (l.drop (k + 1))) := by show _ = _; rw [K1, h9]; omega
          have hze : (l[k].1 == 0) = false := by simpa using hz
          clear K K1 h9
          go_wp2
          go_round
          case rel => exact ⟨k + 1, s, by omega, by go_num, rfl, by omega, K2⟩
          case measure => simp [intOf]; omega
      · have K2 : Hid (placeF l = s) := by show _ = _; rw [K.out, List.drop_of_length_le (by omega), placeF]; omega
        clear K
        go_wp2
        go_ret2
        exact ⟨by rw [e1.out, K2.out]; rfl, Below.refl _ _⟩
  · have e1 : Hid (pfAns l = .tuple #[.int .i64 0, .bool false]) := if_neg h1
    go_enter Try.func5, Try.ntmps5
    go_wp2_with fail
    refine HI.out.mono ?_
    rintro e w1 ⟨rfl, rfl⟩
    rw [show pathB l = false by simpa using h1]
    go_wp2
    go_ret2
    exact ⟨by rw [e1.out]; rfl, Below.refl _ _⟩

end Go.Proofs.Ytnlhjbplpnkjbaa
