/-
  The walks of HolderOf: by the reference and by the program.
  Conditions: those written at each theorem.
-/
import Derived.Test.YtcneipheipneaaaP17c
namespace Go.Proofs.Ytcneipheipneaaa
open Go.RowKit Go.BigFrame

theorem holdF_hit {r d : Int} {h : Hand} {t : List Hand} {who : Int} (h1 : h.record = r) (h2 : h.day ≤ d) : holdF r d (h :: t) who = holdF r d t h.taker := by
  simp only [holdF]; rw [if_pos ⟨h1, h2⟩]
theorem holdF_miss {r d : Int} {h : Hand} {t : List Hand} {who : Int} (hn : ¬ (h.record = r ∧ h.day ≤ d)) : holdF r d (h :: t) who = holdF r d t who := by
  simp only [holdF]; rw [if_neg hn]

set_option maxHeartbeats 400000 in
theorem l17Holder_any (l : List Hand) (A : Option Addr) (c : Nat) (r d : Int) (hl : l.length ≤ 1048577) (w : World) (hr : Rd w 6 A l.length (cellsHand l)) :
    Calls Try.prog 40 #[.slice A l.length c, .int .i64 r, .int .i64 d] w fun e w' => e = .returned (.int .i64 (holdF r d l 0)) ∧ w = w' := by
  obtain ⟨hx, hrd⟩ := hr
  have HR := Lib.hid hrd
  clear hx hrd
  go_enter Try.func40, Try.ntmps40
  go_wp2
  go_loop [7, 8] (fun v7 v8 => ∃ (k : Nat) (who : Int), k ≤ l.length ∧ v8 = .int .i64 k ∧ v7 = .int .i64 who ∧ Hid (holdF r d l 0 = holdF r d (l.drop k) who)) (fun _ v => l.length - (intOf v).toNat)
  case atStart => exact ⟨0, 0, Nat.zero_le _, rfl, rfl, by show _ = _; rfl⟩
  case round =>
    obtain ⟨k, who, hk, rfl, rfl, K⟩ := hrel
    by_cases hlt : k < l.length
    · obtain ⟨gb, go, rfl, hgb, hcell⟩ := HR.out (by omega)
      obtain ⟨c0, c1, c2, c3, c4, c5⟩ := cellsHand_at hcell hlt
      clear hcell
      have hlt' : ((k : Int) < (l.length : Int)) := by omega
      have K1 := K.out
      rw [List.drop_eq_getElem_cons hlt] at K1
      have K1 := Lib.hid K1
      clear K
      by_cases h1 : l[k].record = r
      · have q1 : (l[k].record == r) = true := by simpa using h1
        by_cases h2 : l[k].day ≤ d
        · have K2 : Hid (holdF r d l 0 = holdF r d (l.drop (k + 1)) l[k].taker) := by show _ = _; rw [K1.out, holdF_hit h1 h2]
          have H1 := Lib.hid h1
          clear K1 h1
          go_wp2
          go_round
          case rel => exact ⟨k + 1, _, by omega, by go_num, rfl, K2⟩
          case measure => simp [intOf]; omega
        · have K2 : Hid (holdF r d l 0 = holdF r d (l.drop (k + 1)) who) := by show _ = _; rw [K1.out, holdF_miss fun h => h2 h.2]
          clear K1 h1
          go_wp2
          go_round
          case rel => exact ⟨k + 1, _, by omega, by go_num, rfl, K2⟩
          case measure => simp [intOf]; omega
      · have q1 : (l[k].record == r) = false := by simpa using h1
        have K2 : Hid (holdF r d l 0 = holdF r d (l.drop (k + 1)) who) := by show _ = _; rw [K1.out, holdF_miss fun h => h1 h.1]
        clear K1 h1
        go_wp2
        go_round
        case rel => exact ⟨k + 1, _, by omega, by go_num, rfl, K2⟩
        case measure => simp [intOf]; omega
    · have K2 : Hid (holdF r d l 0 = who) := by show _ = _; rw [K.out, List.drop_of_length_le (by omega)]; rfl
      go_wp2
      go_ret
      exact ⟨by rw [K2.out]; rfl, rfl⟩

set_option maxHeartbeats 400000 in
theorem holderOf_any (l : List Hand) (A : Option Addr) (c : Nat) (r d : Int) (hl : l.length ≤ 1048577) (w : World) (hr : Rd w 6 A l.length (cellsHand l)) :
    Calls Try.prog 41 #[.slice A l.length c, .int .i64 r, .int .i64 d] w fun e w' => e = .returned (.int .i64 (holdF r d l 0)) ∧ Below w.heap.size w w' := by
  obtain ⟨hx, hrd⟩ := hr
  have HR := Lib.hid hrd
  clear hx hrd
  go_enter Try.func41, Try.ntmps41
  go_wp2
  go_loopw [7, 12] (fun v7 v8 wr => ∃ (k : Nat) (who : Int), k ≤ l.length ∧ v8 = .int .i64 k ∧ v7 = .int .i64 who ∧ Hid (holdF r d l 0 = holdF r d (l.drop k) who) ∧ Below w.heap.size w wr) (fun _ v _ => l.length - (intOf v).toNat)
  case atStart => exact ⟨0, 0, Nat.zero_le _, rfl, rfl, by show _ = _; rfl, Below.refl _ _⟩
  case round =>
    obtain ⟨k, who, hk, rfl, rfl, K, hb⟩ := hrel
    by_cases hlt : k < l.length
    · obtain ⟨gb, go, rfl, hgb, hcell⟩ := HR.out (by omega)
      obtain ⟨h0, h1, h2, h3, h4, h5⟩ := cellsHand_at hcell hlt
      have c0 : wr.cell? ⟨gb, go + k * 6, none⟩ = _ := (hb.cell (p := ⟨gb, go + k * 6, none⟩) hgb).trans h0
      have c1 : wr.cell? ⟨gb, go + k * 6 + 1, none⟩ = _ := (hb.cell (p := ⟨gb, go + k * 6 + 1, none⟩) hgb).trans h1
      have c2 : wr.cell? ⟨gb, go + k * 6 + 2, none⟩ = _ := (hb.cell (p := ⟨gb, go + k * 6 + 2, none⟩) hgb).trans h2
      have c3 : wr.cell? ⟨gb, go + k * 6 + 3, none⟩ = _ := (hb.cell (p := ⟨gb, go + k * 6 + 3, none⟩) hgb).trans h3
      have c4 : wr.cell? ⟨gb, go + k * 6 + 4, none⟩ = _ := (hb.cell (p := ⟨gb, go + k * 6 + 4, none⟩) hgb).trans h4
      have c5 : wr.cell? ⟨gb, go + k * 6 + 5, none⟩ = _ := (hb.cell (p := ⟨gb, go + k * 6 + 5, none⟩) hgb).trans h5
      have HB := Lib.hid hb
      have hsz := hb.size
      clear h0 h1 h2 h3 h4 h5 hcell hb
      have hlt' : ((k : Int) < (l.length : Int)) := by omega
      have K1 := K.out
      rw [List.drop_eq_getElem_cons hlt] at K1
      have K1 := Lib.hid K1
      clear K
      by_cases h1 : l[k].record = r
      · have q1 : (l[k].record == r) = true := by simpa using h1
        by_cases h2 : l[k].day ≤ d
        · have K2 : Hid (holdF r d l 0 = holdF r d (l.drop (k + 1)) l[k].taker) := by show _ = _; rw [K1.out, holdF_hit h1 h2]
          have H1 := Lib.hid h1
          clear K1 h1
          go_wp2
          go_roundw
          case rel => exact ⟨k + 1, _, by omega, by go_num, rfl, K2, by have h := HB.out; go_grown⟩
          case measure => simp [intOf]; omega
        · have K2 : Hid (holdF r d l 0 = holdF r d (l.drop (k + 1)) who) := by show _ = _; rw [K1.out, holdF_miss fun h => h2 h.2]
          clear K1 h1
          go_wp2
          go_roundw
          case rel => exact ⟨k + 1, _, by omega, by go_num, rfl, K2, by have h := HB.out; go_grown⟩
          case measure => simp [intOf]; omega
      · have q1 : (l[k].record == r) = false := by simpa using h1
        have K2 : Hid (holdF r d l 0 = holdF r d (l.drop (k + 1)) who) := by show _ = _; rw [K1.out, holdF_miss fun h => h1 h.1]
        clear K1 h1
        go_wp2
        go_roundw
        case rel => exact ⟨k + 1, _, by omega, by go_num, rfl, K2, by have h := HB.out; go_grown⟩
        case measure => simp [intOf]; omega
    · have K2 : Hid (holdF r d l 0 = who) := by show _ = _; rw [K.out, List.drop_of_length_le (by omega)]; rfl
      go_wp2
      go_ret
      exact ⟨by rw [K2.out]; rfl, hb⟩

/-- what HolderOf answers -/
noncomputable def hoAns (l : List Hand) (r d : Int) : Value :=
  if custB l = true ∧ inB r 1 999 = true ∧ inB d 0 20000 = true then .tuple #[.int .i64 (holdF r d l 0), .bool (decide (0 < holdF r d l 0))] else .tuple #[.int .i64 0, .bool false]
theorem hoAns_form (l : List Hand) (r d : Int) : ∃ (x : Int) (y : Bool), hoAns l r d = .tuple #[.int .i64 x, .bool y] := by
  unfold hoAns
  split <;> exact ⟨_, _, rfl⟩

set_option maxHeartbeats 400000 in
theorem specHolderOf_any (l : List Hand) (r d : Int) (A : Option Addr) (c : Nat) (hl : l.length ≤ 1048576) (w : World) (hr : Rd w 6 A l.length (cellsHand l)) :
    Calls Try.prog 17 #[.slice A l.length c, .int .i64 r, .int .i64 d] w fun e w' => e = .returned (hoAns l r d) ∧ Below w.heap.size w w' := by
  by_cases h : custB l = true ∧ inB r 1 999 = true ∧ inB d 0 20000 = true
  · have hans : Hid (hoAns l r d = .tuple #[.int .i64 (holdF r d l 0), .bool (decide (0 < holdF r d l 0))]) := if_pos h
    obtain ⟨h1, h2, h3⟩ := h
    go_enter Try.func17, Try.ntmps17
    go_wp2_with (first
      | (go_at_call 35; refine (l17Good_any l A c (by omega) _ hr).mono ?_; rintro e w1 ⟨rfl, hb1⟩; have hr1 := hr.below hb1)
      | (go_at_call 38; refine (l17Record_any _ _).mono ?_; rintro e w' ⟨rfl, rfl⟩)
      | (go_at_call 39; refine (l2Day_any _ _).mono ?_; rintro e w' ⟨rfl, rfl⟩)
      | (go_at_call 40; refine (l17Holder_any l A c r d (by omega) _ hr1).mono ?_; rintro e w' ⟨rfl, rfl⟩))
    go_ret2
    exact ⟨by rw [hans.out]; rfl, hb1⟩
  · have hans : Hid (hoAns l r d = .tuple #[.int .i64 0, .bool false]) := if_neg h
    go_enter Try.func17, Try.ntmps17
    go_wp2_with (first
      | (go_at_call 35; refine (l17Good_any l A c (by omega) _ hr).mono ?_; rintro e w1 ⟨rfl, hb1⟩)
      | (go_at_call 38; refine (l17Record_any _ _).mono ?_; rintro e w' ⟨rfl, rfl⟩)
      | (go_at_call 39; refine (l2Day_any _ _).mono ?_; rintro e w' ⟨rfl, rfl⟩))
    all_goals first
      | (go_ret2; exact ⟨by rw [hans.out]; rfl, hb1⟩)
      | (exfalso; clear hans hb1 hr; simp_all; done)

set_option maxHeartbeats 400000 in
theorem implHolderOf_any (l : List Hand) (r d : Int) (A : Option Addr) (c : Nat) (hl : l.length ≤ 1048576) (w : World) (hr : Rd w 6 A l.length (cellsHand l)) :
    Calls Try.prog 18 #[.slice A l.length c, .int .i64 r, .int .i64 d] w fun e w' => e = .returned (hoAns l r d) ∧ Below w.heap.size w w' := by
  by_cases h : custB l = true ∧ inB r 1 999 = true ∧ inB d 0 20000 = true
  · have hans : Hid (hoAns l r d = .tuple #[.int .i64 (holdF r d l 0), .bool (decide (0 < holdF r d l 0))]) := if_pos h
    obtain ⟨h1, h2, h3⟩ := h
    go_enter Try.func18, Try.ntmps18
    go_wp2_with (first
      | (go_at_call 15; refine (implIsCustody_any l A c (by omega) _ hr).mono ?_; rintro e w1 ⟨rfl, hb1⟩; have hr1 := hr.below hb1)
      | (go_at_call 31; refine (isRecordId_any _ _).mono ?_; rintro e w' ⟨rfl, rfl⟩)
      | (go_at_call 33; refine (isDay_any _ _).mono ?_; rintro e w' ⟨rfl, rfl⟩)
      | (go_at_call 41; refine (holderOf_any l A c r d (by omega) _ hr1).mono ?_; rintro e w2 ⟨rfl, hb2⟩))
    go_ret2
    exact ⟨by rw [hans.out]; rfl, Below.trans' hb1 hb2⟩
  · have hans : Hid (hoAns l r d = .tuple #[.int .i64 0, .bool false]) := if_neg h
    go_enter Try.func18, Try.ntmps18
    go_wp2_with (first
      | (go_at_call 15; refine (implIsCustody_any l A c (by omega) _ hr).mono ?_; rintro e w1 ⟨rfl, hb1⟩)
      | (go_at_call 31; refine (isRecordId_any _ _).mono ?_; rintro e w' ⟨rfl, rfl⟩)
      | (go_at_call 33; refine (isDay_any _ _).mono ?_; rintro e w' ⟨rfl, rfl⟩))
    all_goals first
      | (go_ret2; exact ⟨by rw [hans.out]; rfl, hb1⟩)
      | (exfalso; clear hans hb1 hr; simp_all; done)

end Go.Proofs.Ytcneipheipneaaa
