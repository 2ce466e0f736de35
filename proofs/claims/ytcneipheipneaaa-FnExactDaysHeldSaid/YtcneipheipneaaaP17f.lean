/-
  The walk of the reference's DaysHeld.
  Conditions: those written at each theorem.
-/
import Derived.Test.YtcneipheipneaaaP17e
namespace Go.Proofs.Ytcneipheipneaaa
open Go.RowKit Go.BigFrame

theorem endS_hit {r d : Int} {h : Hand} {t : List Hand} (h1 : h.record = r) (h2 : h.day < d) : endS r d (h :: t) = h.day := by
  simp only [endS]; rw [if_pos ⟨h1, h2⟩]
theorem endS_miss {r d : Int} {h : Hand} {t : List Hand} (hn : ¬ (h.record = r ∧ h.day < d)) : endS r d (h :: t) = endS r d t := by
  simp only [endS]; rw [if_neg hn]
theorem endS_bd {r day : Int} {t : List Hand} (hd : 0 ≤ day ∧ day ≤ 20000) (h : ∀ x ∈ t, 0 ≤ x.day ∧ x.day ≤ 20000) : 0 ≤ endS r day t ∧ endS r day t ≤ 20000 := by
  induction t with
  | nil => exact hd
  | cons x t ih =>
    have := h x (by simp)
    simp only [endS]
    split
    · omega
    · exact ih fun y hy => h y (by simp [hy])

set_option maxHeartbeats 1600000 in
theorem specDaysHeld_any (l : List Hand) (r who d : Int) (A : Option Addr) (c : Nat) (hl : l.length ≤ 1048576) (w : World) (hr : Rd w 6 A l.length (cellsHand l)) :
    Calls Try.prog 19 #[.slice A l.length c, .int .i64 r, .int .i64 who, .int .i64 d] w fun e w' => e = .returned (dhAns l r who d) ∧ Below w.heap.size w w' := by
  by_cases h : custB l = true ∧ inB r 1 999 = true ∧ inB who 1 20 = true ∧ inB d 0 20000 = true
  · have hans0 : dhAns l r who d = .tuple #[.int .i64 (heldF r who d (endF r d) l), .bool true] := if_pos h
    obtain ⟨h1, h2, h3, h4⟩ := h
    have hcu := Lib.hid (custB_true h1)
    have hln : l.length ≤ 12 := hcu.out.1
    have hans : Hid (dhAns l r who d = .tuple #[.int .i64 (heldF r who d (endS r d) l), .bool true]) := by
      show _ = _; rw [hans0, heldF_eq (risen_of hcu.out.2.2.1)]
    clear hans0
    have hday : Hid (∀ x ∈ l, 0 ≤ x.day ∧ x.day ≤ 20000) := fun x hx => by
      obtain ⟨j, hj, rfl⟩ := List.getElem_of_mem hx
      exact handOk_day (hcu.out.2.1 j hj)
    have hdd := inB_true h4
    go_enter Try.func19, Try.ntmps19
    go_wp2_with (first
      | (go_at_call 35; refine (l17Good_any l A c (by omega) _ hr).mono ?_; rintro e w1 ⟨rfl, hb1⟩; have HR := Lib.hid (hr.below hb1); have HB1 := Lib.hid hb1; clear hr hb1)
      | (go_at_call 38; refine (l17Record_any _ _).mono ?_; rintro e w' ⟨rfl, rfl⟩)
      | (go_at_call 42; refine (l17Who_any _ _).mono ?_; rintro e w' ⟨rfl, rfl⟩)
      | (go_at_call 39; refine (l2Day_any _ _).mono ?_; rintro e w' ⟨rfl, rfl⟩))
    go_loopw [10, 11] (fun v10 v35 wr => ∃ (k : Nat) (s : Int), k ≤ l.length ∧ v35 = .int .i64 k ∧ v10 = .int .i64 s ∧ -20000 * (k : Int) ≤ s ∧ s ≤ 20000 * (k : Int) ∧ Hid (heldF r who d (endS r d) l = s + heldF r who d (endS r d) (l.drop k)) ∧ Below w1.heap.size w1 wr) (fun _ v _ => l.length - (intOf v).toNat)
    case atStart => exact ⟨0, 0, Nat.zero_le _, rfl, rfl, by omega, by omega, by show _ = _; rw [List.drop_zero]; omega, Below.refl _ _⟩
    case round =>
      obtain ⟨k, s, hk, rfl, rfl, s1, s2, K, hb⟩ := hrel
      obtain ⟨wo, rfl⟩ : ∃ wo : World, wo = wr := ⟨_, rfl⟩
      by_cases hlt : k < l.length
      · obtain ⟨gb, go, rfl, hgb, hcell⟩ := HR.out.2 (by omega)
        obtain ⟨g0, g1, g2, g3, g4, g5⟩ := cellsHand_at hcell hlt
        have HC := Lib.hid hcell
        have c0 : wo.cell? ⟨gb, go + k * 6, none⟩ = _ := (hb.cell (p := ⟨gb, go + k * 6, none⟩) hgb).trans g0
        have c1 : wo.cell? ⟨gb, go + k * 6 + 1, none⟩ = _ := (hb.cell (p := ⟨gb, go + k * 6 + 1, none⟩) hgb).trans g1
        have c2 : wo.cell? ⟨gb, go + k * 6 + 2, none⟩ = _ := (hb.cell (p := ⟨gb, go + k * 6 + 2, none⟩) hgb).trans g2
        have c3 : wo.cell? ⟨gb, go + k * 6 + 3, none⟩ = _ := (hb.cell (p := ⟨gb, go + k * 6 + 3, none⟩) hgb).trans g3
        have c4 : wo.cell? ⟨gb, go + k * 6 + 4, none⟩ = _ := (hb.cell (p := ⟨gb, go + k * 6 + 4, none⟩) hgb).trans g4
        have c5 : wo.cell? ⟨gb, go + k * 6 + 5, none⟩ = _ := (hb.cell (p := ⟨gb, go + k * 6 + 5, none⟩) hgb).trans g5
        have hdk := hday.out l[k] (List.getElem_mem hlt)
        have hsz := hb.size
        have HB := Lib.hid hb
        clear g0 g1 g2 g3 g4 g5 hcell hb
        have hlt' : ((k : Int) < (l.length : Int)) := by omega
        have K1 := K.out
        rw [List.drop_eq_getElem_cons hlt] at K1
        have K1 := Lib.hid K1
        clear K
        by_cases q1 : l[k].record = r
        · have t1 : (l[k].record != r) = false := by simpa using q1
          by_cases q2 : l[k].taker = who
          · have t2 : (l[k].taker != who) = false := by simpa using q2
            by_cases q3 : l[k].day ≤ d
            · have K2 : Hid (heldF r who d (endS r d) l = (s + (endS r d (l.drop (k + 1)) - l[k].day)) + heldF r who d (endS r d) (l.drop (k + 1))) := heldF_hit K1.out q1 q2 q3
              clear K1 q1 q2
              go_wp2_with fail
              go_loop [13, 14] (fun v13 v14 => ∃ (m : Nat) (E : Int), k + 1 ≤ m ∧ m ≤ l.length ∧ v14 = .int .i64 ((m : Int) - 1) ∧ v13 = .int .i64 E ∧ Hid (endS r d (l.drop m) = E)) (fun _ v => (intOf v + 1).toNat)
              case atStart => exact ⟨l.length, d, by omega, Nat.le_refl _, rfl, rfl, by show _ = _; rw [List.drop_of_length_le (Nat.le_refl _)]; rfl⟩
              case round =>
                obtain ⟨m, E, m1, m2, rfl, rfl, KE⟩ := hrel
                by_cases hm : k + 1 < m
                · obtain ⟨j, rfl⟩ : ∃ j, m = j + 1 := ⟨m - 1, by omega⟩
                  have hj : j < l.length := by omega
                  obtain ⟨p0, _, _, p3, _, _⟩ := cellsHand_at HC.out hj
                  have d0 : wo.cell? ⟨gb, go + j * 6, none⟩ = _ := (HB.out.cell (p := ⟨gb, go + j * 6, none⟩) hgb).trans p0
                  have d3 : wo.cell? ⟨gb, go + j * 6 + 3, none⟩ = _ := (HB.out.cell (p := ⟨gb, go + j * 6 + 3, none⟩) hgb).trans p3
                  clear p0 p3
                  rw [show (((j + 1 : Nat) : Int) - 1) = (j : Int) by omega]
                  have hgl : gb < wo.heap.size := by omega
                  have hjk : (k : Int) < (j : Int) := by omega
                  have hjl : (j : Int) < (l.length : Int) := by omega
                  by_cases r1 : l[j].record = r
                  · have t5 : (l[j].record == r) = true := by simpa using r1
                    by_cases r2 : l[j].day < d
                    · have KE2 : Hid (endS r d (l.drop j) = l[j].day) := by show _ = _; rw [List.drop_eq_getElem_cons hj, endS_hit r1 r2]
                      clear KE r1
                      go_wp2
                      go_round
                      case rel => exact ⟨j, _, by omega, by omega, by go_num, rfl, KE2⟩
                      case measure => simp [intOf]
                    · have KE2 : Hid (endS r d (l.drop j) = E) := by show _ = _; rw [List.drop_eq_getElem_cons hj, endS_miss fun h => r2 h.2]; exact KE.out
                      clear KE r1
                      go_wp2
                      go_round
                      case rel => exact ⟨j, _, by omega, by omega, by go_num, rfl, KE2⟩
                      case measure => simp [intOf]
                  · have t5 : (l[j].record == r) = false := by simpa using r1
                    have KE2 : Hid (endS r d (l.drop j) = E) := by show _ = _; rw [List.drop_eq_getElem_cons hj, endS_miss fun h => r1 h.1]; exact KE.out
                    clear KE r1
                    go_wp2
                    go_round
                    case rel => exact ⟨j, _, by omega, by omega, by go_num, rfl, KE2⟩
                    case measure => simp [intOf]
                · obtain rfl : m = k + 1 := by omega
                  have hbd : 0 ≤ E ∧ E ≤ 20000 := by
                    rw [← KE.out]; exact endS_bd hdd fun x hx => hday.out x (List.mem_of_mem_drop hx)
                  have K3 : Hid (heldF r who d (endS r d) l = (s + E - l[k].day) + heldF r who d (endS r d) (l.drop (k + 1))) := by
                    show _ = _; rw [K2.out, KE.out]; omega
                  clear KE K2
                  rw [show (((k + 1 : Nat) : Int) - 1) = (k : Int) by omega]
                  go_wp2
                  go_roundw
                  case rel => exact ⟨k + 1, _, by omega, by go_num, rfl, by omega, by omega, K3, by have h := HB.out; go_grown⟩
                  case measure => simp [intOf]; omega
            · have K2 : Hid (heldF r who d (endS r d) l = s + heldF r who d (endS r d) (l.drop (k + 1))) := heldF_miss K1.out fun h => q3 h.2.2
              clear K1 q1 q2
              go_wp2
              go_roundw
              case rel => exact ⟨k + 1, s, by omega, by go_num, rfl, by omega, by omega, K2, by have h := HB.out; go_grown⟩
              case measure => simp [intOf]; omega
          · have t2 : (l[k].taker != who) = true := by simpa using q2
            have K2 : Hid (heldF r who d (endS r d) l = s + heldF r who d (endS r d) (l.drop (k + 1))) := heldF_miss K1.out fun h => q2 h.2.1
            clear K1 q1 q2
            go_wp2
            go_roundw
            case rel => exact ⟨k + 1, s, by omega, by go_num, rfl, by omega, by omega, K2, by have h := HB.out; go_grown⟩
            case measure => simp [intOf]; omega
        · have t1 : (l[k].record != r) = true := by simpa using q1
          have K2 : Hid (heldF r who d (endS r d) l = s + heldF r who d (endS r d) (l.drop (k + 1))) := heldF_miss K1.out fun h => q1 h.1
          clear K1 q1
          go_wp2
          go_roundw
          case rel => exact ⟨k + 1, s, by omega, by go_num, rfl, by omega, by omega, K2, by have h := HB.out; go_grown⟩
          case measure => simp [intOf]; omega
      · have K2 : Hid (heldF r who d (endS r d) l = s) := by
          show _ = _; rw [K.out, List.drop_of_length_le (by omega)]; simp [heldF]
        have HB := Lib.hid (Below.trans' HB1.out hb)
        clear K hb
        go_wp2
        go_ret2
        exact ⟨by rw [hans.out, K2.out]; rfl, HB.out⟩
  · have hans : Hid (dhAns l r who d = .tuple #[.int .i64 0, .bool false]) := if_neg h
    go_enter Try.func19, Try.ntmps19
    go_wp2_with (first
      | (go_at_call 35; refine (l17Good_any l A c (by omega) _ hr).mono ?_; rintro e w1 ⟨rfl, hb1⟩)
      | (go_at_call 38; refine (l17Record_any _ _).mono ?_; rintro e w' ⟨rfl, rfl⟩)
      | (go_at_call 42; refine (l17Who_any _ _).mono ?_; rintro e w' ⟨rfl, rfl⟩)
      | (go_at_call 39; refine (l2Day_any _ _).mono ?_; rintro e w' ⟨rfl, rfl⟩))
    all_goals first
      | (go_ret2; exact ⟨by rw [hans.out]; rfl, hb1⟩)
      | (exfalso; clear hans hb1 hr; simp_all; done)

end Go.Proofs.Ytcneipheipneaaa
