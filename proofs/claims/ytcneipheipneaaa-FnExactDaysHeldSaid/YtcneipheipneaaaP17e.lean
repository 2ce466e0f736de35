/-
  The walks of DaysHeld: by the reference and by the program.
  Conditions: those written at each theorem.
-/
import Derived.Test.YtcneipheipneaaaP17d
import Derived.Test.YtcneipheipneaaaL17b
namespace Go.Proofs.Ytcneipheipneaaa
open Go.RowKit Go.BigFrame

/-- what DaysHeld answers -/
noncomputable def dhAns (l : List Hand) (r who d : Int) : Value :=
  if custB l = true ∧ inB r 1 999 = true ∧ inB who 1 20 = true ∧ inB d 0 20000 = true then .tuple #[.int .i64 (heldF r who d (endF r d) l), .bool true] else .tuple #[.int .i64 0, .bool false]
theorem dhAns_form (l : List Hand) (r who d : Int) : ∃ (x : Int) (y : Bool), dhAns l r who d = .tuple #[.int .i64 x, .bool y] := by
  unfold dhAns
  split <;> exact ⟨_, _, rfl⟩

theorem heldF_hit {r who day : Int} {e : List Hand → Int} {h : Hand} {t : List Hand} {x s : Int} (hx : x = s + heldF r who day e (h :: t)) (h1 : h.record = r) (h2 : h.taker = who) (h3 : h.day ≤ day) : x = (s + (e t - h.day)) + heldF r who day e t := by
  simp only [heldF] at hx; rw [if_pos ⟨h1, h2, h3⟩] at hx; omega
theorem heldF_miss {r who day : Int} {e : List Hand → Int} {h : Hand} {t : List Hand} {x s : Int} (hx : x = s + heldF r who day e (h :: t)) (hn : ¬ (h.record = r ∧ h.taker = who ∧ h.day ≤ day)) : x = s + heldF r who day e t := by
  simp only [heldF] at hx; rw [if_neg hn] at hx; omega

set_option maxHeartbeats 1600000 in
theorem implDaysHeld_any (l : List Hand) (r who d : Int) (A : Option Addr) (c : Nat) (hl : l.length ≤ 1048576) (w : World) (hr : Rd w 6 A l.length (cellsHand l)) :
    Calls Try.prog 20 #[.slice A l.length c, .int .i64 r, .int .i64 who, .int .i64 d] w fun e w' => e = .returned (dhAns l r who d) ∧ Below w.heap.size w w' := by
  by_cases h : custB l = true ∧ inB r 1 999 = true ∧ inB who 1 20 = true ∧ inB d 0 20000 = true
  · have hans : Hid (dhAns l r who d = .tuple #[.int .i64 (heldF r who d (endF r d) l), .bool true]) := if_pos h
    obtain ⟨h1, h2, h3, h4⟩ := h
    have hcu := Lib.hid (custB_true h1)
    have hln : l.length ≤ 12 := hcu.out.1
    have hday : Hid (∀ x ∈ l, 0 ≤ x.day ∧ x.day ≤ 20000) := fun x hx => by
      obtain ⟨j, hj, rfl⟩ := List.getElem_of_mem hx
      exact handOk_day (hcu.out.2.1 j hj)
    have hdd := inB_true h4
    go_enter Try.func20, Try.ntmps20
    go_wp2_with (first
      | (go_at_call 15; refine (implIsCustody_any l A c (by omega) _ hr).mono ?_; rintro e w1 ⟨rfl, hb1⟩; have HR := Lib.hid (hr.below hb1); have HB1 := Lib.hid hb1; clear hr hb1)
      | (go_at_call 31; refine (isRecordId_any _ _).mono ?_; rintro e w' ⟨rfl, rfl⟩)
      | (go_at_call 32; refine (isPerson_any _ _).mono ?_; rintro e w' ⟨rfl, rfl⟩)
      | (go_at_call 33; refine (isDay_any _ _).mono ?_; rintro e w' ⟨rfl, rfl⟩))
    go_loopw [10, 35] (fun v10 v35 wr => ∃ (k : Nat) (s : Int), k ≤ l.length ∧ v35 = .int .i64 k ∧ v10 = .int .i64 s ∧ -20000 * (k : Int) ≤ s ∧ s ≤ 20000 * (k : Int) ∧ Hid (heldF r who d (endF r d) l = s + heldF r who d (endF r d) (l.drop k)) ∧ Below w1.heap.size w1 wr) (fun _ v _ => l.length - (intOf v).toNat)
    case atStart => exact ⟨0, 0, Nat.zero_le _, rfl, rfl, by omega, by omega, by show _ = _; rw [List.drop_zero]; omega, Below.refl _ _⟩
    case round =>
      obtain ⟨k, s, hk, rfl, rfl, s1, s2, K, hb⟩ := hrel
      by_cases hlt : k < l.length
      · obtain ⟨gb, go, rfl, hgb, hcell⟩ := HR.out.2 (by omega)
        obtain ⟨g0, g1, g2, g3, g4, g5⟩ := cellsHand_at hcell hlt
        have HC := Lib.hid hcell
        have c0 : wr.cell? ⟨gb, go + k * 6, none⟩ = _ := (hb.cell (p := ⟨gb, go + k * 6, none⟩) hgb).trans g0
        have c1 : wr.cell? ⟨gb, go + k * 6 + 1, none⟩ = _ := (hb.cell (p := ⟨gb, go + k * 6 + 1, none⟩) hgb).trans g1
        have c2 : wr.cell? ⟨gb, go + k * 6 + 2, none⟩ = _ := (hb.cell (p := ⟨gb, go + k * 6 + 2, none⟩) hgb).trans g2
        have c3 : wr.cell? ⟨gb, go + k * 6 + 3, none⟩ = _ := (hb.cell (p := ⟨gb, go + k * 6 + 3, none⟩) hgb).trans g3
        have c4 : wr.cell? ⟨gb, go + k * 6 + 4, none⟩ = _ := (hb.cell (p := ⟨gb, go + k * 6 + 4, none⟩) hgb).trans g4
        have c5 : wr.cell? ⟨gb, go + k * 6 + 5, none⟩ = _ := (hb.cell (p := ⟨gb, go + k * 6 + 5, none⟩) hgb).trans g5
        have hdk := hday.out l[k] (List.getElem_mem hlt)
        have hsz := hb.size
        have HB := Lib.hid hb
        clear g0 g1 g2 g3 g4 g5 hcell hb
        have hlt' : ((k : Int) < (l.length : Int)) := by omega
        have K1 := K.out
        rw [List.drop_eq_getElem_cons hlt] at K1
        have K1 := Lib.hid K1
        clear K
        by_cases q1 : l[k].record = r
        · have t1 : (l[k].record != r) = false := by simpa using q1
          by_cases q2 : l[k].taker = who
          · have t2 : (l[k].taker != who) = false := by simpa using q2
            by_cases q3 : l[k].day ≤ d
            · have K2 : Hid (heldF r who d (endF r d) l = (s + (endF r d (l.drop (k + 1)) - l[k].day)) + heldF r who d (endF r d) (l.drop (k + 1))) := heldF_hit K1.out q1 q2 q3
              have hbd : 0 ≤ endF r d (l.drop (k + 1)) ∧ endF r d (l.drop (k + 1)) ≤ 20000 := endF_bd hdd fun x hx => hday.out x (List.mem_of_mem_drop hx)
              have HID : Hid ((idxF (ofRec r) (l.drop (k + 1)) (k + 1) = -1 ∧ endF r d (l.drop (k + 1)) = d) ∨ ∃ j, ∃ h : j < (l.drop (k + 1)).length, idxF (ofRec r) (l.drop (k + 1)) (k + 1) = ((k + 1 + j : Nat) : Int) ∧ endF r d (l.drop (k + 1)) = min d (l.drop (k + 1))[j].day) := endF_of_idx _ _
              generalize hE : endF r d (l.drop (k + 1)) = E at K2 hbd HID
              clear hE K1 q1 q2
              have hrr := Lib.hid (HR.out.below HB.out)
              go_wp2_with fail
              refine (next_any1 l _ _ r (k + 1) _ (by omega) (by omega) (by omega) _ (hrr.out.below (by go_grown))).mono ?_
              rintro e w3 ⟨rfl, rfl⟩
              rcases HID.out with ⟨i1, i2⟩ | ⟨j, hj, i1, i2⟩
              · rw [i1]
                have I2 := Lib.hid i2
                clear HID i1 i2
                go_wp2
                go_roundw
                case rel => exact ⟨k + 1, _, by omega, by go_num, rfl, by have := I2.out; omega, by have := I2.out; omega, by have := I2.out; subst this; exact K2, by have h := HB.out; go_grown⟩
                case measure => simp [intOf]; omega
              · have hjl : k + 1 + j < l.length := by rw [List.length_drop] at hj; omega
                rw [List.getElem_drop] at i2
                rw [i1]
                obtain ⟨_, _, _, p3, _, _⟩ := cellsHand_at HC.out hjl
                have c6 : wr.cell? ⟨gb, go + (k + 1 + j) * 6 + 3, none⟩ = _ := (HB.out.cell (p := ⟨gb, go + (k + 1 + j) * 6 + 3, none⟩) hgb).trans p3
                have hgl : gb < wr.heap.size := by omega
                have I2 := Lib.hid i2
                have hdj := hday.out l[k + 1 + j] (List.getElem_mem hjl)
                clear HID i1 i2 p3
                generalize l[k + 1 + j].day = D at c6 I2 hdj
                have hjl2 : ((k + 1 + j : Nat) : Int) < (l.length : Int) := by omega
                have HJ := Lib.hid hj
                clear hj
                generalize k + 1 + j = m at c6 hjl hjl2
                have HE : Hid ((if D < d then D else d) = E) := by show _ = _; have := I2.out; split <;> omega
                go_wp2
                go_roundw
                case rel => exact ⟨k + 1, _, by omega, by go_num, rfl, by have := I2.out; omega, by have := I2.out; omega, by rw [HE.out]; exact K2, by have h := HB.out; go_grown⟩
                case measure => simp [intOf]; omega
            · have K2 : Hid (heldF r who d (endF r d) l = s + heldF r who d (endF r d) (l.drop (k + 1))) := heldF_miss K1.out fun h => q3 h.2.2
              clear K1 q1 q2
              go_wp2
              go_roundw
              case rel => exact ⟨k + 1, s, by omega, by go_num, rfl, by omega, by omega, K2, by have h := HB.out; go_grown⟩
              case measure => simp [intOf]; omega
          · have t2 : (l[k].taker != who) = true := by simpa using q2
            have K2 : Hid (heldF r who d (endF r d) l = s + heldF r who d (endF r d) (l.drop (k + 1))) := heldF_miss K1.out fun h => q2 h.2.1
            clear K1 q1 q2
            go_wp2
            go_roundw
            case rel => exact ⟨k + 1, s, by omega, by go_num, rfl, by omega, by omega, K2, by have h := HB.out; go_grown⟩
            case measure => simp [intOf]; omega
        · have t1 : (l[k].record != r) = true := by simpa using q1
          have K2 : Hid (heldF r who d (endF r d) l = s + heldF r who d (endF r d) (l.drop (k + 1))) := heldF_miss K1.out fun h => q1 h.1
          clear K1 q1
          go_wp2
          go_roundw
          case rel => exact ⟨k + 1, s, by omega, by go_num, rfl, by omega, by omega, K2, by have h := HB.out; go_grown⟩
          case measure => simp [intOf]; omega
      · have K2 : Hid (heldF r who d (endF r d) l = s) := by
          show _ = _; rw [K.out, List.drop_of_length_le (by omega)]; simp [heldF]
        have HB := Lib.hid (Below.trans' HB1.out hb)
        clear K hb
        go_wp2
        go_ret2
        exact ⟨by rw [hans.out, K2.out]; rfl, HB.out⟩
  · have hans : Hid (dhAns l r who d = .tuple #[.int .i64 0, .bool false]) := if_neg h
    go_enter Try.func20, Try.ntmps20
    go_wp2_with (first
      | (go_at_call 15; refine (implIsCustody_any l A c (by omega) _ hr).mono ?_; rintro e w1 ⟨rfl, hb1⟩)
      | (go_at_call 31; refine (isRecordId_any _ _).mono ?_; rintro e w' ⟨rfl, rfl⟩)
      | (go_at_call 32; refine (isPerson_any _ _).mono ?_; rintro e w' ⟨rfl, rfl⟩)
      | (go_at_call 33; refine (isDay_any _ _).mono ?_; rintro e w' ⟨rfl, rfl⟩))
    all_goals first
      | (go_ret2; exact ⟨by rw [hans.out]; rfl, hb1⟩)
      | (exfalso; clear hans hb1 hr; simp_all; done)

end Go.Proofs.Ytcneipheipneaaa
