/-
  The walks of chapter 17: what is a hand, a custody list, by the reference and by the program.
  Conditions: those written at each theorem.
-/
import Derived.Test.YtcneipheipneaaaL17
import Derived.Deep.RegionWith
namespace Go.Proofs.Ytcneipheipneaaa
open Go.RowKit Go.BigFrame

theorem l17Record_any (x : Int) (w : World) :
    Calls Try.prog 38 #[.int .i64 x] w fun e w' => e = .returned (.bool (inB x 1 999)) ∧ w = w' := by
  go_enter Try.func38, Try.ntmps38
  go_wp2_with (go_at_call 44; refine (l1In_any _ _ _ _).mono ?_; rintro e w' ⟨rfl, rfl⟩)
  go_ret
  exact ⟨rfl, rfl⟩
theorem l17Who_any (x : Int) (w : World) :
    Calls Try.prog 42 #[.int .i64 x] w fun e w' => e = .returned (.bool (inB x 1 20)) ∧ w = w' := by
  go_enter Try.func42, Try.ntmps42
  go_wp2_with (go_at_call 44; refine (l1In_any _ _ _ _).mono ?_; rintro e w' ⟨rfl, rfl⟩)
  go_ret
  exact ⟨rfl, rfl⟩
theorem isRecordId_any (x : Int) (w : World) :
    Calls Try.prog 31 #[.int .i64 x] w fun e w' => e = .returned (.bool (inB x 1 999)) ∧ w = w' := by
  go_enter Try.func31, Try.ntmps31
  go_wp2_with (go_at_call 34; refine (within_any _ _ _ _).mono ?_; rintro e w' ⟨rfl, rfl⟩)
  go_ret
  exact ⟨rfl, rfl⟩
theorem isPerson_any (x : Int) (w : World) :
    Calls Try.prog 32 #[.int .i64 x] w fun e w' => e = .returned (.bool (inB x 1 20)) ∧ w = w' := by
  go_enter Try.func32, Try.ntmps32
  go_wp2_with (go_at_call 34; refine (within_any _ _ _ _).mono ?_; rintro e w' ⟨rfl, rfl⟩)
  go_ret
  exact ⟨rfl, rfl⟩

theorem handOk_eq (h : Hand) : handOk h = (inB h.record 1 999 && inB h.giver 1 20 && inB h.taker 1 20 && (h.giver != h.taker) && inB h.day 0 20000 && inB h.sum 0 999999) := by
  rw [Bool.eq_iff_iff]
  simp [handOk, inB, and_assoc]

set_option maxHeartbeats 400000 in
theorem l17One_any (h : Hand) (w : World) : Calls Try.prog 30 #[aggHand h] w fun e w' => e = .returned (.bool (handOk h)) ∧ Below w.heap.size w w' := by
  have H := Lib.hid (handOk_eq h)
  unfold aggHand
  go_enter Try.func30, Try.ntmps30
  go_wp2_with (first
    | (go_at_call 44; refine (l1In_any _ _ _ _).mono ?_; rintro e w' ⟨rfl, rfl⟩)
    | (go_at_call 38; refine (l17Record_any _ _).mono ?_; rintro e w' ⟨rfl, rfl⟩)
    | (go_at_call 42; refine (l17Who_any _ _).mono ?_; rintro e w' ⟨rfl, rfl⟩)
    | (go_at_call 39; refine (l2Day_any _ _).mono ?_; rintro e w' ⟨rfl, rfl⟩))
  all_goals
    go_ret
    refine ⟨?_, by go_grown⟩
    rw [H.out]
    simp [*]

set_option maxHeartbeats 400000 in
theorem implIsHand_any (h : Hand) (w : World) : Calls Try.prog 11 #[aggHand h] w fun e w' => e = .returned (.bool (handOk h)) ∧ Below w.heap.size w w' := by
  have H := Lib.hid (handOk_eq h)
  unfold aggHand
  go_enter Try.func11, Try.ntmps11
  go_wp2_with (first
    | (go_at_call 34; refine (within_any _ _ _ _).mono ?_; rintro e w' ⟨rfl, rfl⟩)
    | (go_at_call 31; refine (isRecordId_any _ _).mono ?_; rintro e w' ⟨rfl, rfl⟩)
    | (go_at_call 32; refine (isPerson_any _ _).mono ?_; rintro e w' ⟨rfl, rfl⟩)
    | (go_at_call 33; refine (isDay_any _ _).mono ?_; rintro e w' ⟨rfl, rfl⟩))
  all_goals
    go_ret
    refine ⟨?_, by go_grown⟩
    rw [H.out]
    simp [*]

theorem specIsHand_any (h : Hand) (w : World) : Calls Try.prog 9 #[aggHand h] w fun e w' => e = .returned (.bool (handOk h)) ∧ Below w.heap.size w w' := by
  unfold aggHand
  go_enter Try.func9, Try.ntmps9
  go_wp2_with fail
  refine (l17One_any h _).mono ?_
  rintro e w1 ⟨rfl, hb⟩
  go_wp2
  go_ret
  exact ⟨rfl, Below.trans' (by go_grown) hb⟩

theorem walkIsHand_any (v : Value) {w : World} (hv : ∃ h : Hand, v = aggHand h) : Calls Try.prog 3 #[v] w fun e w' => e = .returned (.bool true) ∧ Below w.heap.size w w' := by
  obtain ⟨h, rfl⟩ := hv
  unfold aggHand
  go_enter Try.func3, Try.ntmps3
  go_wp2_with fail
  have bx := Box.new w #[.int .i64 h.record, .int .i64 h.giver, .int .i64 h.taker, .int .i64 h.day, .int .i64 h.sum, .bool h.sealed] 23
  refine (toHand_any h _).mono ?_
  rintro e w1 ⟨rfl, hb1⟩
  go_wp2_with fail
  refine (specIsHand_any h _).mono ?_
  rintro e w2 ⟨rfl, hb2⟩
  replace bx := (bx.below hb1).below hb2
  have B2 := Lib.hid (Below.trans' (Below.trans' (a := w) ((Below.refl _ _).alloc (Nat.le_refl _) _) hb1) hb2)
  obtain ⟨e0, e1, e2, e3, e4, e5⟩ := bx.six
  clear hb1 hb2 bx
  go_wp2_with fail
  refine (toHand_any h _).mono ?_
  rintro e w3 ⟨rfl, hb3⟩
  clear e0 e1 e2 e3 e4 e5
  unfold aggHand
  go_wp2_with fail
  refine (implIsHand_any h _).mono ?_
  rintro e w4 ⟨rfl, hb4⟩
  have B4 := Lib.hid (Below.trans' (Below.trans' B2.out hb3) hb4)
  clear hb3 hb4
  go_wp2
  go_ret
  exact ⟨rfl, B4.out⟩

theorem l17Before_any (l : List Hand) (A : Option Addr) (c : Nat) (r : Int) (i : Nat) (hi : i ≤ l.length) (hl : l.length ≤ 9223372036854775807) (w : World) (hr : Rd w 6 A l.length (cellsHand l)) :
    Calls Try.prog 45 #[.slice A l.length c, .int .i64 r, .int .i64 i] w fun e w' => e = .returned (.int .i64 (befF (ofRec r) l i)) ∧ w = w' := by
  obtain ⟨hx, hrd⟩ := hr
  have HR := Lib.hid hrd
  clear hx hrd
  go_enter Try.func45, Try.ntmps45
  go_wp2
  go_loop [7] (fun v => ∃ k : Nat, k ≤ i ∧ v = .int .i64 ((k : Int) - 1) ∧ Hid (befF (ofRec r) l i = befF (ofRec r) l k)) (fun v => (intOf v + 1).toNat)
  case atStart => exact ⟨i, Nat.le_refl _, rfl, by show _ = _; rfl⟩
  case round =>
    obtain ⟨k, hk, rfl, K⟩ := hrel
    by_cases h0 : k = 0
    · subst h0
      have K' : Hid (befF (ofRec r) l i = -1) := K.out
      go_wp2
      go_ret
      exact ⟨by rw [K'.out]; rfl, rfl⟩
    · obtain ⟨m, rfl⟩ : ∃ m, k = m + 1 := ⟨k - 1, by omega⟩
      have hm : m < l.length := by omega
      obtain ⟨gb, go, rfl, hgb, hcell⟩ := HR.out (by omega)
      obtain ⟨h0, _⟩ := cellsHand_at hcell hm
      clear hcell
      rw [show (((m + 1 : Nat) : Int) - 1) = (m : Int) by omega]
      have hlt : ((m : Int) < (l.length : Int)) := by omega
      by_cases hp : l[m].record = r
      · have K' : Hid (befF (ofRec r) l i = m) := by
          show _ = _; rw [K.out, befF_hit hm (by simpa [ofRec] using hp)]
        have hpb : (l[m].record == r) = true := by simpa using hp
        clear K
        go_wp2
        go_ret
        exact ⟨by rw [K'.out]; rfl, rfl⟩
      · have K' : Hid (befF (ofRec r) l i = befF (ofRec r) l m) := by
          show _ = _; rw [K.out, befF_miss hm (by simpa [ofRec] using hp)]
        have hpb : (l[m].record == r) = false := by simpa using hp
        clear K
        go_wp2
        go_round
        case rel => exact ⟨m, by omega, by go_num, K'⟩
        case measure => simp [intOf]

theorem next_any (l : List Hand) (A : Option Addr) (c : Nat) (r : Int) (i : Nat) (hi : i ≤ l.length) (hl : l.length ≤ 9223372036854775806) (w : World) (hr : Rd w 6 A l.length (cellsHand l)) :
    Calls Try.prog 36 #[.slice A l.length c, .int .i64 r, .int .i64 i] w fun e w' => e = .returned (.int .i64 (idxF (ofRec r) (l.drop i) i)) ∧ w = w' := by
  obtain ⟨hx, hrd⟩ := hr
  have HR := Lib.hid hrd
  clear hx hrd
  go_enter Try.func36, Try.ntmps36
  go_wp2
  go_loop [7] (fun v => ∃ k : Nat, k ≤ l.length ∧ v = .int .i64 k ∧ Hid (idxF (ofRec r) (l.drop i) i = idxF (ofRec r) (l.drop k) k)) (fun v => l.length - (intOf v).toNat)
  case atStart => exact ⟨i, hi, rfl, by show _ = _; rfl⟩
  case round =>
    obtain ⟨m, hk, rfl, K⟩ := hrel
    by_cases hm : m < l.length
    · obtain ⟨gb, go, rfl, hgb, hcell⟩ := HR.out (by omega)
      obtain ⟨h0, _⟩ := cellsHand_at hcell hm
      clear hcell
      have hlt : ((m : Int) < (l.length : Int)) := by omega
      have K1 := K.out
      rw [List.drop_eq_getElem_cons hm] at K1
      by_cases hp : l[m].record = r
      · have K' : Hid (idxF (ofRec r) (l.drop i) i = m) := by
          show _ = _; rw [K1]; simp [idxF, ofRec, hp]
        have hpb : (l[m].record == r) = true := by simpa using hp
        clear K K1
        go_wp2
        go_ret
        exact ⟨by rw [K'.out]; rfl, rfl⟩
      · have K' : Hid (idxF (ofRec r) (l.drop i) i = idxF (ofRec r) (l.drop (m + 1)) (m + 1)) := by
          show _ = _; rw [K1]; simp [idxF, ofRec, hp]
        have hpb : (l[m].record == r) = false := by simpa using hp
        clear K K1
        go_wp2
        go_round
        case rel => exact ⟨m + 1, by omega, by go_num, K'⟩
        case measure => simp [intOf]; omega
    · have K' : Hid (idxF (ofRec r) (l.drop i) i = -1) := by
        show _ = _; rw [K.out, List.drop_of_length_le (by omega)]; rfl
      go_wp2
      go_ret
      exact ⟨by rw [K'.out]; rfl, rfl⟩

set_option maxHeartbeats 1000000 in
theorem l17Good_any (l : List Hand) (A : Option Addr) (c : Nat) (hl : l.length ≤ 1048577) (w : World) (hr : Rd w 6 A l.length (cellsHand l)) :
    Calls Try.prog 35 #[.slice A l.length c] w fun e w' => e = .returned (.bool (custB l)) ∧ Below w.heap.size w w' := by
  have HR := Lib.hid hr
  clear hr
  go_enter Try.func35, Try.ntmps35
  go_wp2
  go_loopw [3] (fun v wr => ∃ k : Nat, k ≤ l.length ∧ v = .int .i64 k ∧ Below w.heap.size w wr ∧ Hid (∀ i (h : i < l.length), i < k → okS l i h)) (fun v _ => l.length - (intOf v).toNat)
  case atStart => exact ⟨0, Nat.zero_le _, rfl, Below.refl _ _, fun _ _ h => absurd h (by omega)⟩
  case round =>
    obtain ⟨k, hk, rfl, hb, K⟩ := hrel
    have hrr := HR.out.below hb
    have HRR := Lib.hid hrr
    by_cases hlt : k < l.length
    · obtain ⟨gb, go, rfl, hgb, hcell⟩ := hrr.2 (by omega)
      obtain ⟨h0, h1, h2, h3, h4, h5⟩ := cellsHand_at hcell hlt
      have HC := Lib.hid hcell
      have hlt' : ((k : Int) < (l.length : Int)) := by omega
      clear hrr hcell
      have bx := Box.new wr #[.int .i64 l[k].record, .int .i64 l[k].giver, .int .i64 l[k].taker, .int .i64 l[k].day, .int .i64 l[k].sum, .bool l[k].sealed] 25
      have hb1 : Below wr.heap.size wr (wr.alloc (.cells #[.int .i64 l[k].record, .int .i64 l[k].giver, .int .i64 l[k].taker, .int .i64 l[k].day, .int .i64 l[k].sum, .bool l[k].sealed] 25)) := (Below.refl _ _).alloc (Nat.le_refl _) _
      have BX := Lib.hid bx
      have HB1 := Lib.hid hb1
      have HB := Lib.hid hb
      clear bx hb1 hb
      have hh := l17One_any l[k]
      have b0 := BX.out.G 0 _ rfl
      have b1 := BX.out.G 1 _ rfl
      have b2 := BX.out.G 2 _ rfl
      have b3 := BX.out.G 3 _ rfl
      have b4 := BX.out.G 4 _ rfl
      have b5 := BX.out.G 5 _ rfl
      by_cases hok : handOk l[k] = true
      · rw [hok] at hh
        have HH := Lib.hid hh
        clear hh
        by_cases hD : ∀ h : 0 < k, l[k - 1].day ≤ l[k].day
        · have HD := Lib.hid hD
          by_cases hk0 : k = 0
          · have hk1 : decide ((0 : Int) < (k : Int)) = false := by simp; omega
            have hk2 : decide (0 < k) = false := by simp; omega
            clear hD hk0
            go_wp2_with fail
            refine wp_region_grow (by kernel_rfl) (by kernel_rfl) ?_
            repeat (go_big_quiet_step (first | (go_at_call 30; exact quietG (HH.out _))))
            refine wpQuiet_endG ?_
            intro w2 hb2
            obtain ⟨x0, x1, x2, x3, x4, x5⟩ := (BX.out.below hb2).six
            have HW := Lib.hid (Below.transB (Below.transB HB.out (Nat.le_refl _) HB1.out) (Nat.le_refl _) hb2)
            have hr2 := Lib.hid (HRR.out.below (Below.trans' HB1.out hb2))
            have hcw : ∀ o, w2.cell? ⟨gb, o, none⟩ = wr.cell? ⟨gb, o, none⟩ := fun o => (Below.trans' HB1.out hb2).cell (p := ⟨gb, o, none⟩) hgb
            clear hb2 b0 b1 b2 b3 b4 b5 h0 h1 h2 h3 h4 h5
            go_wp2_with fail
            refine (l17Before_any l _ _ l[k].record (k) (by omega) (by omega) _ hr2.out).mono ?_
            rintro e w3 ⟨rfl, rfl⟩
            rcases befF_spec (ofRec l[k].record) l (k) (by omega) with ⟨g1, _⟩ | ⟨j, hj, g1, _⟩
            · rw [g1]
              have G1 := Lib.hid g1
              clear g1
              go_wp2_with fail
              go_quiet (fail)
              go_wp2
              go_roundw
              case rel =>
                refine ⟨k + 1, by omega, by go_num, below_drewN HW.out _, fun i hi hik => ?_⟩
                by_cases e : i = k
                · subst e; exact ⟨hok, HD.out, fun k' hk' he => by have := G1.out; omega⟩
                · exact K.out i hi (by omega)
              case measure => simp [intOf]; omega
            · rw [g1]
              have G1 := Lib.hid g1
              clear g1
              obtain ⟨_, _, p2, _, _, _⟩ := cellsHand_at HC.out hj
              have q2 : w2.cell? ⟨gb, go + j * 6 + 2, none⟩ = some (.int .i64 l[j].taker) := (hcw _).trans p2
              clear p2 hcw
              have hj0 : (0 : Int) ≤ (j : Int) := by omega
              have hj1 : (j : Int) < (l.length : Int) := by omega
              by_cases hg : l[j].taker = l[k].giver
              · have hgb1 : (l[j].taker != l[k].giver) = false := by simp [hg]
                have HG := Lib.hid hg
                clear hg
                go_wp2_with fail
                go_quiet (fail)
                go_wp2
                go_roundw
                case rel =>
                  refine ⟨k + 1, by omega, by go_num, below_drewN HW.out _, fun i hi hik => ?_⟩
                  by_cases e : i = k
                  · subst e
                    refine ⟨hok, HD.out, fun k' hk' he => ?_⟩
                    have e2 : k' = j := by have := G1.out; omega
                    subst e2; exact HG.out
                  · exact K.out i hi (by omega)
                case measure => simp [intOf]; omega
              · have hgb1 : (l[j].taker != l[k].giver) = true := by simp [hg]
                have hbad : Hid (custB l = false) := custB_bad_S (i := k) (hi := hlt) fun h => hg (h.2.2 j hj G1.out)
                clear hg
                go_wp2_with fail
                go_quiet (fail)
                go_wp2
                go_ret
                exact ⟨by rw [hbad.out]; rfl, below_drewN HW.out _⟩
          · obtain ⟨m, rfl⟩ : ∃ m, k = m + 1 := ⟨k - 1, by omega⟩
            have hday : l[m].day ≤ l[m + 1].day := hD (by omega)
            have hm : m < l.length := by omega
            obtain ⟨_, _, _, p3, _, _⟩ := cellsHand_at HC.out hm
            have q3 := cellG (w := wr.alloc (.cells #[.int .i64 l[m + 1].record, .int .i64 l[m + 1].giver, .int .i64 l[m + 1].taker, .int .i64 l[m + 1].day, .int .i64 l[m + 1].sum, .bool l[m + 1].sealed] 25)) (b := gb) (o := go + m * 6 + 3) (v := .int .i64 l[m].day) (by simp; omega) ((HB1.out.cell (p := ⟨gb, go + m * 6 + 3, none⟩) hgb).trans p3)
            clear hD hk0 p3
            go_wp2_with fail
            refine wp_region_grow (by kernel_rfl) (by kernel_rfl) ?_
            repeat (go_big_quiet_step (first | (go_at_call 30; exact quietG (HH.out _))))
            refine wpQuiet_endG ?_
            intro w2 hb2
            obtain ⟨x0, x1, x2, x3, x4, x5⟩ := (BX.out.below hb2).six
            have HW := Lib.hid (Below.transB (Below.transB HB.out (Nat.le_refl _) HB1.out) (Nat.le_refl _) hb2)
            have hr2 := Lib.hid (HRR.out.below (Below.trans' HB1.out hb2))
            have hcw : ∀ o, w2.cell? ⟨gb, o, none⟩ = wr.cell? ⟨gb, o, none⟩ := fun o => (Below.trans' HB1.out hb2).cell (p := ⟨gb, o, none⟩) hgb
            clear hb2 b0 b1 b2 b3 b4 b5 h0 h1 h2 h3 h4 h5
            go_wp2_with fail
            refine (l17Before_any l _ _ l[m + 1].record (m + 1) (by omega) (by omega) _ hr2.out).mono ?_
            rintro e w3 ⟨rfl, rfl⟩
            rcases befF_spec (ofRec l[m + 1].record) l (m + 1) (by omega) with ⟨g1, _⟩ | ⟨j, hj, g1, _⟩
            · rw [g1]
              have G1 := Lib.hid g1
              clear g1
              go_wp2_with fail
              go_quiet (fail)
              go_wp2
              go_roundw
              case rel =>
                refine ⟨m + 1 + 1, by omega, by go_num, below_drewN HW.out _, fun i hi hik => ?_⟩
                by_cases e : i = m + 1
                · subst e; exact ⟨hok, HD.out, fun k' hk' he => by have := G1.out; omega⟩
                · exact K.out i hi (by omega)
              case measure => simp [intOf]; omega
            · rw [g1]
              have G1 := Lib.hid g1
              clear g1
              obtain ⟨_, _, p2, _, _, _⟩ := cellsHand_at HC.out hj
              have q2 : w2.cell? ⟨gb, go + j * 6 + 2, none⟩ = some (.int .i64 l[j].taker) := (hcw _).trans p2
              clear p2 hcw
              have hj0 : (0 : Int) ≤ (j : Int) := by omega
              have hj1 : (j : Int) < (l.length : Int) := by omega
              by_cases hg : l[j].taker = l[m + 1].giver
              · have hgb1 : (l[j].taker != l[m + 1].giver) = false := by simp [hg]
                have HG := Lib.hid hg
                clear hg
                go_wp2_with fail
                go_quiet (fail)
                go_wp2
                go_roundw
                case rel =>
                  refine ⟨m + 1 + 1, by omega, by go_num, below_drewN HW.out _, fun i hi hik => ?_⟩
                  by_cases e : i = m + 1
                  · subst e
                    refine ⟨hok, HD.out, fun k' hk' he => ?_⟩
                    have e2 : k' = j := by have := G1.out; omega
                    subst e2; exact HG.out
                  · exact K.out i hi (by omega)
                case measure => simp [intOf]; omega
              · have hgb1 : (l[j].taker != l[m + 1].giver) = true := by simp [hg]
                have hbad : Hid (custB l = false) := custB_bad_S (i := m + 1) (hi := hlt) fun h => hg (h.2.2 j hj G1.out)
                clear hg
                go_wp2_with fail
                go_quiet (fail)
                go_wp2
                go_ret
                exact ⟨by rw [hbad.out]; rfl, below_drewN HW.out _⟩
        · have hbad : Hid (custB l = false) := custB_bad_S (i := k) (hi := hlt) fun h => hD h.2.1
          have hk0 : 0 < k := Classical.byContradiction fun h => hD fun h2 => absurd h2 h
          obtain ⟨m, rfl⟩ : ∃ m, k = m + 1 := ⟨k - 1, (Nat.sub_add_cancel hk0).symm⟩
          clear hk0
          have hday : l[m + 1].day < l[m].day := by
            apply Classical.byContradiction; intro h; apply hD; intro h2; simpa using h
          have hm : m < l.length := by omega
          obtain ⟨_, _, _, p3, _, _⟩ := cellsHand_at HC.out hm
          have q3 := cellG (w := wr.alloc (.cells #[.int .i64 l[m + 1].record, .int .i64 l[m + 1].giver, .int .i64 l[m + 1].taker, .int .i64 l[m + 1].day, .int .i64 l[m + 1].sum, .bool l[m + 1].sealed] 25)) (b := gb) (o := go + m * 6 + 3) (v := .int .i64 l[m].day) (by simp; omega) ((HB1.out.cell (p := ⟨gb, go + m * 6 + 3, none⟩) hgb).trans p3)
          clear hD p3
          go_wp2_with fail
          refine wp_region_grow (by kernel_rfl) (by kernel_rfl) ?_
          repeat (go_big_quiet_step (first | (go_at_call 30; exact quietG (HH.out _))))
          refine wpQuiet_endG ?_
          intro w2 hb2
          have HW := Lib.hid (Below.transB (Below.transB HB.out (Nat.le_refl _) HB1.out) (Nat.le_refl _) hb2)
          clear hb2
          go_wp2
          go_ret
          exact ⟨by rw [hbad.out]; rfl, HW.out⟩
      · have hbad : Hid (custB l = false) := custB_bad_S (i := k) (hi := hlt) fun h => hok h.1
        rw [Bool.eq_false_iff.2 hok] at hh
        have HH := Lib.hid hh
        clear hh
        go_wp2_with fail
        refine wp_region_grow (by kernel_rfl) (by kernel_rfl) ?_
        repeat (go_big_quiet_step (first | (go_at_call 30; exact quietG (HH.out _))))
        refine wpQuiet_endG ?_
        intro w2 hb2
        have HW := Lib.hid (Below.transB (Below.transB HB.out (Nat.le_refl _) HB1.out) (Nat.le_refl _) hb2)
        clear hb2
        go_wp2
        go_ret
        exact ⟨by rw [hbad.out]; rfl, HW.out⟩
    · have hend : Hid (custB l = decide ((l.length : Int) ≤ 12)) := custB_end_S fun i h => K.out i h (by omega)
      go_wp2
      go_ret
      exact ⟨by rw [hend.out]; rfl, hb⟩

end Go.Proofs.Ytcneipheipneaaa
