/-
  The walk of the program's IsCustody; the laws on IsHand and IsCustody.
  Conditions: those written at each theorem.
-/
import Derived.Test.YtcneipheipneaaaP17a
namespace Go.Proofs.Ytcneipheipneaaa
open Go.RowKit Go.BigFrame

theorem next_any1 (l : List Hand) (A : Option Addr) (c : Nat) (r : Int) (i : Nat) (j : Int) (hj : j = (i : Int)) (hi : i ≤ l.length) (hl : l.length ≤ 9223372036854775806) (w : World) (hr : Rd w 6 A l.length (cellsHand l)) :
    Calls Try.prog 36 #[.slice A l.length c, .int .i64 r, .int .i64 j] w fun e w' => e = .returned (.int .i64 (idxF (ofRec r) (l.drop i) i)) ∧ w = w' := by
  subst hj; exact next_any l A c r i hi hl w hr

set_option maxHeartbeats 1000000 in
theorem implIsCustody_any (l : List Hand) (A : Option Addr) (c : Nat) (hl : l.length ≤ 1048577) (w : World) (hr : Rd w 6 A l.length (cellsHand l)) :
    Calls Try.prog 15 #[.slice A l.length c] w fun e w' => e = .returned (.bool (custB l)) ∧ Below w.heap.size w w' := by
  have HR := Lib.hid hr
  clear hr
  go_enter Try.func15, Try.ntmps15
  go_wp2
  go_loopw [8] (fun v wr => ∃ k : Nat, k ≤ l.length ∧ v = .int .i64 k ∧ Below w.heap.size w wr ∧ Hid (∀ i (h : i < l.length), i < k → okI l i h)) (fun v _ => l.length - (intOf v).toNat)
  case atStart => exact ⟨0, Nat.zero_le _, rfl, Below.refl _ _, fun _ _ h => absurd h (by omega)⟩
  case round =>
    obtain ⟨k, hk, rfl, hb, K⟩ := hrel
    have hrr := HR.out.below hb
    have HRR := Lib.hid hrr
    by_cases hlt : k < l.length
    · obtain ⟨gb, go, rfl, hgb, hcell⟩ := hrr.2 (by omega)
      obtain ⟨h0, h1, h2, h3, h4, h5⟩ := cellsHand_at hcell hlt
      have HC := Lib.hid hcell
      have hlt' : ((k : Int) < (l.length : Int)) := by omega
      clear hrr hcell
      have bx := Box.new wr #[.int .i64 l[k].record, .int .i64 l[k].giver, .int .i64 l[k].taker, .int .i64 l[k].day, .int .i64 l[k].sum, .bool l[k].sealed] 25
      have hb1 : Below wr.heap.size wr (wr.alloc (.cells #[.int .i64 l[k].record, .int .i64 l[k].giver, .int .i64 l[k].taker, .int .i64 l[k].day, .int .i64 l[k].sum, .bool l[k].sealed] 25)) := (Below.refl _ _).alloc (Nat.le_refl _) _
      have BX := Lib.hid bx
      have HB1 := Lib.hid hb1
      have HB := Lib.hid hb
      clear bx hb1 hb
      have hh := implIsHand_any l[k]
      have b0 := BX.out.G 0 _ rfl
      have b1 := BX.out.G 1 _ rfl
      have b2 := BX.out.G 2 _ rfl
      have b3 := BX.out.G 3 _ rfl
      have b4 := BX.out.G 4 _ rfl
      have b5 := BX.out.G 5 _ rfl
      by_cases hok : handOk l[k] = true
      · rw [hok] at hh
        have HH := Lib.hid hh
        clear hh
        by_cases hD : ∀ h : 0 < k, l[k - 1].day ≤ l[k].day
        · have HD := Lib.hid hD
          by_cases hk0 : k = 0
          · have hk1 : decide ((0 : Int) < (k : Int)) = false := by simp; omega
            have hk2 : decide (0 < k) = false := by simp; omega
            clear hD hk0
            go_wp2_with fail
            refine wp_region_grow (by kernel_rfl) (by kernel_rfl) ?_
            repeat (go_big_quiet_step (first | (go_at_call 11; exact quietG (HH.out _))))
            refine wpQuiet_endG ?_
            intro w2 hb2
            obtain ⟨x0, x1, x2, x3, x4, x5⟩ := (BX.out.below hb2).six
            have HW := Lib.hid (Below.transB (Below.transB HB.out (Nat.le_refl _) HB1.out) (Nat.le_refl _) hb2)
            have hr2 := Lib.hid (HRR.out.below (Below.trans' HB1.out hb2))
            have hcw : ∀ o, w2.cell? ⟨gb, o, none⟩ = wr.cell? ⟨gb, o, none⟩ := fun o => (Below.trans' HB1.out hb2).cell (p := ⟨gb, o, none⟩) hgb
            clear hb2 b0 b1 b2 b3 b4 b5 h0 h1 h2 h3 h4 h5
            go_wp2_with fail
            refine (next_any1 l _ _ l[k].record (k + 1) _ (by omega) (by omega) (by omega) _ hr2.out).mono ?_
            rintro e w3 ⟨rfl, rfl⟩
            rcases idxF_spec (ofRec l[k].record) l (k + 1) with ⟨g1, _⟩ | ⟨j, hj, g1, _⟩
            · rw [g1]
              have G1 := Lib.hid g1
              clear g1
              go_wp2_with fail
              go_quiet (fail)
              go_wp2
              go_roundw
              case rel =>
                refine ⟨k + 1, by omega, by go_num, below_drewN HW.out _, fun i hi hik => ?_⟩
                by_cases e : i = k
                · subst e; exact ⟨hok, HD.out, fun k' hk' he => by have := G1.out; omega⟩
                · exact K.out i hi (by omega)
              case measure => simp [intOf]; omega
            · rw [g1]
              have G1 := Lib.hid g1
              clear g1
              obtain ⟨_, p2, _, _, _, _⟩ := cellsHand_at HC.out hj
              have q2 : w2.cell? ⟨gb, go + j * 6 + 1, none⟩ = some (.int .i64 l[j].giver) := (hcw _).trans p2
              clear p2 hcw
              have hj0 : (0 : Int) ≤ (j : Int) := by omega
              have hj1 : (j : Int) < (l.length : Int) := by omega
              by_cases hg : l[j].giver = l[k].taker
              · have hgb1 : (l[j].giver != l[k].taker) = false := by simp [hg]
                have HG := Lib.hid hg
                clear hg
                go_wp2_with fail
                go_quiet (fail)
                go_wp2
                go_roundw
                case rel =>
                  refine ⟨k + 1, by omega, by go_num, below_drewN HW.out _, fun i hi hik => ?_⟩
                  by_cases e : i = k
                  · subst e
                    refine ⟨hok, HD.out, fun k' hk' he => ?_⟩
                    have e2 : k' = j := by have := G1.out; omega
                    subst e2; exact HG.out
                  · exact K.out i hi (by omega)
                case measure => simp [intOf]; omega
              · have hgb1 : (l[j].giver != l[k].taker) = true := by simp [hg]
                have hbad : Hid (custB l = false) := custB_bad_I (i := k) (hi := hlt) fun h => hg (h.2.2 j hj G1.out)
                clear hg
                go_wp2_with fail
                go_quiet (fail)
                go_wp2
                go_ret
                exact ⟨by rw [hbad.out]; rfl, below_drewN HW.out _⟩
          · obtain ⟨m, rfl⟩ : ∃ m, k = m + 1 := ⟨k - 1, by omega⟩
            have hday : l[m].day ≤ l[m + 1].day := hD (by omega)
            have hm : m < l.length := by omega
            obtain ⟨_, _, _, p3, _, _⟩ := cellsHand_at HC.out hm
            have q3 := cellG (w := wr.alloc (.cells #[.int .i64 l[m + 1].record, .int .i64 l[m + 1].giver, .int .i64 l[m + 1].taker, .int .i64 l[m + 1].day, .int .i64 l[m + 1].sum, .bool l[m + 1].sealed] 25)) (b := gb) (o := go + m * 6 + 3) (v := .int .i64 l[m].day) (by simp; omega) ((HB1.out.cell (p := ⟨gb, go + m * 6 + 3, none⟩) hgb).trans p3)
            clear hD hk0 p3
            go_wp2_with fail
            refine wp_region_grow (by kernel_rfl) (by kernel_rfl) ?_
            repeat (go_big_quiet_step (first | (go_at_call 11; exact quietG (HH.out _))))
            refine wpQuiet_endG ?_
            intro w2 hb2
            obtain ⟨x0, x1, x2, x3, x4, x5⟩ := (BX.out.below hb2).six
            have HW := Lib.hid (Below.transB (Below.transB HB.out (Nat.le_refl _) HB1.out) (Nat.le_refl _) hb2)
            have hr2 := Lib.hid (HRR.out.below (Below.trans' HB1.out hb2))
            have hcw : ∀ o, w2.cell? ⟨gb, o, none⟩ = wr.cell? ⟨gb, o, none⟩ := fun o => (Below.trans' HB1.out hb2).cell (p := ⟨gb, o, none⟩) hgb
            clear hb2 b0 b1 b2 b3 b4 b5 h0 h1 h2 h3 h4 h5
            go_wp2_with fail
            refine (next_any1 l _ _ l[m + 1].record (m + 1 + 1) _ (by omega) (by omega) (by omega) _ hr2.out).mono ?_
            rintro e w3 ⟨rfl, rfl⟩
            rcases idxF_spec (ofRec l[m + 1].record) l (m + 1 + 1) with ⟨g1, _⟩ | ⟨j, hj, g1, _⟩
            · rw [g1]
              have G1 := Lib.hid g1
              clear g1
              go_wp2_with fail
              go_quiet (fail)
              go_wp2
              go_roundw
              case rel =>
                refine ⟨m + 1 + 1, by omega, by go_num, below_drewN HW.out _, fun i hi hik => ?_⟩
                by_cases e : i = m + 1
                · subst e; exact ⟨hok, HD.out, fun k' hk' he => by have := G1.out; omega⟩
                · exact K.out i hi (by omega)
              case measure => simp [intOf]; omega
            · rw [g1]
              have G1 := Lib.hid g1
              clear g1
              obtain ⟨_, p2, _, _, _, _⟩ := cellsHand_at HC.out hj
              have q2 : w2.cell? ⟨gb, go + j * 6 + 1, none⟩ = some (.int .i64 l[j].giver) := (hcw _).trans p2
              clear p2 hcw
              have hj0 : (0 : Int) ≤ (j : Int) := by omega
              have hj1 : (j : Int) < (l.length : Int) := by omega
              by_cases hg : l[j].giver = l[m + 1].taker
              · have hgb1 : (l[j].giver != l[m + 1].taker) = false := by simp [hg]
                have HG := Lib.hid hg
                clear hg
                go_wp2_with fail
                go_quiet (fail)
                go_wp2
                go_roundw
                case rel =>
                  refine ⟨m + 1 + 1, by omega, by go_num, below_drewN HW.out _, fun i hi hik => ?_⟩
                  by_cases e : i = m + 1
                  · subst e
                    refine ⟨hok, HD.out, fun k' hk' he => ?_⟩
                    have e2 : k' = j := by have := G1.out; omega
                    subst e2; exact HG.out
                  · exact K.out i hi (by omega)
                case measure => simp [intOf]; omega
              · have hgb1 : (l[j].giver != l[m + 1].taker) = true := by simp [hg]
                have hbad : Hid (custB l = false) := custB_bad_I (i := m + 1) (hi := hlt) fun h => hg (h.2.2 j hj G1.out)
                clear hg
                go_wp2_with fail
                go_quiet (fail)
                go_wp2
                go_ret
                exact ⟨by rw [hbad.out]; rfl, below_drewN HW.out _⟩
        · have hbad : Hid (custB l = false) := custB_bad_I (i := k) (hi := hlt) fun h => hD h.2.1
          have hk0 : 0 < k := Classical.byContradiction fun h => hD fun h2 => absurd h2 h
          obtain ⟨m, rfl⟩ : ∃ m, k = m + 1 := ⟨k - 1, (Nat.sub_add_cancel hk0).symm⟩
          clear hk0
          have hday : l[m + 1].day < l[m].day := by
            apply Classical.byContradiction; intro h; apply hD; intro h2; simpa using h
          have hm : m < l.length := by omega
          obtain ⟨_, _, _, p3, _, _⟩ := cellsHand_at HC.out hm
          have q3 := cellG (w := wr.alloc (.cells #[.int .i64 l[m + 1].record, .int .i64 l[m + 1].giver, .int .i64 l[m + 1].taker, .int .i64 l[m + 1].day, .int .i64 l[m + 1].sum, .bool l[m + 1].sealed] 25)) (b := gb) (o := go + m * 6 + 3) (v := .int .i64 l[m].day) (by simp; omega) ((HB1.out.cell (p := ⟨gb, go + m * 6 + 3, none⟩) hgb).trans p3)
          clear hD p3
          go_wp2_with fail
          refine wp_region_grow (by kernel_rfl) (by kernel_rfl) ?_
          repeat (go_big_quiet_step (first | (go_at_call 11; exact quietG (HH.out _))))
          refine wpQuiet_endG ?_
          intro w2 hb2
          have HW := Lib.hid (Below.transB (Below.transB HB.out (Nat.le_refl _) HB1.out) (Nat.le_refl _) hb2)
          clear hb2
          go_wp2
          go_ret
          exact ⟨by rw [hbad.out]; rfl, HW.out⟩
      · have hbad : Hid (custB l = false) := custB_bad_I (i := k) (hi := hlt) fun h => hok h.1
        rw [Bool.eq_false_iff.2 hok] at hh
        have HH := Lib.hid hh
        clear hh
        go_wp2_with fail
        refine wp_region_grow (by kernel_rfl) (by kernel_rfl) ?_
        repeat (go_big_quiet_step (first | (go_at_call 11; exact quietG (HH.out _))))
        refine wpQuiet_endG ?_
        intro w2 hb2
        have HW := Lib.hid (Below.transB (Below.transB HB.out (Nat.le_refl _) HB1.out) (Nat.le_refl _) hb2)
        clear hb2
        go_wp2
        go_ret
        exact ⟨by rw [hbad.out]; rfl, HW.out⟩
    · have hend : Hid (custB l = decide ((l.length : Int) ≤ 12)) := custB_end_I fun i h => K.out i h (by omega)
      go_wp2
      go_ret
      exact ⟨by rw [hend.out]; rfl, hb⟩

theorem specIsCustody_any (l : List Hand) (A : Option Addr) (c : Nat) (hl : l.length ≤ 1048577) (w : World) (hr : Rd w 6 A l.length (cellsHand l)) :
    Calls Try.prog 13 #[.slice A l.length c] w fun e w' => e = .returned (.bool (custB l)) ∧ Below w.heap.size w w' := by
  go_enter Try.func13, Try.ntmps13
  go_wp2_with fail
  refine (l17Good_any l A c hl _ hr).mono ?_
  rintro e w1 ⟨rfl, hb⟩
  go_wp2
  go_ret
  exact ⟨rfl, hb⟩

end Go.Proofs.Ytcneipheipneaaa
