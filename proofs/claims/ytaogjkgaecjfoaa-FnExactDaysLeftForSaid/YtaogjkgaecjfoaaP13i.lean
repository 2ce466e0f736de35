/-
  The walk of the reference's DaysLeftFor; the laws on RequestDue and DaysLeftFor.
  Conditions: those written at each theorem.
-/
import Derived.Test.YtaogjkgaecjfoaaP13h
import Derived.Test.YtaogjkgaecjfoaaOpen
import Derived.Deep.RegionWith
namespace Go.Proofs.Ytaogjkgaecjfoaa
open Go.RowKit

set_option maxHeartbeats 1000000 in
theorem specDaysLeftFor_any (r : Req) (day : Int) (A : Option Addr) (c : Nat) (w : World) (hr : Rd w 2 A r.stops.length (cells2 r.stops)) (hl : r.stops.length ≤ 9223372036854775807) :
    Calls Try.prog 32 #[.agg #[.int .i64 r.id, .int .i64 r.came, .int .i64 r.working, .int .i64 r.extended, .slice A r.stops.length c], .int .i64 day] w
      fun e w' => e = .returned (dlAns r day) ∧ Below w.heap.size w w' := by
  have HR := Lib.hid hr
  clear hr
  by_cases hok : reqOk r = true
  · obtain ⟨b1, b2, b3, b4, b5, _⟩ := req_bounds hok
    have HL := Lib.hid b5
    clear b5
    by_cases hd1 : inB day 0 20000 = true
    · by_cases hd2 : r.came ≤ day
      · have hans0 : Hid (dlAns r day = if dl r ≤ 20000 then .tuple #[.int .i64 (ccnt r.stops (day + 1) (dl r - day).toNat), .bool true] else .tuple #[.int .i64 0, .bool false]) := by
          show _ = _; unfold dlAns; simp [hok, hd1, hd2]
        have hdl2 : 0 ≤ dl r := by
          have := dueF_ge r.stops (20003 + 3 * (r.working + r.extended).toNat) r.came (r.working + r.extended)
          have : r.came ≤ dl r := this
          omega
        have hdb := inB_true hd1
        go_enter Try.func32, Try.ntmps32
        go_wp2_with fail
        have bx := Box.new w (reqCells r A c) 33
        refine (l13Good_any r A c _ (HR.out.below (by go_grown)) hl).mono ?_
        rintro e w1 ⟨rfl, hb1⟩
        have bx1 := bx.below hb1
        obtain ⟨e0, e1, e2, e3, e4⟩ := bx1.five
        have H1 := Lib.hid (Below.trans' (a := w) ((Below.refl _ _).alloc (Nat.le_refl _) _) hb1)
        have BX := Lib.hid bx1
        clear bx hb1 bx1
        go_wp2_with (go_at_call 45; refine (l2Day_any _ _).mono ?_; rintro e w' ⟨rfl, rfl⟩)
        have D : ∀ W : World, Hid (Below w1.heap.size w1 W → Calls Try.prog 58 #[.agg #[.int .i64 r.id, .int .i64 r.came, .int .i64 r.working, .int .i64 r.extended, .slice A r.stops.length c]] W
            fun e w' => e = .returned (.int .i64 (dl r)) ∧ Below W.heap.size W w') := fun W hW => l13Due_any r A c W (HR.out.below (Below.trans' H1.out hW)) hl b1 b2 b3 HL
        refine ((D _).out (Below.refl _ _)).mono ?_
        rintro e w2 ⟨rfl, hb2⟩
        clear e0 e1 e2 e3 e4
        have HB2 := Lib.hid hb2
        obtain ⟨e0, e1, e2, e3, e4⟩ := (BX.out.below hb2).five
        clear hb2
        generalize hx : dl r = x at hans0 hdl2 D
        clear hx
        by_cases hx : x ≤ 20000
        · have hans : Hid (dlAns r day = .tuple #[.int .i64 (ccnt r.stops (day + 1) (x - day).toNat), .bool true]) := by show _ = _; rw [hans0.out, if_pos hx]
          have H0 : Hid (ccnt r.stops (day + 1) (x - day).toNat = 0 + ccnt r.stops (day + 1) (x + 1 - (day + 1)).toNat) := by
            show _ = _; rw [show x + 1 - (day + 1) = x - day by omega]; omega
          go_wp2_with fail
          clear e0 e1 e2 e3 e4
          go_loopw [6, 7] (fun v8 v9 wr => ∃ (n d : Int), v8 = .int .i64 n ∧ v9 = .int .i64 d ∧ day + 1 ≤ d ∧ d ≤ 20002 ∧ 0 ≤ n ∧ n ≤ d ∧ Below w1.heap.size w1 wr ∧ (d ≤ x + 1 ∨ n = 0 ∧ d = day + 1) ∧ Hid (ccnt r.stops (day + 1) (x - day).toNat = n + ccnt r.stops d (x + 1 - d).toNat)) (fun _ d _ => (20002 - intOf d).toNat)
          case atStart => exact ⟨0, day + 1, rfl, rfl, by omega, by omega, by omega, by omega, HB2.out, .inr ⟨rfl, rfl⟩, H0⟩
          case round =>
            obtain ⟨n, d, rfl, rfl, k1, k2, k3, k4, hb, _, K⟩ := hrel
            obtain ⟨e0, e1, e2, e3, e4⟩ := (BX.out.below hb).five
            have HB := Lib.hid hb
            clear hb
            go_wp2_with fail
            refine ((D _).out HB.out).mono ?_
            rintro e w3 ⟨rfl, hb3⟩
            clear e0 e1 e2 e3 e4
            have HB3 := Lib.hid (Below.transB HB.out (Nat.le_refl _) hb3)
            clear hb3 HB
            obtain ⟨e0, e1, e2, e3, e4⟩ := (BX.out.below HB3.out).five
            by_cases hlt : d ≤ x
            · have HRR := Lib.hid (HR.out.below (Below.trans' H1.out HB3.out))
              have K' : Hid (ccnt r.stops (day + 1) (x - day).toNat = (n + if cntB r.stops d = true then 1 else 0) + ccnt r.stops (d + 1) (x + 1 - (d + 1)).toNat) := by
                refine ccnt_go r.stops _ d n _ ?_
                rw [show (x + 1 - (d + 1)).toNat + 1 = (x + 1 - d).toNat by omega]; exact K
              clear K
              by_cases hcn : cntB r.stops d = true
              · rw [if_pos hcn] at K'
                go_wp2_with (go_at_call 63; refine (l13Counts_any r A c _ _ HRR.out hl (by omega)).mono ?_; rintro e w4 ⟨rfl, hb4⟩)
                go_roundw
                case rel => exact ⟨n + 1, d + 1, rfl, rfl, by omega, by omega, by omega, by omega, Below.transB HB3.out (Nat.le_refl _) hb4, .inl (by omega), K'⟩
                case measure => simp [intOf]; omega
              · rw [if_neg hcn, Int.add_zero] at K'
                go_wp2_with (go_at_call 63; refine (l13Counts_any r A c _ _ HRR.out hl (by omega)).mono ?_; rintro e w4 ⟨rfl, hb4⟩)
                go_roundw
                case rel => exact ⟨n, d + 1, rfl, rfl, by omega, by omega, by omega, by omega, Below.transB HB3.out (Nat.le_refl _) hb4, .inl (by omega), K'⟩
                case measure => simp [intOf]; omega
            · have K2 : Hid (ccnt r.stops (day + 1) (x - day).toNat = n) := by
                show _ = _
                rw [K.out, show (x + 1 - d).toNat = 0 by omega, ccnt]; omega
              have HB := Lib.hid (Below.trans' H1.out HB3.out)
              clear K
              go_wp2
              go_ret2
              exact ⟨by rw [hans.out, K2.out]; rfl, HB.out⟩
        · have hans : Hid (dlAns r day = .tuple #[.int .i64 0, .bool false]) := by show _ = _; rw [hans0.out, if_neg hx]
          have HB := Lib.hid (Below.trans' H1.out HB2.out)
          go_wp2
          go_ret2
          exact ⟨by rw [hans.out]; rfl, HB.out⟩
      · have hans : Hid (dlAns r day = .tuple #[.int .i64 0, .bool false]) := if_neg fun h => hd2 h.2.2.1
        go_enter Try.func32, Try.ntmps32
        go_wp2_with fail
        have bx := Box.new w (reqCells r A c) 33
        refine (l13Good_any r A c _ (HR.out.below (by go_grown)) hl).mono ?_
        rintro e w1 ⟨rfl, hb1⟩
        obtain ⟨e0, e1, e2, e3, e4⟩ := (bx.below hb1).five
        have H1 := Lib.hid (Below.trans' (a := w) ((Below.refl _ _).alloc (Nat.le_refl _) _) hb1)
        clear bx hb1
        go_wp2_with (go_at_call 45; refine (l2Day_any _ _).mono ?_; rintro e w' ⟨rfl, rfl⟩)
        go_ret2
        exact ⟨by rw [hans.out]; rfl, H1.out⟩
    · have hans : Hid (dlAns r day = .tuple #[.int .i64 0, .bool false]) := if_neg fun h => hd1 h.2.1
      go_enter Try.func32, Try.ntmps32
      go_wp2_with fail
      have bx := Box.new w (reqCells r A c) 33
      refine (l13Good_any r A c _ (HR.out.below (by go_grown)) hl).mono ?_
      rintro e w1 ⟨rfl, hb1⟩
      obtain ⟨e0, e1, e2, e3, e4⟩ := (bx.below hb1).five
      have H1 := Lib.hid (Below.trans' (a := w) ((Below.refl _ _).alloc (Nat.le_refl _) _) hb1)
      clear bx hb1
      go_wp2_with (go_at_call 45; refine (l2Day_any _ _).mono ?_; rintro e w' ⟨rfl, rfl⟩)
      go_ret2
      exact ⟨by rw [hans.out]; rfl, H1.out⟩
  · have hans : Hid (dlAns r day = .tuple #[.int .i64 0, .bool false]) := if_neg fun h => hok h.1
    go_enter Try.func32, Try.ntmps32
    go_wp2_with fail
    have bx := Box.new w (reqCells r A c) 33
    refine (l13Good_any r A c _ (HR.out.below (by go_grown)) hl).mono ?_
    rintro e w1 ⟨rfl, hb1⟩
    obtain ⟨e0, e1, e2, e3, e4⟩ := (bx.below hb1).five
    have H1 := Lib.hid (Below.trans' (a := w) ((Below.refl _ _).alloc (Nat.le_refl _) _) hb1)
    clear bx hb1
    go_wp2_with (go_at_call 45; refine (l2Day_any _ _).mono ?_; rintro e w' ⟨rfl, rfl⟩)
    go_ret2
    exact ⟨by rw [hans.out]; rfl, H1.out⟩

set_option maxHeartbeats 1000000 in
theorem lawRequestDue (r : Req) (A : Option Addr) (c : Nat) (w : World) (hr : Rd w 2 A r.stops.length (cells2 r.stops)) (hl : r.stops.length ≤ 1048576) :
    Calls Try.prog 7 #[.agg #[.int .i64 r.id, .int .i64 r.came, .int .i64 r.working, .int .i64 r.extended, .slice A r.stops.length c]] w fun e w' => e = .returned (.bool true) ∧ Below w.heap.size w w' := by
  have HR := Lib.hid hr
  clear hr
  obtain ⟨x, y, hx⟩ := rdAns_form r
  have HX := Lib.hid hx
  clear hx
  go_enter Try.func7, Try.ntmps7
  go_wp2_with fail
  have bx := Box.new w #[.int .i64 r.id, .int .i64 r.came, .int .i64 r.working, .int .i64 r.extended, .slice A r.stops.length c] 30
  refine (szRequest_ok _ _ _ _ _ _ _ _ _ (by omega) (by omega)).mono ?_
  rintro e w1 ⟨rfl, hb1⟩
  replace bx := bx.below hb1
  obtain ⟨e0, e1, e2, e3, e4⟩ := bx.five
  have H1 := Lib.hid (Below.trans' ((Below.refl _ _).alloc (Nat.le_refl _) _) hb1)
  have BX := Lib.hid bx
  clear hb1 bx
  go_wp2_with fail
  refine (toRequest_any r A c _ (HR.out.below H1.out) hl).mono ?_
  rintro e w2 ⟨g2, rfl, ho2, hb2⟩
  have hr2 := Lib.hid (Rd.of_own ho2)
  have bx := BX.out.below hb2
  have H2 := Lib.hid (Below.trans' H1.out hb2)
  clear ho2 hb2 BX e0 e1 e2 e3 e4 H1
  go_wp2_with fail
  refine (specRequestDue_any r _ _ _ hr2.out (by omega)).mono ?_
  rintro e w3 ⟨rfl, hb3⟩
  rw [HX.out]
  replace bx := bx.below hb3
  obtain ⟨e0, e1, e2, e3, e4⟩ := bx.five
  have H3 := Lib.hid (Below.trans' H2.out hb3)
  have BX := Lib.hid bx
  clear hb3 hr2 bx H2
  go_wp2_with fail
  refine (toRequest_any r A c _ (HR.out.below H3.out) hl).mono ?_
  rintro e w4 ⟨g4, rfl, ho4, hb4⟩
  have hr4 := Lib.hid (Rd.of_own ho4)
  have bx := BX.out.below hb4
  have H4 := Lib.hid (Below.trans' H3.out hb4)
  clear ho4 hb4 BX e0 e1 e2 e3 e4 H3
  go_wp2_with fail
  have by5 := Box.new w4 #[.int .i64 r.id, .int .i64 r.came, .int .i64 r.working, .int .i64 r.extended, .slice (some ⟨g4, 0, none⟩) r.stops.length r.stops.length] 33
  replace bx := bx.below ((Below.refl _ _).alloc (Nat.le_refl _) (.cells #[.int .i64 r.id, .int .i64 r.came, .int .i64 r.working, .int .i64 r.extended, .slice (some ⟨g4, 0, none⟩) r.stops.length r.stops.length] 33))
  refine (implRequestDue_any r _ _ _ (hr4.out.below (by go_grown)) (by omega)).mono ?_
  rintro e w5 ⟨rfl, hb5⟩
  rw [HX.out]
  replace bx := bx.below hb5
  replace by5 := by5.below hb5
  obtain ⟨e0, e1, e2, e3, e4⟩ := bx.five
  obtain ⟨f0, f1, f2, f3, f4⟩ := by5.five
  have H5 := Lib.hid (Below.trans' H4.out (Below.trans' ((Below.refl _ _).alloc (Nat.le_refl _) _) hb5))
  have hr5 := Lib.hid (Rd.below (Rd.below hr4.out ((Below.refl _ _).alloc (Nat.le_refl _) _)) hb5)
  have BX := Lib.hid bx
  have BY := Lib.hid by5
  clear hb5 bx by5 hr4
  go_wp2_with fail
  go_region_with (first
    | (go_at_call 21; refine (toRequest_any r A c _ (HR.out.below H5.out.drew) hl).mono ?_; rintro e w6 ⟨g6, rfl, ho6, hb6⟩; replace hb6 := below_ofDrew (a := w) hb6; obtain ⟨x0, x1, x2, x3, x4⟩ := (BX.out.below hb6).five; obtain ⟨y0, y1, y2, y3, y4⟩ := (BY.out.below hb6).five; have hr6 := Lib.hid (Rd.of_own ho6); have hr7 := Lib.hid (Rd.below hr5.out hb6); have H6 := Lib.hid (Below.trans' H5.out hb6); clear ho6 hb6)
    | (go_at_call 23; refine (eqRequest_same r _ _ _ _ _ hr7.out hr6.out hl).mono ?_; rintro e w7 ⟨rfl, hb7⟩; have H7 := Lib.hid (Below.trans' H6.out hb7); clear hb7))
  all_goals
    go_wp2
    go_ret
    exact ⟨rfl, H7.out⟩

theorem lawRequestDue_big (a0 a1 a2 a3 : Value) (n : Nat) (A : Option Addr) (c : Nat) (w : World) (hn : n ≤ 9223372036854775807) (hl : 1048576 < n) :
    Calls Try.prog 7 #[.agg #[a0, a1, a2, a3, .slice A n c]] w fun e w' => e = .returned (.bool true) ∧ Below w.heap.size w w' := by
  go_enter Try.func7, Try.ntmps7
  go_wp2_with fail
  refine (szRequest_no _ _ _ _ _ _ _ _ _ (by omega) (by omega) (by omega)).mono ?_
  rintro e w1 ⟨rfl, hb1⟩
  go_wp2
  go_ret
  exact ⟨rfl, Below.trans' (by go_grown) hb1⟩

theorem walkRequestDue {w : World} (v : Value) (hv : InReq w v) :
    Calls Try.prog 7 #[v] w fun e w' => e = .returned (.bool true) ∧ Below w.heap.size w w' := by
  obtain ⟨a0, a1, a2, a3, S, A, k, rfl, hr, hm, _⟩ := hv
  by_cases hl : S.length ≤ 1048576
  · exact lawRequestDue ⟨a0, a1, a2, a3, S⟩ A k w hr hl
  · exact lawRequestDue_big _ _ _ _ _ _ _ _ hm (by omega)

set_option maxHeartbeats 1000000 in
theorem lawDaysLeftFor (r : Req) (day : Int) (A : Option Addr) (c : Nat) (w : World) (hr : Rd w 2 A r.stops.length (cells2 r.stops)) (hl : r.stops.length ≤ 1048576) :
    Calls Try.prog 10 #[.agg #[.int .i64 r.id, .int .i64 r.came, .int .i64 r.working, .int .i64 r.extended, .slice A r.stops.length c], .int .i64 day] w fun e w' => e = .returned (.bool true) ∧ Below w.heap.size w w' := by
  have HR := Lib.hid hr
  clear hr
  obtain ⟨x, y, hx⟩ := dlAns_form r day
  have HX := Lib.hid hx
  clear hx
  go_enter Try.func10, Try.ntmps10
  go_wp2_with fail
  have bx := Box.new w #[.int .i64 r.id, .int .i64 r.came, .int .i64 r.working, .int .i64 r.extended, .slice A r.stops.length c] 30
  refine (szRequest_ok _ _ _ _ _ _ _ _ _ (by omega) (by omega)).mono ?_
  rintro e w1 ⟨rfl, hb1⟩
  replace bx := bx.below hb1
  obtain ⟨e0, e1, e2, e3, e4⟩ := bx.five
  have H1 := Lib.hid (Below.trans' ((Below.refl _ _).alloc (Nat.le_refl _) _) hb1)
  have BX := Lib.hid bx
  clear hb1 bx
  go_wp2_with fail
  refine (toRequest_any r A c _ (HR.out.below H1.out) hl).mono ?_
  rintro e w2 ⟨g2, rfl, ho2, hb2⟩
  have hr2 := Lib.hid (Rd.of_own ho2)
  have bx := BX.out.below hb2
  have H2 := Lib.hid (Below.trans' H1.out hb2)
  clear ho2 hb2 BX e0 e1 e2 e3 e4 H1
  go_wp2_with fail
  refine (specDaysLeftFor_any r day _ _ _ hr2.out (by omega)).mono ?_
  rintro e w3 ⟨rfl, hb3⟩
  rw [HX.out]
  replace bx := bx.below hb3
  obtain ⟨e0, e1, e2, e3, e4⟩ := bx.five
  have H3 := Lib.hid (Below.trans' H2.out hb3)
  have BX := Lib.hid bx
  clear hb3 hr2 bx H2
  go_wp2_with fail
  refine (toRequest_any r A c _ (HR.out.below H3.out) hl).mono ?_
  rintro e w4 ⟨g4, rfl, ho4, hb4⟩
  have hr4 := Lib.hid (Rd.of_own ho4)
  have bx := BX.out.below hb4
  have H4 := Lib.hid (Below.trans' H3.out hb4)
  clear ho4 hb4 BX e0 e1 e2 e3 e4 H3
  go_wp2_with fail
  have by5 := Box.new w4 #[.int .i64 r.id, .int .i64 r.came, .int .i64 r.working, .int .i64 r.extended, .slice (some ⟨g4, 0, none⟩) r.stops.length r.stops.length] 33
  replace bx := bx.below ((Below.refl _ _).alloc (Nat.le_refl _) (.cells #[.int .i64 r.id, .int .i64 r.came, .int .i64 r.working, .int .i64 r.extended, .slice (some ⟨g4, 0, none⟩) r.stops.length r.stops.length] 33))
  refine (implDaysLeftFor_any r day _ _ _ (hr4.out.below (by go_grown)) (by omega)).mono ?_
  rintro e w5 ⟨rfl, hb5⟩
  rw [HX.out]
  replace bx := bx.below hb5
  replace by5 := by5.below hb5
  obtain ⟨e0, e1, e2, e3, e4⟩ := bx.five
  obtain ⟨f0, f1, f2, f3, f4⟩ := by5.five
  have H5 := Lib.hid (Below.trans' H4.out (Below.trans' ((Below.refl _ _).alloc (Nat.le_refl _) _) hb5))
  have hr5 := Lib.hid (Rd.below (Rd.below hr4.out ((Below.refl _ _).alloc (Nat.le_refl _) _)) hb5)
  have BX := Lib.hid bx
  have BY := Lib.hid by5
  clear hb5 bx by5 hr4
  go_wp2_with fail
  go_region_with (first
    | (go_at_call 21; refine (toRequest_any r A c _ (HR.out.below H5.out.drew) hl).mono ?_; rintro e w6 ⟨g6, rfl, ho6, hb6⟩; replace hb6 := below_ofDrew (a := w) hb6; obtain ⟨x0, x1, x2, x3, x4⟩ := (BX.out.below hb6).five; obtain ⟨y0, y1, y2, y3, y4⟩ := (BY.out.below hb6).five; have hr6 := Lib.hid (Rd.of_own ho6); have hr7 := Lib.hid (Rd.below hr5.out hb6); have H6 := Lib.hid (Below.trans' H5.out hb6); clear ho6 hb6)
    | (go_at_call 23; refine (eqRequest_same r _ _ _ _ _ hr7.out hr6.out hl).mono ?_; rintro e w7 ⟨rfl, hb7⟩; have H7 := Lib.hid (Below.trans' H6.out hb7); clear hb7))
  all_goals
    go_wp2
    go_ret
    exact ⟨rfl, H7.out⟩

theorem lawDaysLeftFor_big (a0 a1 a2 a3 : Value) (day : Int) (n : Nat) (A : Option Addr) (c : Nat) (w : World) (hn : n ≤ 9223372036854775807) (hl : 1048576 < n) :
    Calls Try.prog 10 #[.agg #[a0, a1, a2, a3, .slice A n c], .int .i64 day] w fun e w' => e = .returned (.bool true) ∧ Below w.heap.size w w' := by
  go_enter Try.func10, Try.ntmps10
  go_wp2_with fail
  refine (szRequest_no _ _ _ _ _ _ _ _ _ (by omega) (by omega) (by omega)).mono ?_
  rintro e w1 ⟨rfl, hb1⟩
  go_wp2
  go_ret
  exact ⟨rfl, Below.trans' (by go_grown) hb1⟩

theorem walkDaysLeftFor {w : World} (v : Value) (hv : InReq w v) (day : Int) (_ : I64 day) :
    Calls Try.prog 10 #[v, .int .i64 day] w fun e w' => e = .returned (.bool true) ∧ Below w.heap.size w w' := by
  obtain ⟨a0, a1, a2, a3, S, A, k, rfl, hr, hm, _⟩ := hv
  by_cases hl : S.length ≤ 1048576
  · exact lawDaysLeftFor ⟨a0, a1, a2, a3, S⟩ day A k w hr hl
  · exact lawDaysLeftFor_big _ _ _ _ _ _ _ _ _ hm (by omega)

end Go.Proofs.Ytaogjkgaecjfoaa
