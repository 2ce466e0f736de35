/-
  The walks of RequestDue and DaysLeftFor: by the reference and by the program.
  Conditions: those written at each theorem.
-/
import Derived.Test.YtaogjkgaecjfoaaP13f
import Derived.Test.YtaogjkgaecjfoaaP13d
namespace Go.Proofs.Ytaogjkgaecjfoaa
open Go.RowKit

/-- what RequestDue answers -/
def rdAns (r : Req) : Value := if reqOk r = true then dueAns (dueOf r.stops r.came (r.working + r.extended)) else .tuple #[.int .i64 0, .bool false]

theorem rdAns_form (r : Req) : ∃ (x : Int) (y : Bool), rdAns r = .tuple #[.int .i64 x, .bool y] := by
  unfold rdAns dueAns
  repeat' split
  all_goals exact ⟨_, _, rfl⟩

theorem req_bounds {r : Req} (h : reqOk r = true) : (0 ≤ r.came ∧ r.came ≤ 20000) ∧ (0 ≤ r.working ∧ r.working ≤ 500) ∧ (0 ≤ r.extended ∧ r.extended ≤ 500) ∧ 1 ≤ r.working + r.extended ∧ lateStops r.stops ∧ (1 ≤ r.working ∧ r.working ≤ 60) ∧ (0 ≤ r.extended ∧ r.extended ≤ 40) := by
  obtain ⟨h1, h2⟩ := reqOk_true h
  have h3 := headOk_true h1
  exact ⟨h3.2.1, by omega, by omega, by omega, stopsOk_late h2, h3.2.2.1, h3.2.2.2.1⟩

set_option maxHeartbeats 400000 in
theorem implRequestDue_any (r : Req) (A : Option Addr) (c : Nat) (w : World) (hr : Rd w 2 A r.stops.length (cells2 r.stops)) (hl : r.stops.length ≤ 9223372036854775807) :
    Calls Try.prog 25 #[.agg #[.int .i64 r.id, .int .i64 r.came, .int .i64 r.working, .int .i64 r.extended, .slice A r.stops.length c]] w
      fun e w' => e = .returned (rdAns r) ∧ Below w.heap.size w w' := by
  have HR := Lib.hid hr
  clear hr
  by_cases hok : reqOk r = true
  · obtain ⟨b1, b2, b3, b4, b5, _⟩ := req_bounds hok
    have HL := Lib.hid b5
    have hans : Hid (rdAns r = dueAns (dueOf r.stops r.came (r.working + r.extended))) := if_pos hok
    clear b5
    obtain ⟨x, y, hx⟩ : ∃ (x : Int) (y : Bool), dueAns (dueOf r.stops r.came (r.working + r.extended)) = .tuple #[.int .i64 x, .bool y] := by rw [← hans.out]; exact rdAns_form r
    have HX := Lib.hid hx
    clear hx
    go_enter Try.func25, Try.ntmps25
    go_wp2_with fail
    have bx := Box.new w (reqCells r A c) 33
    refine (implIsRequest_any r A c _ (HR.out.below (by go_grown)) hl).mono ?_
    rintro e w1 ⟨rfl, hb1⟩
    obtain ⟨e0, e1, e2, e3, e4⟩ := (bx.below hb1).five
    have H1 := Lib.hid (Below.trans' (a := w) ((Below.refl _ _).alloc (Nat.le_refl _) _) hb1)
    clear bx hb1
    go_wp2_with fail
    refine (due_any r A c _ (HR.out.below H1.out) hl b1 b2 b3 b4 HL).mono ?_
    rintro e w2 ⟨rfl, hb2⟩
    have H2 := Lib.hid (Below.trans' H1.out hb2)
    clear hb2 H1
    rw [HX.out]
    go_wp2
    go_ret2
    exact ⟨by rw [hans.out, HX.out]; rfl, H2.out⟩
  · have hans : Hid (rdAns r = .tuple #[.int .i64 0, .bool false]) := if_neg hok
    go_enter Try.func25, Try.ntmps25
    go_wp2_with fail
    refine (implIsRequest_any r A c _ (HR.out.below (by go_grown)) hl).mono ?_
    rintro e w1 ⟨rfl, hb1⟩
    have H1 := Lib.hid (Below.trans' (a := w) ((Below.refl _ _).alloc (Nat.le_refl _) _) hb1)
    clear hb1
    go_wp2
    go_ret2
    exact ⟨by rw [hans.out]; rfl, H1.out⟩

set_option maxHeartbeats 400000 in
theorem specRequestDue_any (r : Req) (A : Option Addr) (c : Nat) (w : World) (hr : Rd w 2 A r.stops.length (cells2 r.stops)) (hl : r.stops.length ≤ 9223372036854775807) :
    Calls Try.prog 24 #[.agg #[.int .i64 r.id, .int .i64 r.came, .int .i64 r.working, .int .i64 r.extended, .slice A r.stops.length c]] w
      fun e w' => e = .returned (rdAns r) ∧ Below w.heap.size w w' := by
  have HR := Lib.hid hr
  clear hr
  by_cases hok : reqOk r = true
  · obtain ⟨b1, b2, b3, b4, b5, _⟩ := req_bounds hok
    have HL := Lib.hid b5
    have hans : Hid (rdAns r = dueAns (dueOf r.stops r.came (r.working + r.extended))) := if_pos hok
    clear b5
    go_enter Try.func24, Try.ntmps24
    go_wp2_with fail
    have bx := Box.new w (reqCells r A c) 33
    refine (l13Good_any r A c _ (HR.out.below (by go_grown)) hl).mono ?_
    rintro e w1 ⟨rfl, hb1⟩
    have bx1 := bx.below hb1
    obtain ⟨e0, e1, e2, e3, e4⟩ := bx1.five
    have H1 := Lib.hid (Below.trans' (a := w) ((Below.refl _ _).alloc (Nat.le_refl _) _) hb1)
    have BX := Lib.hid bx1
    clear bx hb1 bx1
    go_wp2_with fail
    refine (l13Due_any r A c _ (HR.out.below H1.out) hl b1 b2 b3 HL).mono ?_
    rintro e w2 ⟨rfl, hb2⟩
    clear e0 e1 e2 e3 e4
    obtain ⟨e0, e1, e2, e3, e4⟩ := (BX.out.below hb2).five
    have H2 := Lib.hid (Below.trans' H1.out hb2)
    clear hb2 H1 BX
    by_cases hd : 20000 < dueOf r.stops r.came (r.working + r.extended)
    · have hans2 : Hid (rdAns r = .tuple #[.int .i64 0, .bool false]) := by show _ = _; rw [hans.out, dueAns_no hd]
      go_wp2
      go_ret2
      exact ⟨by rw [hans2.out]; rfl, H2.out⟩
    · have hans2 : Hid (rdAns r = .tuple #[.int .i64 (dueOf r.stops r.came (r.working + r.extended)), .bool true]) := by show _ = _; rw [hans.out, dueAns_yes (by omega)]
      go_wp2_with fail
      refine (l13Due_any r A c _ (HR.out.below H2.out) hl b1 b2 b3 HL).mono ?_
      rintro e w3 ⟨rfl, hb3⟩
      have H3 := Lib.hid (Below.trans' H2.out hb3)
      clear hb3 H2
      go_wp2
      go_ret2
      exact ⟨by rw [hans2.out]; rfl, H3.out⟩
  · have hans : Hid (rdAns r = .tuple #[.int .i64 0, .bool false]) := if_neg hok
    go_enter Try.func24, Try.ntmps24
    go_wp2_with fail
    refine (l13Good_any r A c _ (HR.out.below (by go_grown)) hl).mono ?_
    rintro e w1 ⟨rfl, hb1⟩
    have H1 := Lib.hid (Below.trans' (a := w) ((Below.refl _ _).alloc (Nat.le_refl _) _) hb1)
    clear hb1
    go_wp2
    go_ret2
    exact ⟨by rw [hans.out]; rfl, H1.out⟩

/-- how many of the m days from d on count -/
def ccnt (S : List (Int × Int)) (d : Int) : Nat → Int
  | 0 => 0
  | m + 1 => (if cntB S d = true then 1 else 0) + ccnt S (d + 1) m

theorem ccnt_go (S : List (Int × Int)) (a d n : Int) (m : Nat) (h : Hid (a = n + ccnt S d (m + 1))) : Hid (a = (n + if cntB S d = true then 1 else 0) + ccnt S (d + 1) m) := by
  have := h.out
  show a = _
  rw [this, ccnt]; omega

def dl (r : Req) : Int := dueOf r.stops r.came (r.working + r.extended)
/-- what DaysLeftFor answers -/
def dlAns (r : Req) (day : Int) : Value :=
  if reqOk r = true ∧ inB day 0 20000 = true ∧ r.came ≤ day ∧ dl r ≤ 20000 then .tuple #[.int .i64 (ccnt r.stops (day + 1) (dl r - day).toNat), .bool true] else .tuple #[.int .i64 0, .bool false]
theorem dlAns_form (r : Req) (d : Int) : ∃ (x : Int) (y : Bool), dlAns r d = .tuple #[.int .i64 x, .bool y] := by
  unfold dlAns
  split <;> exact ⟨_, _, rfl⟩

set_option maxHeartbeats 800000 in
theorem implDaysLeftFor_any (r : Req) (day : Int) (A : Option Addr) (c : Nat) (w : World) (hr : Rd w 2 A r.stops.length (cells2 r.stops)) (hl : r.stops.length ≤ 9223372036854775807) :
    Calls Try.prog 33 #[.agg #[.int .i64 r.id, .int .i64 r.came, .int .i64 r.working, .int .i64 r.extended, .slice A r.stops.length c], .int .i64 day] w
      fun e w' => e = .returned (dlAns r day) ∧ Below w.heap.size w w' := by
  have HR := Lib.hid hr
  clear hr
  by_cases hok : reqOk r = true ∧ dl r ≤ 20000
  · have hrd : Hid (rdAns r = .tuple #[.int .i64 (dl r), .bool true]) := by show _ = _; rw [rdAns, if_pos hok.1, ← dueAns_yes hok.2]; rfl
    by_cases hs : spanB r.came day = true
    · have hsp := spanB_true hs
      have hans : Hid (dlAns r day = .tuple #[.int .i64 (ccnt r.stops (day + 1) (dl r - day).toNat), .bool true]) := if_pos ⟨hok.1, inB_of (by omega) (by omega), by omega, hok.2⟩
      have hdl := hok.2
      have hdl2 : 0 ≤ dl r := by
        have := dueF_ge r.stops (20003 + 3 * (r.working + r.extended).toNat) r.came (r.working + r.extended)
        have : r.came ≤ dl r := this
        omega
      clear hok
      generalize hx : dl r = x at hrd hans hdl hdl2
      clear hx
      have H0 : Hid (ccnt r.stops (day + 1) (x - day).toNat = 0 + ccnt r.stops (day + 1) (x + 1 - (day + 1)).toNat) := by
        show _ = _; rw [show x + 1 - (day + 1) = x - day by omega]; omega
      go_enter Try.func33, Try.ntmps33
      go_wp2_with fail
      have bx := Box.new w (reqCells r A c) 33
      refine (implRequestDue_any r A c _ (HR.out.below (by go_grown)) hl).mono ?_
      rintro e w1 ⟨rfl, hb1⟩
      rw [hrd.out]
      have bx1 := bx.below hb1
      obtain ⟨e0, e1, e2, e3, e4⟩ := bx1.five
      have H1 := Lib.hid (Below.trans' (a := w) ((Below.refl _ _).alloc (Nat.le_refl _) _) hb1)
      have BX := Lib.hid bx1
      clear bx hb1 bx1
      go_wp2_with (go_at_call 49; refine (areDays_any _ _ _).mono ?_; rintro e w' ⟨rfl, rfl⟩)
      clear e0 e1 e2 e3 e4
      go_loopw [8, 9] (fun v8 v9 wr => ∃ (n d : Int), v8 = .int .i64 n ∧ v9 = .int .i64 d ∧ day + 1 ≤ d ∧ d ≤ 20002 ∧ 0 ≤ n ∧ n ≤ d ∧ Below w1.heap.size w1 wr ∧ (d ≤ x + 1 ∨ n = 0 ∧ d = day + 1) ∧ Hid (ccnt r.stops (day + 1) (x - day).toNat = n + ccnt r.stops d (x + 1 - d).toNat)) (fun _ d _ => (20002 - intOf d).toNat)
      case atStart => exact ⟨0, day + 1, rfl, rfl, by omega, by omega, by omega, by omega, Below.refl _ _, .inr ⟨rfl, rfl⟩, H0⟩
      case round =>
        obtain ⟨n, d, rfl, rfl, k1, k2, k3, k4, hb, _, K⟩ := hrel
        by_cases hlt : d ≤ x
        · obtain ⟨e0, e1, e2, e3, e4⟩ := (BX.out.below hb).five
          have HB := Lib.hid hb
          have HRR := Lib.hid (HR.out.below (Below.trans' H1.out hb))
          clear hb
          have K' : Hid (ccnt r.stops (day + 1) (x - day).toNat = (n + if cntB r.stops d = true then 1 else 0) + ccnt r.stops (d + 1) (x + 1 - (d + 1)).toNat) := by
            refine ccnt_go r.stops _ d n _ ?_
            rw [show (x + 1 - (d + 1)).toNat + 1 = (x + 1 - d).toNat by omega]; exact K
          clear K
          by_cases hcn : cntB r.stops d = true
          · rw [if_pos hcn] at K'
            go_wp2_with (go_at_call 64; refine (counts_any r A c _ _ HRR.out hl (by omega)).mono ?_; rintro e w2 ⟨rfl, hb2⟩)
            go_roundw
            case rel => exact ⟨n + 1, d + 1, rfl, rfl, by omega, by omega, by omega, by omega, Below.transB HB.out (Nat.le_refl _) hb2, .inl (by omega), K'⟩
            case measure => simp [intOf]; omega
          · rw [if_neg hcn, Int.add_zero] at K'
            go_wp2_with (go_at_call 64; refine (counts_any r A c _ _ HRR.out hl (by omega)).mono ?_; rintro e w2 ⟨rfl, hb2⟩)
            go_roundw
            case rel => exact ⟨n, d + 1, rfl, rfl, by omega, by omega, by omega, by omega, Below.transB HB.out (Nat.le_refl _) hb2, .inl (by omega), K'⟩
            case measure => simp [intOf]; omega
        · have K2 : Hid (ccnt r.stops (day + 1) (x - day).toNat = n) := by
            show _ = _
            rw [K.out, show (x + 1 - d).toNat = 0 by omega, ccnt]; omega
          have HB := Lib.hid (Below.trans' H1.out hb)
          clear hb K
          go_wp2
          go_ret2
          exact ⟨by rw [hans.out, K2.out]; rfl, HB.out⟩
    · have hans : Hid (dlAns r day = .tuple #[.int .i64 0, .bool false]) := if_neg fun h => hs (spanB_of (req_bounds h.1).1.1 h.2.2.1 (inB_true h.2.1).2)
      clear hok
      go_enter Try.func33, Try.ntmps33
      go_wp2_with fail
      have bx := Box.new w (reqCells r A c) 33
      refine (implRequestDue_any r A c _ (HR.out.below (by go_grown)) hl).mono ?_
      rintro e w1 ⟨rfl, hb1⟩
      rw [hrd.out]
      obtain ⟨e0, e1, e2, e3, e4⟩ := (bx.below hb1).five
      have H1 := Lib.hid (Below.trans' (a := w) ((Below.refl _ _).alloc (Nat.le_refl _) _) hb1)
      clear bx hb1
      go_wp2_with (go_at_call 49; refine (areDays_any _ _ _).mono ?_; rintro e w' ⟨rfl, rfl⟩)
      go_ret2
      exact ⟨by rw [hans.out]; rfl, H1.out⟩
  · have hans : Hid (dlAns r day = .tuple #[.int .i64 0, .bool false]) := if_neg fun h => hok ⟨h.1, h.2.2.2⟩
    have hrd : Hid (rdAns r = .tuple #[.int .i64 0, .bool false]) := by
      show _ = _; unfold rdAns
      by_cases h : reqOk r = true
      · have : 20000 < dl r := Classical.byContradiction fun h2 => hok ⟨h, by omega⟩
        rw [if_pos h]; exact dueAns_no this
      · rw [if_neg h]
    clear hok
    go_enter Try.func33, Try.ntmps33
    go_wp2_with fail
    refine (implRequestDue_any r A c _ (HR.out.below (by go_grown)) hl).mono ?_
    rintro e w1 ⟨rfl, hb1⟩
    rw [hrd.out]
    have H1 := Lib.hid (Below.trans' (a := w) ((Below.refl _ _).alloc (Nat.le_refl _) _) hb1)
    clear hb1
    go_wp2
    go_ret2
    exact ⟨by rw [hans.out]; rfl, H1.out⟩

end Go.Proofs.Ytaogjkgaecjfoaa
