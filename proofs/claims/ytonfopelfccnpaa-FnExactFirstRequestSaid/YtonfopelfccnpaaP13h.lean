/-
  The walks of RequestDue and DaysLeftFor: by the reference and by the program.
  Conditions: those written at each theorem.
-/
import Derived.Test.YtonfopelfccnpaaP13f
import Derived.Test.YtonfopelfccnpaaP13d
namespace Go.Proofs.Ytonfopelfccnpaa
open Go.RowKit

/-- what RequestDue answers -/
def rdAns (r : Req) : Value := if reqOk r = true then dueAns (dueOf r.stops r.came (r.working + r.extended)) else .tuple #[.int .i64 0, .bool false]

theorem rdAns_form (r : Req) : ∃ (x : Int) (y : Bool), rdAns r = .tuple #[.int .i64 x, .bool y] := by
  unfold rdAns dueAns
  repeat' split
  all_goals exact ⟨_, _, rfl⟩

theorem req_bounds {r : Req} (h : reqOk r = true) : (0 ≤ r.came ∧ r.came ≤ 20000) ∧ (0 ≤ r.working ∧ r.working ≤ 500) ∧ (0 ≤ r.extended ∧ r.extended ≤ 500) ∧ 1 ≤ r.working + r.extended ∧ lateStops r.stops ∧ (1 ≤ r.working ∧ r.working ≤ 60) ∧ (0 ≤ r.extended ∧ r.extended ≤ 40) := by
  obtain ⟨h1, h2⟩ := reqOk_true h
  have h3 := headOk_true h1
  exact ⟨h3.2.1, by omega, by omega, by omega, stopsOk_late h2, h3.2.2.1, h3.2.2.2.1⟩

set_option maxHeartbeats 400000 in
theorem implRequestDue_any (r : Req) (A : Option Addr) (c : Nat) (w : World) (hr : Rd w 2 A r.stops.length (cells2 r.stops)) (hl : r.stops.length ≤ 9223372036854775807) :
    Calls Try.prog 31 #[.agg #[.int .i64 r.id, .int .i64 r.came, .int .i64 r.working, .int .i64 r.extended, .slice A r.stops.length c]] w
      fun e w' => e = .returned (rdAns r) ∧ Below w.heap.size w w' := by
  have HR := Lib.hid hr
  clear hr
  by_cases hok : reqOk r = true
  · obtain ⟨b1, b2, b3, b4, b5, _⟩ := req_bounds hok
    have HL := Lib.hid b5
    have hans : Hid (rdAns r = dueAns (dueOf r.stops r.came (r.working + r.extended))) := if_pos hok
    clear b5
    obtain ⟨x, y, hx⟩ : ∃ (x : Int) (y : Bool), dueAns (dueOf r.stops r.came (r.working + r.extended)) = .tuple #[.int .i64 x, .bool y] := by rw [← hans.out]; exact rdAns_form r
    have HX := Lib.hid hx
    clear hx
    go_enter Try.func31, Try.ntmps31
    go_wp2_with fail
    have bx := Box.new w (reqCells r A c) 43
    refine (implIsRequest_any r A c _ (HR.out.below (by go_grown)) hl).mono ?_
    rintro e w1 ⟨rfl, hb1⟩
    obtain ⟨e0, e1, e2, e3, e4⟩ := (bx.below hb1).five
    have H1 := Lib.hid (Below.trans' (a := w) ((Below.refl _ _).alloc (Nat.le_refl _) _) hb1)
    clear bx hb1
    go_wp2_with fail
    refine (due_any r A c _ (HR.out.below H1.out) hl b1 b2 b3 b4 HL).mono ?_
    rintro e w2 ⟨rfl, hb2⟩
    have H2 := Lib.hid (Below.trans' H1.out hb2)
    clear hb2 H1
    rw [HX.out]
    go_wp2
    go_ret2
    exact ⟨by rw [hans.out, HX.out]; rfl, H2.out⟩
  · have hans : Hid (rdAns r = .tuple #[.int .i64 0, .bool false]) := if_neg hok
    go_enter Try.func31, Try.ntmps31
    go_wp2_with fail
    refine (implIsRequest_any r A c _ (HR.out.below (by go_grown)) hl).mono ?_
    rintro e w1 ⟨rfl, hb1⟩
    have H1 := Lib.hid (Below.trans' (a := w) ((Below.refl _ _).alloc (Nat.le_refl _) _) hb1)
    clear hb1
    go_wp2
    go_ret2
    exact ⟨by rw [hans.out]; rfl, H1.out⟩


/-- how many of the m days from d on count -/
def ccnt (S : List (Int × Int)) (d : Int) : Nat → Int
  | 0 => 0
  | m + 1 => (if cntB S d = true then 1 else 0) + ccnt S (d + 1) m

theorem ccnt_go (S : List (Int × Int)) (a d n : Int) (m : Nat) (h : Hid (a = n + ccnt S d (m + 1))) : Hid (a = (n + if cntB S d = true then 1 else 0) + ccnt S (d + 1) m) := by
  have := h.out
  show a = _
  rw [this, ccnt]; omega

def dl (r : Req) : Int := dueOf r.stops r.came (r.working + r.extended)
/-- what DaysLeftFor answers -/
def dlAns (r : Req) (day : Int) : Value :=
  if reqOk r = true ∧ inB day 0 20000 = true ∧ r.came ≤ day ∧ dl r ≤ 20000 then .tuple #[.int .i64 (ccnt r.stops (day + 1) (dl r - day).toNat), .bool true] else .tuple #[.int .i64 0, .bool false]
theorem dlAns_form (r : Req) (d : Int) : ∃ (x : Int) (y : Bool), dlAns r d = .tuple #[.int .i64 x, .bool y] := by
  unfold dlAns
  split <;> exact ⟨_, _, rfl⟩


end Go.Proofs.Ytonfopelfccnpaa
