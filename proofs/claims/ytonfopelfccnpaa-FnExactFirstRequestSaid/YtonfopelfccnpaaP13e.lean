/-
  The walks of the law's own helpers on requests, and of what is a valid request: by the reference and by the program.
  Conditions: those written at each theorem.
-/
import Derived.Test.YtonfopelfccnpaaTyPair
import Derived.Test.YtonfopelfccnpaaP13a
namespace Go.Proofs.Ytonfopelfccnpaa
open Go.RowKit

set_option maxHeartbeats 400000 in
theorem toRequest_any (r : Req) (A : Option Addr) (c : Nat) (w : World) (hr : Rd w 2 A r.stops.length (cells2 r.stops)) (hl : r.stops.length ≤ 1048576) :
    Calls Try.prog 19 #[.agg #[.int .i64 r.id, .int .i64 r.came, .int .i64 r.working, .int .i64 r.extended, .slice A r.stops.length c]] w
      fun e w' => ∃ g, e = .returned (.agg #[.int .i64 r.id, .int .i64 r.came, .int .i64 r.working, .int .i64 r.extended, .slice (some ⟨g, 0, none⟩) r.stops.length r.stops.length])
        ∧ w'.ownsRow w.heap.size 57 2 (.slice (some ⟨g, 0, none⟩) r.stops.length r.stops.length) r.stops.length (cells2 r.stops) ∧ Below w.heap.size w w' := by
  go_enter Try.func19, Try.ntmps19
  go_wp2_with fail
  refine (toIntA2S_any r.stops A c _ (hr.below (by go_grown)) hl).mono ?_
  rintro e w1 ⟨g, rfl, ho, hb⟩
  obtain ⟨hc, hf⟩ := bcell hb
  have hsz : w.heap.size + 1 + 1 < w1.heap.size := by have := hb.size; simp at this; omega
  have HO := Lib.hid ho
  have HB := Lib.hid hb
  clear ho hb
  go_wp2
  refine bodyPost_ret (v := .agg #[.int .i64 r.id, .int .i64 r.came, .int .i64 r.working, .int .i64 r.extended, .slice (some ⟨g, 0, none⟩) r.stops.length r.stops.length]) (by simp [results, Try.results19, go_sem, hc, hsz]) rfl ⟨g, rfl, ?_, ?_⟩
  · refine own_base (base := w.heap.size + 1 + 1 + 1) ?_ (by omega)
    repeat' refine ownsRow_setCell_below ?_ (by simp) _
    simpa using HO.out
  · have h := Below.trans' (a := w) (by go_grown) HB.out
    repeat' refine Below.setCell ?_ (by simp [Nat.add_assoc]) _
    exact h

set_option maxHeartbeats 400000 in
theorem eqRequest_same (r : Req) (A B : Option Addr) (c d : Nat) (w : World) (hr : Rd w 2 A r.stops.length (cells2 r.stops)) (hs : Rd w 2 B r.stops.length (cells2 r.stops)) (hl : r.stops.length ≤ 1048576) :
    Calls Try.prog 23 #[.agg #[.int .i64 r.id, .int .i64 r.came, .int .i64 r.working, .int .i64 r.extended, .slice A r.stops.length c], .agg #[.int .i64 r.id, .int .i64 r.came, .int .i64 r.working, .int .i64 r.extended, .slice B r.stops.length d]] w
      fun e w' => e = .returned (.bool true) ∧ Below w.heap.size w w' := by
  go_enter Try.func23, Try.ntmps23
  go_wp2_with fail
  refine (eqIntA2S_same r.stops A B c d _ (hr.below (by go_grown)) (hs.below (by go_grown)) hl).mono ?_
  rintro e w1 ⟨rfl, hb⟩
  go_wp2
  go_ret
  exact ⟨rfl, Below.trans' (by go_grown) hb⟩

theorem szRequest_ok (a0 a1 a2 a3 : Value) (n : Nat) (left : Int) (A : Option Addr) (c : Nat) (w : World) (hl : left ≤ 1048576) (h : (n : Int) ≤ left) :
    Calls Try.prog 16 #[.agg #[a0, a1, a2, a3, .slice A n c], .int .i64 left] w fun e w' => e = .returned (.int .i64 (left - n)) ∧ Below w.heap.size w w' := by
  go_enter Try.func16, Try.ntmps16
  go_wp2_with (go_at_call 27; refine (szIntA2S_ok _ _ _ _ _ hl h).mono ?_; rintro e w1 ⟨rfl, rfl⟩)
  go_ret
  exact ⟨rfl, by go_grown⟩

theorem szRequest_no (a0 a1 a2 a3 : Value) (n : Nat) (left : Int) (A : Option Addr) (c : Nat) (w : World) (h0 : 0 ≤ left) (hn : n ≤ 9223372036854775807) (h : left < (n : Int)) :
    Calls Try.prog 16 #[.agg #[a0, a1, a2, a3, .slice A n c], .int .i64 left] w fun e w' => e = .returned (.int .i64 (-1)) ∧ Below w.heap.size w w' := by
  go_enter Try.func16, Try.ntmps16
  go_wp2_with (go_at_call 27; refine (szIntA2S_no _ _ _ _ _ h0 hn h).mono ?_; rintro e w1 ⟨rfl, rfl⟩)
  go_ret
  exact ⟨rfl, by go_grown⟩



end Go.Proofs.Ytonfopelfccnpaa
