/-
  The walk of the law on IsRequest.
  Conditions: those written at each theorem.
-/
import Derived.Test.YtaogjkgaecjfoaaP13f
import Derived.Test.YtaogjkgaecjfoaaOpen
import Derived.Deep.RegionWith
namespace Go.Proofs.Ytaogjkgaecjfoaa
open Go.RowKit

set_option maxHeartbeats 800000 in
theorem lawIsRequest (r : Req) (A : Option Addr) (c : Nat) (w : World) (hr : Rd w 2 A r.stops.length (cells2 r.stops)) (hl : r.stops.length ≤ 1048576) :
    Calls Try.prog 6 #[.agg #[.int .i64 r.id, .int .i64 r.came, .int .i64 r.working, .int .i64 r.extended, .slice A r.stops.length c]] w
      fun e w' => e = .returned (.bool true) ∧ Below w.heap.size w w' := by
  have HR := Lib.hid hr
  clear hr
  go_enter Try.func6, Try.ntmps6
  go_wp2_with fail
  have bx := Box.new w #[.int .i64 r.id, .int .i64 r.came, .int .i64 r.working, .int .i64 r.extended, .slice A r.stops.length c] 30
  refine (szRequest_ok _ _ _ _ _ _ _ _ _ (by omega) (by omega)).mono ?_
  rintro e w1 ⟨rfl, hb1⟩
  replace bx := bx.below hb1
  obtain ⟨e0, e1, e2, e3, e4⟩ := bx.five
  have H1 := Lib.hid (Below.trans' ((Below.refl _ _).alloc (Nat.le_refl _) _) hb1)
  have BX := Lib.hid bx
  clear hb1 bx
  go_wp2_with fail
  refine (toRequest_any r A c _ (HR.out.below H1.out) hl).mono ?_
  rintro e w2 ⟨g2, rfl, ho2, hb2⟩
  have hr2 := Lib.hid (Rd.of_own ho2)
  have bx := BX.out.below hb2
  have H2 := Lib.hid (Below.trans' H1.out hb2)
  clear ho2 hb2 BX e0 e1 e2 e3 e4 H1
  go_wp2_with fail
  refine (specIsRequest_any r _ _ _ hr2.out (by omega)).mono ?_
  rintro e w3 ⟨rfl, hb3⟩
  replace bx := bx.below hb3
  obtain ⟨e0, e1, e2, e3, e4⟩ := bx.five
  have H3 := Lib.hid (Below.trans' H2.out hb3)
  have BX := Lib.hid bx
  clear hb3 hr2 bx H2
  go_wp2_with fail
  refine (toRequest_any r A c _ (HR.out.below H3.out) hl).mono ?_
  rintro e w4 ⟨g4, rfl, ho4, hb4⟩
  have hr4 := Lib.hid (Rd.of_own ho4)
  have bx := BX.out.below hb4
  have H4 := Lib.hid (Below.trans' H3.out hb4)
  clear ho4 hb4 BX e0 e1 e2 e3 e4 H3
  go_wp2_with fail
  have by5 := Box.new w4 #[.int .i64 r.id, .int .i64 r.came, .int .i64 r.working, .int .i64 r.extended, .slice (some ⟨g4, 0, none⟩) r.stops.length r.stops.length] 33
  replace bx := bx.below ((Below.refl _ _).alloc (Nat.le_refl _) (.cells #[.int .i64 r.id, .int .i64 r.came, .int .i64 r.working, .int .i64 r.extended, .slice (some ⟨g4, 0, none⟩) r.stops.length r.stops.length] 33))
  refine (implIsRequest_any r _ _ _ (hr4.out.below (by go_grown)) (by omega)).mono ?_
  rintro e w5 ⟨rfl, hb5⟩
  replace bx := bx.below hb5
  replace by5 := by5.below hb5
  obtain ⟨e0, e1, e2, e3, e4⟩ := bx.five
  obtain ⟨f0, f1, f2, f3, f4⟩ := by5.five
  have H5 := Lib.hid (Below.trans' H4.out (Below.trans' ((Below.refl _ _).alloc (Nat.le_refl _) _) hb5))
  have hr5 := Lib.hid (Rd.below (Rd.below hr4.out ((Below.refl _ _).alloc (Nat.le_refl _) _)) hb5)
  have BX := Lib.hid bx
  have BY := Lib.hid by5
  clear hb5 bx by5 hr4
  go_wp2_with fail
  go_region_with (first
    | (go_at_call 21; refine (toRequest_any r A c _ (HR.out.below H5.out.drew) hl).mono ?_; rintro e w6 ⟨g6, rfl, ho6, hb6⟩; replace hb6 := below_ofDrew (a := w) hb6; obtain ⟨x0, x1, x2, x3, x4⟩ := (BX.out.below hb6).five; obtain ⟨y0, y1, y2, y3, y4⟩ := (BY.out.below hb6).five; have hr6 := Lib.hid (Rd.of_own ho6); have hr7 := Lib.hid (Rd.below hr5.out hb6); have H6 := Lib.hid (Below.trans' H5.out hb6); clear ho6 hb6)
    | (go_at_call 23; refine (eqRequest_same r _ _ _ _ _ hr7.out hr6.out hl).mono ?_; rintro e w7 ⟨rfl, hb7⟩; have H7 := Lib.hid (Below.trans' H6.out hb7); clear hb7))
  all_goals
    go_wp2
    go_ret
    exact ⟨rfl, H7.out⟩

/-- an argument that is too large: the law answers at once -/
theorem lawIsRequest_big (a0 a1 a2 a3 : Value) (n : Nat) (A : Option Addr) (c : Nat) (w : World) (hn : n ≤ 9223372036854775807) (hl : 1048576 < n) :
    Calls Try.prog 6 #[.agg #[a0, a1, a2, a3, .slice A n c]] w
      fun e w' => e = .returned (.bool true) ∧ Below w.heap.size w w' := by
  go_enter Try.func6, Try.ntmps6
  go_wp2_with fail
  refine (szRequest_no _ _ _ _ _ _ _ _ _ (by omega) (by omega) (by omega)).mono ?_
  rintro e w1 ⟨rfl, hb1⟩
  go_wp2
  go_ret
  exact ⟨rfl, Below.trans' (by go_grown) hb1⟩

theorem walkIsRequest (v : Value) (w : World) (hv : InReq w v) :
    Calls Try.prog 6 #[v] w fun e w' => e = .returned (.bool true) ∧ Below w.heap.size w w' := by
  obtain ⟨a0, a1, a2, a3, S, A, k, rfl, hr, hm, _⟩ := hv
  by_cases hl : S.length ≤ 1048576
  · exact lawIsRequest ⟨a0, a1, a2, a3, S⟩ A k w hr hl
  · exact lawIsRequest_big _ _ _ _ _ _ _ _ hm (by omega)

end Go.Proofs.Ytaogjkgaecjfoaa
