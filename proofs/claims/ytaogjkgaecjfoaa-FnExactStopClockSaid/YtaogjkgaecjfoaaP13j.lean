/-
  Copies of pairs; the copy of a request; ExtendRequest and StopClock: by the reference and by the program.
  Conditions: those written at each theorem.
-/
import Derived.Test.YtaogjkgaecjfoaaP13f
import Derived.Test.YtaogjkgaecjfoaaBx
import Derived.Deep.RegionHeld3
import Derived.Lib.BufferMore
namespace Go.Proofs.Ytaogjkgaecjfoaa
open Go.RowKit Go.BigFrame
set_option maxRecDepth 100000

theorem own_empty {B : Nat} (w : World) (e : TypeId) (sz : Nat) (hB : B ≤ w.heap.size) : (w.alloc (.cells #[] e)).ownsRow B e sz (.slice (some ⟨w.heap.size, 0, none⟩) 0 0) 0 [] :=
  World.ownsRow_lit w #[] 0 hB (Nat.zero_le _) (by simp)

theorem one_cells2 (S : List (Int × Int)) : ∀ u ∈ cells2 S, u.oneCell' = true := by
  intro u hu
  simp only [cells2, List.mem_flatMap, List.mem_cons, List.not_mem_nil, or_false] at hu
  obtain ⟨p, _, rfl | rfl⟩ := hu <;> rfl

/-- a slice of pairs of the call's own -/
def SlP (base : Nat) (w : World) (S : List (Int × Int)) (v : Value) : Prop :=
  ∃ (A : Option Addr) (c : Nat), v = .slice A S.length c ∧ w.ownsRow base 64 2 (.slice A S.length c) S.length (cells2 S)

set_option maxHeartbeats 400000 in
theorem clone2_any (S : List (Int × Int)) (ad : Addr) (c : Nat) (w : World) (hr : Rd w 2 (some ad) S.length (cells2 S)) (hl : S.length ≤ 1048576) :
    Calls Try.prog 60 #[.slice (some ad) S.length c] w fun e w' => ∃ v, e = .returned v ∧ SlP w.heap.size w' S v ∧ Below w.heap.size w w' := by
  obtain ⟨i0, hi, hz0, hz1, hz2⟩ := info_parts infoPair
  have HO0 := Lib.hid (own_empty w 64 2 (Nat.le_refl _))
  have HB0 := Lib.hid (Below.alloc (Below.refl w.heap.size w) (Nat.le_refl _) (.cells #[] 64))
  have HR := Lib.hid hr
  clear hr
  have hnil := fun W : World => Lib.run_eql_slice_some_nil (P := Try.prog) W ad S.length c Try.underlying28
  go_enter Try.func60, Try.ntmps60
  go_wp2_with (at_builtin; refine wpList_appendMany _ rfl _ _ 28 rfl w.heap.size 64 i0 (.agg #[.int .i64 0, .int .i64 0]) 2 16 Try.underlying28 hi hz0 hz1 hz2 rfl (by decide) (by decide) (some ⟨w.heap.size, 0, none⟩) 0 0 [] rfl HO0.out (some ad) S.length c (cells2 S) rfl (HR.out.below HB0.out) (by simp) (one_cells2 S) (by omega) (by simp) ?_; intro A2 c2 w2 hown2 hg2)
  go_ret
  refine ⟨_, rfl, ⟨A2, c2, by simp, by simpa using hown2⟩, ?_⟩
  exact Below.row HB0.out HO0.out hg2 (Nat.le_refl _) (by simp)

/-- a request whose stops are a slice of the call's own -/
def ReqV (base : Nat) (w : World) (r : Req) (v : Value) : Prop :=
  ∃ (A : Option Addr) (c : Nat), v = .agg #[.int .i64 r.id, .int .i64 r.came, .int .i64 r.working, .int .i64 r.extended, .slice A r.stops.length c] ∧ w.ownsRow base 64 2 (.slice A r.stops.length c) r.stops.length (cells2 r.stops)

def noReq : Req := ⟨0, 0, 0, 0, []⟩

/-- where ExtendRequest answers, and with what -/
def exOk (r : Req) (n : Int) : Bool := reqOk r && inB n 1 (40 - r.extended)
def exOut (r : Req) (n : Int) : Req := if exOk r n = true then { r with extended := r.extended + n } else noReq

set_option maxHeartbeats 1000000 in
theorem implExtendRequest_any (r : Req) (n : Int) (ad : Addr) (c : Nat) (w : World) (hr : Rd w 2 (some ad) r.stops.length (cells2 r.stops)) (hl : r.stops.length ≤ 1048576) :
    Calls Try.prog 31 #[.agg #[.int .i64 r.id, .int .i64 r.came, .int .i64 r.working, .int .i64 r.extended, .slice (some ad) r.stops.length c], .int .i64 n] w
      fun e w' => ∃ v, e = .returned (.tuple #[v, .bool (exOk r n)]) ∧ ReqV w.heap.size w' (exOut r n) v ∧ Below w.heap.size w w' := by
  have HI := fun W h => Lib.hid (implIsRequest_any r (some ad) c W h (by omega))
  have HC := fun W h => Lib.hid (clone2_any r.stops ad c W h hl)
  have HR := Lib.hid hr
  clear hr
  by_cases h1 : reqOk r = true
  · have hb := headOk_true (reqOk_true h1).1
    have hx := hb.2.2.2.1
    clear hb
    by_cases h2 : inB n 1 (40 - r.extended) = true
    · have e1 : Hid (exOk r n = true) := by show _ = _; simp [exOk, h1, h2]
      have e2 : Hid (exOut r n = { r with extended := r.extended + n }) := if_pos e1.out
      have b2 := inB_true h2
      have X0 := (BX.new w #[.int .i64 r.id, .int .i64 r.came, .int .i64 r.working, .int .i64 r.extended, .slice (some ad) r.stops.length c] 33).alloc (.cells #[.int .i64 0, .int .i64 0, .int .i64 0, .int .i64 0, .slice none 0 0] 33)
      have Y0 := BX.new (w.alloc (.cells #[.int .i64 r.id, .int .i64 r.came, .int .i64 r.working, .int .i64 r.extended, .slice (some ad) r.stops.length c] 33)) #[.int .i64 0, .int .i64 0, .int .i64 0, .int .i64 0, .slice none 0 0] 33
      rw [World.size_alloc] at Y0
      have HX0 := Lib.hid X0
      have HY0 := Lib.hid Y0
      clear X0 Y0
      go_enter Try.func31, Try.ntmps31
      go_wp2_with fail
      refine (HI _ (HR.out.below (by go_grown))).out.mono ?_
      rintro e w1 ⟨rfl, hb1⟩
      have HX1 := Lib.hid (HX0.out.below hb1)
      have HY1 := Lib.hid (HY0.out.below hb1)
      have HB1 := Lib.hid (Below.trans' (a := w) (by go_grown) hb1)
      clear hb1 HX0 HY0
      obtain ⟨x0, x1, x2, x3, x4, z0, z1, z2, z3, z4⟩ := HX1.out.five
      go_wp2_with (go_at_call 51; refine (within_any _ _ _ _).mono ?_; rintro e w' ⟨rfl, rfl⟩)
      clear x0 x1 x2 x3 x4 z0 z1 z2 z3 z4
      have HB2 := Lib.hid (HB1.out.setCell (p := ⟨w.heap.size, 3, none⟩) (Nat.le_refl _) (.int .i64 (r.extended + n)))
      have HX2 := Lib.hid (HX1.out.set 3 (.int .i64 (r.extended + n)))
      have HY2 := Lib.hid (HY1.out.other ⟨w.heap.size, 3, none⟩ (.int .i64 (r.extended + n)) (by simp))
      refine (HC _ (HR.out.below HB2.out)).out.mono ?_
      rintro e w2 ⟨_, rfl, ⟨A2, c2, rfl, ho2⟩, hb2⟩
      have HX3 := Lib.hid (HX2.out.below hb2)
      have HY3 := Lib.hid (HY2.out.below hb2)
      have HB3 := Lib.hid (Below.transB HB2.out (Nat.le_refl _) hb2)
      have HO := Lib.hid ho2
      have hlt := HY1.out.lt
      clear hb2 ho2 HX1 HX2 HY1 HY2 HB1 HB2
      obtain ⟨x0, x1, x2, x3, x4, z0, z1, z2, z3, z4⟩ := BX.five HX3.out
      obtain ⟨y0, y1, y2, y3, y4, u0, u1, u2, u3, u4⟩ := BX.five HY3.out
      go_wp2
      refine bodyPost_ret (v := .tuple #[.agg #[.int .i64 r.id, .int .i64 r.came, .int .i64 r.working, .int .i64 (r.extended + n), .slice A2 r.stops.length c2], .bool true]) (by simp [results, Try.results31, go_sem, y0, y1, y2, y3, y4]) rfl ?_
      refine ⟨_, by rw [e1.out], ?_, ?_⟩
      · rw [e2.out]
        refine ⟨A2, c2, rfl, own_base (base := (w1.setCell ⟨w.heap.size, 3, none⟩ (.int .i64 (r.extended + n))).heap.size) ?_ (by simp; omega)⟩
        repeat' refine ownsRow_setCell_below ?_ (by simp; omega) _
        exact HO.out
      · repeat' refine Below.setCell ?_ (by simp) _
        exact HB3.out
    · have HH : inB n 1 (40 - r.extended) = false := by simpa using h2
      have e1 : Hid (exOk r n = false) := by show _ = _; simp [exOk, HH]
      have e2 : Hid (exOut r n = noReq) := if_neg (by rw [e1.out]; simp)
      have X0 := (BX.new w #[.int .i64 r.id, .int .i64 r.came, .int .i64 r.working, .int .i64 r.extended, .slice (some ad) r.stops.length c] 33).alloc (.cells #[.int .i64 0, .int .i64 0, .int .i64 0, .int .i64 0, .slice none 0 0] 33)
      have Y0 := BX.new (w.alloc (.cells #[.int .i64 r.id, .int .i64 r.came, .int .i64 r.working, .int .i64 r.extended, .slice (some ad) r.stops.length c] 33)) #[.int .i64 0, .int .i64 0, .int .i64 0, .int .i64 0, .slice none 0 0] 33
      rw [World.size_alloc] at Y0
      have HX0 := Lib.hid X0
      have HY0 := Lib.hid Y0
      clear X0 Y0
      go_enter Try.func31, Try.ntmps31
      go_wp2_with fail
      refine (HI _ (HR.out.below (by go_grown))).out.mono ?_
      rintro e w1 ⟨rfl, hb1⟩
      have HY1 := Lib.hid (HY0.out.below hb1)
      have HB1 := Lib.hid (Below.trans' (a := w) (by go_grown) hb1)
      obtain ⟨x0, x1, x2, x3, x4, z0, z1, z2, z3, z4⟩ := BX.five (HX0.out.below hb1)
      obtain ⟨y0, y1, y2, y3, y4, u0, u1, u2, u3, u4⟩ := BX.five HY1.out
      have hlt := HY1.out.lt
      clear hb1 HX0 HY0 HY1
      go_wp2_with (go_at_call 51; refine (within_any _ _ _ _).mono ?_; rintro e w' ⟨rfl, rfl⟩)
      refine bodyPost_ret (v := .tuple #[.agg #[.int .i64 0, .int .i64 0, .int .i64 0, .int .i64 0, .slice none 0 0], .bool false]) (by simp [results, Try.results31, go_sem, y0, y1, y2, y3, y4]) rfl ?_
      refine ⟨_, by rw [e1.out], by rw [e2.out]; exact ⟨none, 0, rfl, World.ownsRow_nil _ _ _ _⟩, ?_⟩
      repeat' refine Below.setCell ?_ (by simp) _
      exact HB1.out
  · have HH : reqOk r = false := by simpa using h1
    have e1 : Hid (exOk r n = false) := by show _ = _; simp [exOk, HH]
    have e2 : Hid (exOut r n = noReq) := if_neg (by rw [e1.out]; simp)
    have X0 := (BX.new w #[.int .i64 r.id, .int .i64 r.came, .int .i64 r.working, .int .i64 r.extended, .slice (some ad) r.stops.length c] 33).alloc (.cells #[.int .i64 0, .int .i64 0, .int .i64 0, .int .i64 0, .slice none 0 0] 33)
    have Y0 := BX.new (w.alloc (.cells #[.int .i64 r.id, .int .i64 r.came, .int .i64 r.working, .int .i64 r.extended, .slice (some ad) r.stops.length c] 33)) #[.int .i64 0, .int .i64 0, .int .i64 0, .int .i64 0, .slice none 0 0] 33
    rw [World.size_alloc] at Y0
    have HX0 := Lib.hid X0
    have HY0 := Lib.hid Y0
    clear X0 Y0
    go_enter Try.func31, Try.ntmps31
    go_wp2_with fail
    refine (HI _ (HR.out.below (by go_grown))).out.mono ?_
    rintro e w1 ⟨rfl, hb1⟩
    have HY1 := Lib.hid (HY0.out.below hb1)
    have HB1 := Lib.hid (Below.trans' (a := w) (by go_grown) hb1)
    obtain ⟨x0, x1, x2, x3, x4, z0, z1, z2, z3, z4⟩ := BX.five (HX0.out.below hb1)
    obtain ⟨y0, y1, y2, y3, y4, u0, u1, u2, u3, u4⟩ := BX.five HY1.out
    have hlt := HY1.out.lt
    clear hb1 HX0 HY0 HY1
    go_wp2_with (go_at_call 51; refine (within_any _ _ _ _).mono ?_; rintro e w' ⟨rfl, rfl⟩)
    refine bodyPost_ret (v := .tuple #[.agg #[.int .i64 0, .int .i64 0, .int .i64 0, .int .i64 0, .slice none 0 0], .bool false]) (by simp [results, Try.results31, go_sem, y0, y1, y2, y3, y4]) rfl ?_
    refine ⟨_, by rw [e1.out], by rw [e2.out]; exact ⟨none, 0, rfl, World.ownsRow_nil _ _ _ _⟩, ?_⟩
    repeat' refine Below.setCell ?_ (by simp) _
    exact HB1.out

end Go.Proofs.Ytaogjkgaecjfoaa
