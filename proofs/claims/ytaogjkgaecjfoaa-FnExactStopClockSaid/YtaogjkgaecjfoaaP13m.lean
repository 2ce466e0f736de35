/-
  StopClock by the program. Written by mk13l.py.
  Conditions: those written at each theorem.
-/
import Derived.Test.YtaogjkgaecjfoaaP13l
namespace Go.Proofs.Ytaogjkgaecjfoaa
open Go.RowKit Go.BigFrame
set_option maxRecDepth 100000


set_option maxHeartbeats 1000000 in
theorem implStopClock_any (r : Req) (a b : Int) (ad : Addr) (c : Nat) (w : World) (hr : Rd w 2 (some ad) r.stops.length (cells2 r.stops)) (hl : r.stops.length ≤ 1048576) :
    Calls Try.prog 27 #[.agg #[.int .i64 r.id, .int .i64 r.came, .int .i64 r.working, .int .i64 r.extended, .slice (some ad) r.stops.length c], .int .i64 a, .int .i64 b] w
      fun e w' => ∃ v, e = .returned (.tuple #[v, .bool (stOk r a b)]) ∧ ReqV w.heap.size w' (stOut r a b) v ∧ Below w.heap.size w w' := by
  obtain ⟨i0, hi, hz0, hz1, hz2⟩ := info_parts infoPair
  have HI := fun W h => Lib.hid (implIsRequest_any r (some ad) c W h (by omega))
  have HC := fun W h => Lib.hid (clone2_any r.stops ad c W h hl)
  have HJ := fun W A c' h => Lib.hid (isRequest_at r.id r.came r.working r.extended (r.stops ++ [(a, b)]) (r.stops.length + 1) (by simp) A c' W h (by omega))
  have HR := Lib.hid hr
  clear hr
  by_cases h1 : reqOk r = true
  · by_cases h2 : reqOk ⟨r.id, r.came, r.working, r.extended, r.stops ++ [(a, b)]⟩ = true
    · have e1 : Hid (stOk r a b = true) := by show _ = _; simp [stOk, h1, h2]
      have e2 : Hid (stOut r a b = ⟨r.id, r.came, r.working, r.extended, r.stops ++ [(a, b)]⟩) := if_pos e1.out
      have X0 := (BX.new w #[.int .i64 r.id, .int .i64 r.came, .int .i64 r.working, .int .i64 r.extended, .slice (some ad) r.stops.length c] 33).alloc (.cells #[.int .i64 0, .int .i64 0, .int .i64 0, .int .i64 0, .slice none 0 0] 33)
      have Y0 := BX.new (w.alloc (.cells #[.int .i64 r.id, .int .i64 r.came, .int .i64 r.working, .int .i64 r.extended, .slice (some ad) r.stops.length c] 33)) #[.int .i64 0, .int .i64 0, .int .i64 0, .int .i64 0, .slice none 0 0] 33
      rw [World.size_alloc] at Y0
      have HX0 := Lib.hid X0
      have HY0 := Lib.hid Y0
      clear X0 Y0
      go_enter Try.func27, Try.ntmps27
      go_wp2_with fail
      refine (HI _ (HR.out.below (by go_grown))).out.mono ?_
      rintro e w1 ⟨rfl, hb⟩
      have HX1 := Lib.hid (HX0.out.below hb)
      have HY1 := Lib.hid (HY0.out.below hb)
      have HB1 := Lib.hid (Below.trans' (a := w) (by go_grown) hb)
      have hlt := HY1.out.lt
      clear hb HX0 HY0
      obtain ⟨x0, x1, x2, x3, x4, z0, z1, z2, z3, z4⟩ := HX1.out.five
      obtain ⟨y0, y1, y2, y3, y4, u0, u1, u2, u3, u4⟩ := HY1.out.five
      go_wp2_with fail
      clear x0 x1 x2 x3 x4 z0 z1 z2 z3 z4 y0 y1 y2 y3 y4 u0 u1 u2 u3 u4
      refine (HC _ (HR.out.below HB1.out)).out.mono ?_
      rintro e w2 ⟨_, rfl, ⟨A1, c1, rfl, ho⟩, hb⟩
      have HX2 := Lib.hid (HX1.out.below hb)
      have HY2 := Lib.hid (HY1.out.below hb)
      have HB2 := Lib.hid (Below.transB HB1.out (Nat.le_refl _) hb)
      have HW2 := Lib.hid (own_base (base' := w.heap.size + 1 + 1) ho (by omega))
      have hlt2 := HY2.out.lt
      clear hb ho HX1 HY1 HB1
      obtain ⟨x0, x1, x2, x3, x4, z0, z1, z2, z3, z4⟩ := HX2.out.five
      go_wp2_with (
                   at_builtin
                   refine wpList_push' rfl _ _ 28 rfl (w.heap.size + 1 + 1) 64 i0 (.agg #[.int .i64 0, .int .i64 0]) 2 16 Try.underlying28 hi hz0 hz1 hz2 rfl (by decide) (by decide) _ _ _ _ rfl HW2.out #[.int .i64 a, .int .i64 b] 1 rfl rfl (by simp [Value.oneCell']) (by omega) (by omega) ?_
                   intro A2 c2 w3 hown2 hg2 hpl2
                   have NX : some w.heap.size ≠ (Value.slice A1 r.stops.length c1).ownBlock := fun h => by have := (HW2.out.lt _ h.symm).1; omega
                   have NY : some (w.heap.size + 1) ≠ (Value.slice A1 r.stops.length c1).ownBlock := fun h => by have := (HW2.out.lt _ h.symm).1; omega
                   have HX3 := Lib.hid (HX2.out.grown hg2 NX)
                   have HY3 := Lib.hid (HY2.out.grown hg2 NY)
                   have HB3 := Lib.hid (Below.row HB2.out HW2.out hg2 (by omega) (by omega))
                   have HW3 := Lib.hid hown2
                   clear hpl2 NX NY hg2 hown2 HX2 HY2 HB2 HW2 x0 x1 x2 x3 x4 z0 z1 z2 z3 z4
                   obtain ⟨x0, x1, x2, x3, x4, z0, z1, z2, z3, z4⟩ := HX3.out.five)
      have HX4 := Lib.hid (HX3.out.set 4 (.slice A2 (r.stops.length + 1) c2))
      have HY4 := Lib.hid (HY3.out.other ⟨w.heap.size, 4, none⟩ (.slice A2 (r.stops.length + 1) c2) (by simp))
      have HB4 := Lib.hid (HB3.out.setCell (p := ⟨w.heap.size, 4, none⟩) (by simp) (.slice A2 (r.stops.length + 1) c2))
      have HW4 := Lib.hid (ownsRow_setCell_below HW3.out (a := ⟨w.heap.size, 4, none⟩) (by simp; omega) (.slice A2 (r.stops.length + 1) c2))
      clear HX3 HY3 HB3 HW3
      refine (HJ _ A2 c2 (by simpa [cells2_snoc] using Rd.of_own HW4.out)).out.mono ?_
      rintro e w5 ⟨rfl, hb⟩
      clear x0 x1 x2 x3 x4 z0 z1 z2 z3 z4
      have HX5 := Lib.hid (HX4.out.below hb)
      have HY5 := Lib.hid (HY4.out.below hb)
      have HB5 := Lib.hid (Below.transB HB4.out (Nat.le_refl _) hb)
      have HW5 := Lib.hid (own_below HW4.out hb)
      clear hb HX4 HY4 HB4 HW4
      obtain ⟨x0, x1, x2, x3, x4, z0, z1, z2, z3, z4⟩ := HX5.out.five
      obtain ⟨y0, y1, y2, y3, y4, u0, u1, u2, u3, u4⟩ := HY5.out.five
      go_wp2_with fail
      refine bodyPost_ret (v := .tuple #[.agg #[.int .i64 r.id, .int .i64 r.came, .int .i64 r.working, .int .i64 r.extended, .slice A2 (r.stops.length + 1) c2], .bool true]) (by simp [results, Try.results27, go_sem, y0, y1, y2, y3, y4]) rfl ?_
      refine ⟨_, by rw [e1.out], ?_, ?_⟩
      · rw [e2.out]
        refine ⟨A2, c2, by simp, own_base (base := w.heap.size + 1 + 1) ?_ (by omega)⟩
        repeat' refine ownsRow_setCell_below ?_ (by simp) _
        simpa [cells2_snoc] using HW5.out
      · repeat' refine Below.setCell ?_ (by simp) _
        exact HB5.out
    · have HH : reqOk ⟨r.id, r.came, r.working, r.extended, r.stops ++ [(a, b)]⟩ = false := by simpa using h2
      have e1 : Hid (stOk r a b = false) := by show _ = _; simp [stOk, HH]
      have e2 : Hid (stOut r a b = noReq) := if_neg (by rw [e1.out]; simp)
      have X0 := (BX.new w #[.int .i64 r.id, .int .i64 r.came, .int .i64 r.working, .int .i64 r.extended, .slice (some ad) r.stops.length c] 33).alloc (.cells #[.int .i64 0, .int .i64 0, .int .i64 0, .int .i64 0, .slice none 0 0] 33)
      have Y0 := BX.new (w.alloc (.cells #[.int .i64 r.id, .int .i64 r.came, .int .i64 r.working, .int .i64 r.extended, .slice (some ad) r.stops.length c] 33)) #[.int .i64 0, .int .i64 0, .int .i64 0, .int .i64 0, .slice none 0 0] 33
      rw [World.size_alloc] at Y0
      have HX0 := Lib.hid X0
      have HY0 := Lib.hid Y0
      clear X0 Y0
      go_enter Try.func27, Try.ntmps27
      go_wp2_with fail
      refine (HI _ (HR.out.below (by go_grown))).out.mono ?_
      rintro e w1 ⟨rfl, hb⟩
      have HX1 := Lib.hid (HX0.out.below hb)
      have HY1 := Lib.hid (HY0.out.below hb)
      have HB1 := Lib.hid (Below.trans' (a := w) (by go_grown) hb)
      have hlt := HY1.out.lt
      clear hb HX0 HY0
      obtain ⟨x0, x1, x2, x3, x4, z0, z1, z2, z3, z4⟩ := HX1.out.five
      obtain ⟨y0, y1, y2, y3, y4, u0, u1, u2, u3, u4⟩ := HY1.out.five
      go_wp2_with fail
      clear x0 x1 x2 x3 x4 z0 z1 z2 z3 z4 y0 y1 y2 y3 y4 u0 u1 u2 u3 u4
      refine (HC _ (HR.out.below HB1.out)).out.mono ?_
      rintro e w2 ⟨_, rfl, ⟨A1, c1, rfl, ho⟩, hb⟩
      have HX2 := Lib.hid (HX1.out.below hb)
      have HY2 := Lib.hid (HY1.out.below hb)
      have HB2 := Lib.hid (Below.transB HB1.out (Nat.le_refl _) hb)
      have HW2 := Lib.hid (own_base (base' := w.heap.size + 1 + 1) ho (by omega))
      have hlt2 := HY2.out.lt
      clear hb ho HX1 HY1 HB1
      obtain ⟨x0, x1, x2, x3, x4, z0, z1, z2, z3, z4⟩ := HX2.out.five
      go_wp2_with (
                   at_builtin
                   refine wpList_push' rfl _ _ 28 rfl (w.heap.size + 1 + 1) 64 i0 (.agg #[.int .i64 0, .int .i64 0]) 2 16 Try.underlying28 hi hz0 hz1 hz2 rfl (by decide) (by decide) _ _ _ _ rfl HW2.out #[.int .i64 a, .int .i64 b] 1 rfl rfl (by simp [Value.oneCell']) (by omega) (by omega) ?_
                   intro A2 c2 w3 hown2 hg2 hpl2
                   have NX : some w.heap.size ≠ (Value.slice A1 r.stops.length c1).ownBlock := fun h => by have := (HW2.out.lt _ h.symm).1; omega
                   have NY : some (w.heap.size + 1) ≠ (Value.slice A1 r.stops.length c1).ownBlock := fun h => by have := (HW2.out.lt _ h.symm).1; omega
                   have HX3 := Lib.hid (HX2.out.grown hg2 NX)
                   have HY3 := Lib.hid (HY2.out.grown hg2 NY)
                   have HB3 := Lib.hid (Below.row HB2.out HW2.out hg2 (by omega) (by omega))
                   have HW3 := Lib.hid hown2
                   clear hpl2 NX NY hg2 hown2 HX2 HY2 HB2 HW2 x0 x1 x2 x3 x4 z0 z1 z2 z3 z4
                   obtain ⟨x0, x1, x2, x3, x4, z0, z1, z2, z3, z4⟩ := HX3.out.five)
      have HX4 := Lib.hid (HX3.out.set 4 (.slice A2 (r.stops.length + 1) c2))
      have HY4 := Lib.hid (HY3.out.other ⟨w.heap.size, 4, none⟩ (.slice A2 (r.stops.length + 1) c2) (by simp))
      have HB4 := Lib.hid (HB3.out.setCell (p := ⟨w.heap.size, 4, none⟩) (by simp) (.slice A2 (r.stops.length + 1) c2))
      have HW4 := Lib.hid (ownsRow_setCell_below HW3.out (a := ⟨w.heap.size, 4, none⟩) (by simp; omega) (.slice A2 (r.stops.length + 1) c2))
      clear HX3 HY3 HB3 HW3
      refine (HJ _ A2 c2 (by simpa [cells2_snoc] using Rd.of_own HW4.out)).out.mono ?_
      rintro e w5 ⟨rfl, hb⟩
      clear x0 x1 x2 x3 x4 z0 z1 z2 z3 z4
      have HX5 := Lib.hid (HX4.out.below hb)
      have HY5 := Lib.hid (HY4.out.below hb)
      have HB5 := Lib.hid (Below.transB HB4.out (Nat.le_refl _) hb)
      have HW5 := Lib.hid (own_below HW4.out hb)
      clear hb HX4 HY4 HB4 HW4
      obtain ⟨x0, x1, x2, x3, x4, z0, z1, z2, z3, z4⟩ := HX5.out.five
      obtain ⟨y0, y1, y2, y3, y4, u0, u1, u2, u3, u4⟩ := HY5.out.five
      go_wp2_with fail
      refine bodyPost_ret (v := .tuple #[.agg #[.int .i64 0, .int .i64 0, .int .i64 0, .int .i64 0, .slice none 0 0], .bool false]) (by simp [results, Try.results27, go_sem, y0, y1, y2, y3, y4]) rfl ?_
      refine ⟨_, by rw [e1.out], by rw [e2.out]; exact ⟨none, 0, rfl, World.ownsRow_nil _ _ _ _⟩, ?_⟩
      repeat' refine Below.setCell ?_ (by simp) _
      exact HB5.out
  · have HH : reqOk r = false := by simpa using h1
    have e1 : Hid (stOk r a b = false) := by show _ = _; simp [stOk, HH]
    have e2 : Hid (stOut r a b = noReq) := if_neg (by rw [e1.out]; simp)
    have X0 := (BX.new w #[.int .i64 r.id, .int .i64 r.came, .int .i64 r.working, .int .i64 r.extended, .slice (some ad) r.stops.length c] 33).alloc (.cells #[.int .i64 0, .int .i64 0, .int .i64 0, .int .i64 0, .slice none 0 0] 33)
    have Y0 := BX.new (w.alloc (.cells #[.int .i64 r.id, .int .i64 r.came, .int .i64 r.working, .int .i64 r.extended, .slice (some ad) r.stops.length c] 33)) #[.int .i64 0, .int .i64 0, .int .i64 0, .int .i64 0, .slice none 0 0] 33
    rw [World.size_alloc] at Y0
    have HX0 := Lib.hid X0
    have HY0 := Lib.hid Y0
    clear X0 Y0
    go_enter Try.func27, Try.ntmps27
    go_wp2_with fail
    refine (HI _ (HR.out.below (by go_grown))).out.mono ?_
    rintro e w1 ⟨rfl, hb⟩
    have HX1 := Lib.hid (HX0.out.below hb)
    have HY1 := Lib.hid (HY0.out.below hb)
    have HB1 := Lib.hid (Below.trans' (a := w) (by go_grown) hb)
    have hlt := HY1.out.lt
    clear hb HX0 HY0
    obtain ⟨x0, x1, x2, x3, x4, z0, z1, z2, z3, z4⟩ := HX1.out.five
    obtain ⟨y0, y1, y2, y3, y4, u0, u1, u2, u3, u4⟩ := HY1.out.five
    go_wp2_with fail
    refine bodyPost_ret (v := .tuple #[.agg #[.int .i64 0, .int .i64 0, .int .i64 0, .int .i64 0, .slice none 0 0], .bool false]) (by simp [results, Try.results27, go_sem, y0, y1, y2, y3, y4]) rfl ?_
    refine ⟨_, by rw [e1.out], by rw [e2.out]; exact ⟨none, 0, rfl, World.ownsRow_nil _ _ _ _⟩, ?_⟩
    repeat' refine Below.setCell ?_ (by simp) _
    exact HB1.out

end Go.Proofs.Ytaogjkgaecjfoaa
