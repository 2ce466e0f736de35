/-
  StopClock by the reference and by the program. Written by mk13l.py.
  Conditions: those written at each theorem.
-/
import Derived.Test.YtaogjkgaecjfoaaP13k
namespace Go.Proofs.Ytaogjkgaecjfoaa
open Go.RowKit Go.BigFrame
set_option maxRecDepth 100000

theorem l13Good_at (i x y e : Int) (S : List (Int × Int)) (m : Nat) (hm : S.length = m) (A : Option Addr) (c : Nat) (w : World) (hr : Rd w 2 A m (cells2 S)) (hl : m ≤ 9223372036854775807) :
    Calls Try.prog 54 #[.agg #[.int .i64 i, .int .i64 x, .int .i64 y, .int .i64 e, .slice A m c]] w
      fun e' w' => e' = .returned (.bool (reqOk ⟨i, x, y, e, S⟩)) ∧ Below w.heap.size w w' := by
  subst hm; exact l13Good_any ⟨i, x, y, e, S⟩ A c w hr hl
theorem isRequest_at (i x y e : Int) (S : List (Int × Int)) (m : Nat) (hm : S.length = m) (A : Option Addr) (c : Nat) (w : World) (hr : Rd w 2 A m (cells2 S)) (hl : m ≤ 9223372036854775807) :
    Calls Try.prog 22 #[.agg #[.int .i64 i, .int .i64 x, .int .i64 y, .int .i64 e, .slice A m c]] w
      fun e' w' => e' = .returned (.bool (reqOk ⟨i, x, y, e, S⟩)) ∧ Below w.heap.size w w' := by
  subst hm; exact implIsRequest_any ⟨i, x, y, e, S⟩ A c w hr hl

/-- where StopClock answers, and with what -/
def stOk (r : Req) (a b : Int) : Bool := reqOk r && reqOk ⟨r.id, r.came, r.working, r.extended, r.stops ++ [(a, b)]⟩
def stOut (r : Req) (a b : Int) : Req := if stOk r a b = true then ⟨r.id, r.came, r.working, r.extended, r.stops ++ [(a, b)]⟩ else noReq
theorem cells2_snoc (S : List (Int × Int)) (a b : Int) : cells2 (S ++ [(a, b)]) = cells2 S ++ [.int .i64 a, .int .i64 b] := by simp [cells2]

set_option maxHeartbeats 1000000 in
theorem specStopClock_any (r : Req) (a b : Int) (ad : Addr) (c : Nat) (w : World) (hr : Rd w 2 (some ad) r.stops.length (cells2 r.stops)) (hl : r.stops.length ≤ 1048576) :
    Calls Try.prog 26 #[.agg #[.int .i64 r.id, .int .i64 r.came, .int .i64 r.working, .int .i64 r.extended, .slice (some ad) r.stops.length c], .int .i64 a, .int .i64 b] w
      fun e w' => ∃ v, e = .returned (.tuple #[v, .bool (stOk r a b)]) ∧ ReqV w.heap.size w' (stOut r a b) v ∧ Below w.heap.size w w' := by
  obtain ⟨i0, hi, hz0, hz1, hz2⟩ := info_parts infoPair
  have HI := fun W h => Lib.hid (l13Good_any r (some ad) c W h (by omega))
  have HO := fun W h => Lib.hid (l13Own_any r ad c W h hl)
  have HJ := fun W A c' h => Lib.hid (l13Good_at r.id r.came r.working r.extended (r.stops ++ [(a, b)]) (r.stops.length + 1) (by simp) A c' W h (by omega))
  have HR := Lib.hid hr
  clear hr
  by_cases h1 : reqOk r = true
  · by_cases h2 : reqOk ⟨r.id, r.came, r.working, r.extended, r.stops ++ [(a, b)]⟩ = true
    · have e1 : Hid (stOk r a b = true) := by show _ = _; simp [stOk, h1, h2]
      have e2 : Hid (stOut r a b = ⟨r.id, r.came, r.working, r.extended, r.stops ++ [(a, b)]⟩) := if_pos e1.out
      have X0 := (BX.new w #[.int .i64 r.id, .int .i64 r.came, .int .i64 r.working, .int .i64 r.extended, .slice (some ad) r.stops.length c] 33).alloc (.cells #[.int .i64 0, .int .i64 0, .int .i64 0, .int .i64 0, .slice none 0 0] 33)
      have Y0 := BX.new (w.alloc (.cells #[.int .i64 r.id, .int .i64 r.came, .int .i64 r.working, .int .i64 r.extended, .slice (some ad) r.stops.length c] 33)) #[.int .i64 0, .int .i64 0, .int .i64 0, .int .i64 0, .slice none 0 0] 33
      rw [World.size_alloc] at Y0
      have HX0 := Lib.hid X0
      have HY0 := Lib.hid Y0
      clear X0 Y0
      go_enter Try.func26, Try.ntmps26
      go_wp2_with fail
      refine (HO _ (HR.out.below (by go_grown))).out.mono ?_
      rintro e w1 ⟨_, rfl, ⟨A1, c1, rfl, ho1⟩, hb1⟩
      have HX1 := Lib.hid (HX0.out.below hb1)
      have HY1 := Lib.hid (HY0.out.below hb1)
      have HB1 := Lib.hid (Below.trans' (a := w) (by go_grown) hb1)
      have ho1' : w1.ownsRow (w.heap.size + 1 + 1) 64 2 (.slice A1 r.stops.length c1) r.stops.length (cells2 r.stops) := by simpa using ho1
      have HO1 := Lib.hid ho1'
      have hlt := HY1.out.lt
      clear hb1 ho1 ho1' HX0 HY0
      have NE : (Value.slice A1 r.stops.length c1).ownBlock ≠ some w1.heap.size := fun h => by have := (HO1.out.lt _ h).2; omega
      have HO2 := Lib.hid (BX.new w1 #[.int .i64 r.id, .int .i64 r.came, .int .i64 r.working, .int .i64 r.extended, .slice A1 r.stops.length c1] 33)
      have HX2 := Lib.hid (HX1.out.alloc (.cells #[.int .i64 r.id, .int .i64 r.came, .int .i64 r.working, .int .i64 r.extended, .slice A1 r.stops.length c1] 33))
      have HY2 := Lib.hid (HY1.out.alloc (.cells #[.int .i64 r.id, .int .i64 r.came, .int .i64 r.working, .int .i64 r.extended, .slice A1 r.stops.length c1] 33))
      have HB2 := Lib.hid (Below.alloc HB1.out HB1.out.size (.cells #[.int .i64 r.id, .int .i64 r.came, .int .i64 r.working, .int .i64 r.extended, .slice A1 r.stops.length c1] 33))
      have HW2 := Lib.hid (HO1.out.alloc (.cells #[.int .i64 r.id, .int .i64 r.came, .int .i64 r.working, .int .i64 r.extended, .slice A1 r.stops.length c1] 33))
      clear HX1 HY1 HO1
      obtain ⟨x0, x1, x2, x3, x4, z0, z1, z2, z3, z4⟩ := HX2.out.five
      obtain ⟨o0, o1, o2, o3, o4, t0, t1, t2, t3, t4⟩ := HO2.out.five
      go_wp2_with (
                   at_builtin
                   refine wpList_push' rfl _ _ 28 rfl (w.heap.size + 1 + 1) 64 i0 (.agg #[.int .i64 0, .int .i64 0]) 2 16 Try.underlying28 hi hz0 hz1 hz2 rfl (by decide) (by decide) _ _ _ _ rfl HW2.out #[.int .i64 a, .int .i64 b] 1 (by rw [World.size_alloc]; rfl) rfl (by simp [Value.oneCell']) (by omega) (by simp; omega) ?_
                   intro A2 c2 w3 hown2 hg2 hpl2
                   have NX : some w.heap.size ≠ (Value.slice A1 r.stops.length c1).ownBlock := fun h => by have := (HW2.out.lt _ h.symm).1; omega
                   have NY : some (w.heap.size + 1) ≠ (Value.slice A1 r.stops.length c1).ownBlock := fun h => by have := (HW2.out.lt _ h.symm).1; omega
                   have HX3 := Lib.hid (HX2.out.grown hg2 NX)
                   have HY3 := Lib.hid (HY2.out.grown hg2 NY)
                   have HO3 := Lib.hid (HO2.out.grown hg2 (fun h => NE h.symm))
                   have HB3 := Lib.hid (Below.row HB2.out HW2.out hg2 (by omega) (by simp; omega))
                   have NE2 : (Value.slice A2 (r.stops.length + 1) c2).ownBlock ≠ some w1.heap.size := by
                     rcases hpl2 with h | h <;> rw [h]
                     · exact NE
                     · exact fun he => by have h2 := Option.some.inj he; rw [World.size_alloc] at h2; omega
                   have HW3 := Lib.hid hown2
                   clear hpl2 NX NY hg2 hown2 HX2 HY2 HO2 HB2 HW2 x0 x1 x2 x3 x4 z0 z1 z2 z3 z4 o0 o1 o2 o3 o4 t0 t1 t2 t3 t4
                   obtain ⟨x0, x1, x2, x3, x4, z0, z1, z2, z3, z4⟩ := HX3.out.five
                   obtain ⟨o0, o1, o2, o3, o4, t0, t1, t2, t3, t4⟩ := HO3.out.five)
      have HX4 := Lib.hid (HX3.out.other ⟨w1.heap.size, 4, none⟩ (.slice A2 (r.stops.length + 1) c2) (by simp; omega))
      have HY4 := Lib.hid (HY3.out.other ⟨w1.heap.size, 4, none⟩ (.slice A2 (r.stops.length + 1) c2) (by simp; omega))
      have HO4 := Lib.hid (HO3.out.set 4 (.slice A2 (r.stops.length + 1) c2))
      have HB4 := Lib.hid (HB3.out.setCell (p := ⟨w1.heap.size, 4, none⟩) (by simp; omega) (.slice A2 (r.stops.length + 1) c2))
      have HW4 := Lib.hid (ownsRow_setCell_other HW3.out (a := ⟨w1.heap.size, 4, none⟩) NE2 (.slice A2 (r.stops.length + 1) c2))
      clear HX3 HY3 HO3 HB3 HW3
      refine (HI _ (HR.out.below HB4.out)).out.mono ?_
      rintro e w5 ⟨rfl, hb⟩
      clear x0 x1 x2 x3 x4 z0 z1 z2 z3 z4 o0 o1 o2 o3 o4 t0 t1 t2 t3 t4
      have HX5 := Lib.hid (HX4.out.below hb)
      have HY5 := Lib.hid (HY4.out.below hb)
      have HO5 := Lib.hid (HO4.out.below hb)
      have HB5 := Lib.hid (Below.transB HB4.out (Nat.le_refl _) hb)
      have HW5 := Lib.hid (own_below HW4.out hb)
      clear hb HX4 HY4 HO4 HB4 HW4
      obtain ⟨x0, x1, x2, x3, x4, z0, z1, z2, z3, z4⟩ := HX5.out.five
      obtain ⟨o0, o1, o2, o3, o4, t0, t1, t2, t3, t4⟩ := HO5.out.five
      obtain ⟨y0, y1, y2, y3, y4, u0, u1, u2, u3, u4⟩ := HY5.out.five
      go_wp2_with fail
      refine (HJ _ A2 c2 (by simpa [cells2_snoc] using Rd.of_own HW5.out)).out.mono ?_
      rintro e w6 ⟨rfl, hb⟩
      clear x0 x1 x2 x3 x4 z0 z1 z2 z3 z4 o0 o1 o2 o3 o4 t0 t1 t2 t3 t4
      have HX6 := Lib.hid (HX5.out.below hb)
      have HY6 := Lib.hid (HY5.out.below hb)
      have HO6 := Lib.hid (HO5.out.below hb)
      have HB6 := Lib.hid (Below.transB HB5.out (Nat.le_refl _) hb)
      have HW6 := Lib.hid (own_below HW5.out hb)
      clear hb HX5 HY5 HO5 HB5 HW5
      obtain ⟨x0, x1, x2, x3, x4, z0, z1, z2, z3, z4⟩ := HX6.out.five
      obtain ⟨o0, o1, o2, o3, o4, t0, t1, t2, t3, t4⟩ := HO6.out.five
      obtain ⟨y0, y1, y2, y3, y4, u0, u1, u2, u3, u4⟩ := HY6.out.five
      go_wp2_with fail
      refine bodyPost_ret (v := .tuple #[.agg #[.int .i64 r.id, .int .i64 r.came, .int .i64 r.working, .int .i64 r.extended, .slice A2 (r.stops.length + 1) c2], .bool true]) (by simp [results, Try.results26, go_sem, y0, y1, y2, y3, y4]) rfl ?_
      refine ⟨_, by rw [e1.out], ?_, ?_⟩
      · rw [e2.out]
        refine ⟨A2, c2, by simp, own_base (base := w.heap.size + 1 + 1) ?_ (by omega)⟩
        repeat' refine ownsRow_setCell_below ?_ (by simp) _
        simpa [cells2_snoc] using HW6.out
      · repeat' refine Below.setCell ?_ (by simp) _
        exact HB6.out
    · have HH : reqOk ⟨r.id, r.came, r.working, r.extended, r.stops ++ [(a, b)]⟩ = false := by simpa using h2
      have e1 : Hid (stOk r a b = false) := by show _ = _; simp [stOk, HH]
      have e2 : Hid (stOut r a b = noReq) := if_neg (by rw [e1.out]; simp)
      have X0 := (BX.new w #[.int .i64 r.id, .int .i64 r.came, .int .i64 r.working, .int .i64 r.extended, .slice (some ad) r.stops.length c] 33).alloc (.cells #[.int .i64 0, .int .i64 0, .int .i64 0, .int .i64 0, .slice none 0 0] 33)
      have Y0 := BX.new (w.alloc (.cells #[.int .i64 r.id, .int .i64 r.came, .int .i64 r.working, .int .i64 r.extended, .slice (some ad) r.stops.length c] 33)) #[.int .i64 0, .int .i64 0, .int .i64 0, .int .i64 0, .slice none 0 0] 33
      rw [World.size_alloc] at Y0
      have HX0 := Lib.hid X0
      have HY0 := Lib.hid Y0
      clear X0 Y0
      go_enter Try.func26, Try.ntmps26
      go_wp2_with fail
      refine (HO _ (HR.out.below (by go_grown))).out.mono ?_
      rintro e w1 ⟨_, rfl, ⟨A1, c1, rfl, ho1⟩, hb1⟩
      have HX1 := Lib.hid (HX0.out.below hb1)
      have HY1 := Lib.hid (HY0.out.below hb1)
      have HB1 := Lib.hid (Below.trans' (a := w) (by go_grown) hb1)
      have ho1' : w1.ownsRow (w.heap.size + 1 + 1) 64 2 (.slice A1 r.stops.length c1) r.stops.length (cells2 r.stops) := by simpa using ho1
      have HO1 := Lib.hid ho1'
      have hlt := HY1.out.lt
      clear hb1 ho1 ho1' HX0 HY0
      have NE : (Value.slice A1 r.stops.length c1).ownBlock ≠ some w1.heap.size := fun h => by have := (HO1.out.lt _ h).2; omega
      have HO2 := Lib.hid (BX.new w1 #[.int .i64 r.id, .int .i64 r.came, .int .i64 r.working, .int .i64 r.extended, .slice A1 r.stops.length c1] 33)
      have HX2 := Lib.hid (HX1.out.alloc (.cells #[.int .i64 r.id, .int .i64 r.came, .int .i64 r.working, .int .i64 r.extended, .slice A1 r.stops.length c1] 33))
      have HY2 := Lib.hid (HY1.out.alloc (.cells #[.int .i64 r.id, .int .i64 r.came, .int .i64 r.working, .int .i64 r.extended, .slice A1 r.stops.length c1] 33))
      have HB2 := Lib.hid (Below.alloc HB1.out HB1.out.size (.cells #[.int .i64 r.id, .int .i64 r.came, .int .i64 r.working, .int .i64 r.extended, .slice A1 r.stops.length c1] 33))
      have HW2 := Lib.hid (HO1.out.alloc (.cells #[.int .i64 r.id, .int .i64 r.came, .int .i64 r.working, .int .i64 r.extended, .slice A1 r.stops.length c1] 33))
      clear HX1 HY1 HO1
      obtain ⟨x0, x1, x2, x3, x4, z0, z1, z2, z3, z4⟩ := HX2.out.five
      obtain ⟨o0, o1, o2, o3, o4, t0, t1, t2, t3, t4⟩ := HO2.out.five
      go_wp2_with (
                   at_builtin
                   refine wpList_push' rfl _ _ 28 rfl (w.heap.size + 1 + 1) 64 i0 (.agg #[.int .i64 0, .int .i64 0]) 2 16 Try.underlying28 hi hz0 hz1 hz2 rfl (by decide) (by decide) _ _ _ _ rfl HW2.out #[.int .i64 a, .int .i64 b] 1 (by rw [World.size_alloc]; rfl) rfl (by simp [Value.oneCell']) (by omega) (by simp; omega) ?_
                   intro A2 c2 w3 hown2 hg2 hpl2
                   have NX : some w.heap.size ≠ (Value.slice A1 r.stops.length c1).ownBlock := fun h => by have := (HW2.out.lt _ h.symm).1; omega
                   have NY : some (w.heap.size + 1) ≠ (Value.slice A1 r.stops.length c1).ownBlock := fun h => by have := (HW2.out.lt _ h.symm).1; omega
                   have HX3 := Lib.hid (HX2.out.grown hg2 NX)
                   have HY3 := Lib.hid (HY2.out.grown hg2 NY)
                   have HO3 := Lib.hid (HO2.out.grown hg2 (fun h => NE h.symm))
                   have HB3 := Lib.hid (Below.row HB2.out HW2.out hg2 (by omega) (by simp; omega))
                   have NE2 : (Value.slice A2 (r.stops.length + 1) c2).ownBlock ≠ some w1.heap.size := by
                     rcases hpl2 with h | h <;> rw [h]
                     · exact NE
                     · exact fun he => by have h2 := Option.some.inj he; rw [World.size_alloc] at h2; omega
                   have HW3 := Lib.hid hown2
                   clear hpl2 NX NY hg2 hown2 HX2 HY2 HO2 HB2 HW2 x0 x1 x2 x3 x4 z0 z1 z2 z3 z4 o0 o1 o2 o3 o4 t0 t1 t2 t3 t4
                   obtain ⟨x0, x1, x2, x3, x4, z0, z1, z2, z3, z4⟩ := HX3.out.five
                   obtain ⟨o0, o1, o2, o3, o4, t0, t1, t2, t3, t4⟩ := HO3.out.five)
      have HX4 := Lib.hid (HX3.out.other ⟨w1.heap.size, 4, none⟩ (.slice A2 (r.stops.length + 1) c2) (by simp; omega))
      have HY4 := Lib.hid (HY3.out.other ⟨w1.heap.size, 4, none⟩ (.slice A2 (r.stops.length + 1) c2) (by simp; omega))
      have HO4 := Lib.hid (HO3.out.set 4 (.slice A2 (r.stops.length + 1) c2))
      have HB4 := Lib.hid (HB3.out.setCell (p := ⟨w1.heap.size, 4, none⟩) (by simp; omega) (.slice A2 (r.stops.length + 1) c2))
      have HW4 := Lib.hid (ownsRow_setCell_other HW3.out (a := ⟨w1.heap.size, 4, none⟩) NE2 (.slice A2 (r.stops.length + 1) c2))
      clear HX3 HY3 HO3 HB3 HW3
      refine (HI _ (HR.out.below HB4.out)).out.mono ?_
      rintro e w5 ⟨rfl, hb⟩
      clear x0 x1 x2 x3 x4 z0 z1 z2 z3 z4 o0 o1 o2 o3 o4 t0 t1 t2 t3 t4
      have HX5 := Lib.hid (HX4.out.below hb)
      have HY5 := Lib.hid (HY4.out.below hb)
      have HO5 := Lib.hid (HO4.out.below hb)
      have HB5 := Lib.hid (Below.transB HB4.out (Nat.le_refl _) hb)
      have HW5 := Lib.hid (own_below HW4.out hb)
      clear hb HX4 HY4 HO4 HB4 HW4
      obtain ⟨x0, x1, x2, x3, x4, z0, z1, z2, z3, z4⟩ := HX5.out.five
      obtain ⟨o0, o1, o2, o3, o4, t0, t1, t2, t3, t4⟩ := HO5.out.five
      obtain ⟨y0, y1, y2, y3, y4, u0, u1, u2, u3, u4⟩ := HY5.out.five
      go_wp2_with fail
      refine (HJ _ A2 c2 (by simpa [cells2_snoc] using Rd.of_own HW5.out)).out.mono ?_
      rintro e w6 ⟨rfl, hb⟩
      clear x0 x1 x2 x3 x4 z0 z1 z2 z3 z4 o0 o1 o2 o3 o4 t0 t1 t2 t3 t4
      have HX6 := Lib.hid (HX5.out.below hb)
      have HY6 := Lib.hid (HY5.out.below hb)
      have HO6 := Lib.hid (HO5.out.below hb)
      have HB6 := Lib.hid (Below.transB HB5.out (Nat.le_refl _) hb)
      have HW6 := Lib.hid (own_below HW5.out hb)
      clear hb HX5 HY5 HO5 HB5 HW5
      obtain ⟨x0, x1, x2, x3, x4, z0, z1, z2, z3, z4⟩ := HX6.out.five
      obtain ⟨o0, o1, o2, o3, o4, t0, t1, t2, t3, t4⟩ := HO6.out.five
      obtain ⟨y0, y1, y2, y3, y4, u0, u1, u2, u3, u4⟩ := HY6.out.five
      go_wp2_with fail
      refine bodyPost_ret (v := .tuple #[.agg #[.int .i64 0, .int .i64 0, .int .i64 0, .int .i64 0, .slice none 0 0], .bool false]) (by simp [results, Try.results26, go_sem, y0, y1, y2, y3, y4]) rfl ?_
      refine ⟨_, by rw [e1.out], by rw [e2.out]; exact ⟨none, 0, rfl, World.ownsRow_nil _ _ _ _⟩, ?_⟩
      repeat' refine Below.setCell ?_ (by simp) _
      exact HB6.out
  · have HH : reqOk r = false := by simpa using h1
    have e1 : Hid (stOk r a b = false) := by show _ = _; simp [stOk, HH]
    have e2 : Hid (stOut r a b = noReq) := if_neg (by rw [e1.out]; simp)
    have X0 := (BX.new w #[.int .i64 r.id, .int .i64 r.came, .int .i64 r.working, .int .i64 r.extended, .slice (some ad) r.stops.length c] 33).alloc (.cells #[.int .i64 0, .int .i64 0, .int .i64 0, .int .i64 0, .slice none 0 0] 33)
    have Y0 := BX.new (w.alloc (.cells #[.int .i64 r.id, .int .i64 r.came, .int .i64 r.working, .int .i64 r.extended, .slice (some ad) r.stops.length c] 33)) #[.int .i64 0, .int .i64 0, .int .i64 0, .int .i64 0, .slice none 0 0] 33
    rw [World.size_alloc] at Y0
    have HX0 := Lib.hid X0
    have HY0 := Lib.hid Y0
    clear X0 Y0
    go_enter Try.func26, Try.ntmps26
    go_wp2_with fail
    refine (HO _ (HR.out.below (by go_grown))).out.mono ?_
    rintro e w1 ⟨_, rfl, ⟨A1, c1, rfl, ho1⟩, hb1⟩
    have HX1 := Lib.hid (HX0.out.below hb1)
    have HY1 := Lib.hid (HY0.out.below hb1)
    have HB1 := Lib.hid (Below.trans' (a := w) (by go_grown) hb1)
    have ho1' : w1.ownsRow (w.heap.size + 1 + 1) 64 2 (.slice A1 r.stops.length c1) r.stops.length (cells2 r.stops) := by simpa using ho1
    have HO1 := Lib.hid ho1'
    have hlt := HY1.out.lt
    clear hb1 ho1 ho1' HX0 HY0
    have NE : (Value.slice A1 r.stops.length c1).ownBlock ≠ some w1.heap.size := fun h => by have := (HO1.out.lt _ h).2; omega
    have HO2 := Lib.hid (BX.new w1 #[.int .i64 r.id, .int .i64 r.came, .int .i64 r.working, .int .i64 r.extended, .slice A1 r.stops.length c1] 33)
    have HX2 := Lib.hid (HX1.out.alloc (.cells #[.int .i64 r.id, .int .i64 r.came, .int .i64 r.working, .int .i64 r.extended, .slice A1 r.stops.length c1] 33))
    have HY2 := Lib.hid (HY1.out.alloc (.cells #[.int .i64 r.id, .int .i64 r.came, .int .i64 r.working, .int .i64 r.extended, .slice A1 r.stops.length c1] 33))
    have HB2 := Lib.hid (Below.alloc HB1.out HB1.out.size (.cells #[.int .i64 r.id, .int .i64 r.came, .int .i64 r.working, .int .i64 r.extended, .slice A1 r.stops.length c1] 33))
    have HW2 := Lib.hid (HO1.out.alloc (.cells #[.int .i64 r.id, .int .i64 r.came, .int .i64 r.working, .int .i64 r.extended, .slice A1 r.stops.length c1] 33))
    clear HX1 HY1 HO1
    obtain ⟨x0, x1, x2, x3, x4, z0, z1, z2, z3, z4⟩ := HX2.out.five
    obtain ⟨o0, o1, o2, o3, o4, t0, t1, t2, t3, t4⟩ := HO2.out.five
    go_wp2_with (
                 at_builtin
                 refine wpList_push' rfl _ _ 28 rfl (w.heap.size + 1 + 1) 64 i0 (.agg #[.int .i64 0, .int .i64 0]) 2 16 Try.underlying28 hi hz0 hz1 hz2 rfl (by decide) (by decide) _ _ _ _ rfl HW2.out #[.int .i64 a, .int .i64 b] 1 (by rw [World.size_alloc]; rfl) rfl (by simp [Value.oneCell']) (by omega) (by simp; omega) ?_
                 intro A2 c2 w3 hown2 hg2 hpl2
                 have NX : some w.heap.size ≠ (Value.slice A1 r.stops.length c1).ownBlock := fun h => by have := (HW2.out.lt _ h.symm).1; omega
                 have NY : some (w.heap.size + 1) ≠ (Value.slice A1 r.stops.length c1).ownBlock := fun h => by have := (HW2.out.lt _ h.symm).1; omega
                 have HX3 := Lib.hid (HX2.out.grown hg2 NX)
                 have HY3 := Lib.hid (HY2.out.grown hg2 NY)
                 have HO3 := Lib.hid (HO2.out.grown hg2 (fun h => NE h.symm))
                 have HB3 := Lib.hid (Below.row HB2.out HW2.out hg2 (by omega) (by simp; omega))
                 have NE2 : (Value.slice A2 (r.stops.length + 1) c2).ownBlock ≠ some w1.heap.size := by
                   rcases hpl2 with h | h <;> rw [h]
                   · exact NE
                   · exact fun he => by have h2 := Option.some.inj he; rw [World.size_alloc] at h2; omega
                 have HW3 := Lib.hid hown2
                 clear hpl2 NX NY hg2 hown2 HX2 HY2 HO2 HB2 HW2 x0 x1 x2 x3 x4 z0 z1 z2 z3 z4 o0 o1 o2 o3 o4 t0 t1 t2 t3 t4
                 obtain ⟨x0, x1, x2, x3, x4, z0, z1, z2, z3, z4⟩ := HX3.out.five
                 obtain ⟨o0, o1, o2, o3, o4, t0, t1, t2, t3, t4⟩ := HO3.out.five)
    have HX4 := Lib.hid (HX3.out.other ⟨w1.heap.size, 4, none⟩ (.slice A2 (r.stops.length + 1) c2) (by simp; omega))
    have HY4 := Lib.hid (HY3.out.other ⟨w1.heap.size, 4, none⟩ (.slice A2 (r.stops.length + 1) c2) (by simp; omega))
    have HO4 := Lib.hid (HO3.out.set 4 (.slice A2 (r.stops.length + 1) c2))
    have HB4 := Lib.hid (HB3.out.setCell (p := ⟨w1.heap.size, 4, none⟩) (by simp; omega) (.slice A2 (r.stops.length + 1) c2))
    have HW4 := Lib.hid (ownsRow_setCell_other HW3.out (a := ⟨w1.heap.size, 4, none⟩) NE2 (.slice A2 (r.stops.length + 1) c2))
    clear HX3 HY3 HO3 HB3 HW3
    refine (HI _ (HR.out.below HB4.out)).out.mono ?_
    rintro e w5 ⟨rfl, hb⟩
    clear x0 x1 x2 x3 x4 z0 z1 z2 z3 z4 o0 o1 o2 o3 o4 t0 t1 t2 t3 t4
    have HX5 := Lib.hid (HX4.out.below hb)
    have HY5 := Lib.hid (HY4.out.below hb)
    have HO5 := Lib.hid (HO4.out.below hb)
    have HB5 := Lib.hid (Below.transB HB4.out (Nat.le_refl _) hb)
    have HW5 := Lib.hid (own_below HW4.out hb)
    clear hb HX4 HY4 HO4 HB4 HW4
    obtain ⟨x0, x1, x2, x3, x4, z0, z1, z2, z3, z4⟩ := HX5.out.five
    obtain ⟨o0, o1, o2, o3, o4, t0, t1, t2, t3, t4⟩ := HO5.out.five
    obtain ⟨y0, y1, y2, y3, y4, u0, u1, u2, u3, u4⟩ := HY5.out.five
    go_wp2_with fail
    refine bodyPost_ret (v := .tuple #[.agg #[.int .i64 0, .int .i64 0, .int .i64 0, .int .i64 0, .slice none 0 0], .bool false]) (by simp [results, Try.results26, go_sem, y0, y1, y2, y3, y4]) rfl ?_
    refine ⟨_, by rw [e1.out], by rw [e2.out]; exact ⟨none, 0, rfl, World.ownsRow_nil _ _ _ _⟩, ?_⟩
    repeat' refine Below.setCell ?_ (by simp) _
    exact HB5.out

end Go.Proofs.Ytaogjkgaecjfoaa
