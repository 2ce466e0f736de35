/-
  The copy of a request; ExtendRequest and StopClock by the reference; StopClock by the program.
  Conditions: those written at each theorem.
-/
import Derived.Test.YtaogjkgaecjfoaaP13j
namespace Go.Proofs.Ytaogjkgaecjfoaa
open Go.RowKit Go.BigFrame
set_option maxRecDepth 100000

set_option maxHeartbeats 1000000 in
theorem l13Own_any (r : Req) (ad : Addr) (c : Nat) (w : World) (hr : Rd w 2 (some ad) r.stops.length (cells2 r.stops)) (hl : r.stops.length ≤ 1048576) :
    Calls Try.prog 59 #[.agg #[.int .i64 r.id, .int .i64 r.came, .int .i64 r.working, .int .i64 r.extended, .slice (some ad) r.stops.length c]] w
      fun e w' => ∃ v, e = .returned v ∧ ReqV w.heap.size w' r v ∧ Below w.heap.size w w' := by
  obtain ⟨i0, hi, hz0, hz1, hz2⟩ := info_parts infoPair
  have X0 := (BX.new w #[.int .i64 r.id, .int .i64 r.came, .int .i64 r.working, .int .i64 r.extended, .slice (some ad) r.stops.length c] 33).alloc (.cells #[.int .i64 0, .int .i64 0, .int .i64 0, .int .i64 0, .slice none 0 0] 33)
  have Y0 := BX.new (w.alloc (.cells #[.int .i64 r.id, .int .i64 r.came, .int .i64 r.working, .int .i64 r.extended, .slice (some ad) r.stops.length c] 33)) #[.int .i64 0, .int .i64 0, .int .i64 0, .int .i64 0, .slice none 0 0] 33
  rw [World.size_alloc] at Y0
  have HX0 := Lib.hid X0
  have HY0 := Lib.hid Y0
  have HR := Lib.hid hr
  obtain ⟨x0, x1, x2, x3, x4, z0, z1, z2, z3, z4⟩ := BX.five X0
  have E := own_empty (B := w.heap.size + 1 + 1) ((w.alloc (.cells #[.int .i64 r.id, .int .i64 r.came, .int .i64 r.working, .int .i64 r.extended, .slice (some ad) r.stops.length c] 33)).alloc (.cells #[.int .i64 0, .int .i64 0, .int .i64 0, .int .i64 0, .slice none 0 0] 33)) 64 2 (by simp)
  rw [World.size_alloc, World.size_alloc] at E
  have E0 := Lib.hid E
  clear X0 Y0 hr E
  go_enter Try.func59, Try.ntmps59
  go_wp2_with fail
  go_region_held3 (fun w' => w'.cell? ⟨w.heap.size, 0, none⟩ = some (.int .i64 r.id) ∧ w'.cell? ⟨w.heap.size, 1, none⟩ = some (.int .i64 r.came) ∧ w'.cell? ⟨w.heap.size, 2, none⟩ = some (.int .i64 r.working) ∧ w'.cell? ⟨w.heap.size, 3, none⟩ = some (.int .i64 r.extended) ∧ w'.cell? ⟨w.heap.size, 4, none⟩ = some (.slice (some ad) r.stops.length c)) (go_keep)
    (first
      | (refine step_appendMany rfl _ _ 28 rfl (w.heap.size + 1 + 1) 64 i0 (.agg #[.int .i64 0, .int .i64 0]) 2 16 Try.underlying28 hi hz0 hz1 hz2 rfl (by decide) (by decide) (some ⟨w.heap.size + 1 + 1, 0, none⟩) 0 0 [] rfl (World.ownsRow.drew E0.out) (some ad) r.stops.length c (cells2 r.stops) rfl (HR.out.below (by go_grown)) (by simp) (one_cells2 r.stops) (by omega) (by simp [World.drew]) ?_
         intro A2 c2 w2 hown2 hg2
         have HX2 := BX.grown (BX.drew (BX.alloc HX0.out (.cells #[] 64))) hg2 (by simp [Value.ownBlock]; omega)
         have HY2 := BX.grown (BX.drew (BX.alloc HY0.out (.cells #[] 64))) hg2 (by simp [Value.ownBlock])
         obtain ⟨d0, d1, d2, d3, d4, f0, f1, f2, f3, f4⟩ := BX.five HX2
         obtain ⟨y0, y1, y2, y3, y4, u0, u1, u2, u3, u4⟩ := BX.five HY2
         have hlt := HY2.lt
         clear HX2 HY2))
  go_wp2
  refine bodyPost_ret (v := .agg #[.int .i64 r.id, .int .i64 r.came, .int .i64 r.working, .int .i64 r.extended, .slice A2 r.stops.length c2]) (by simp [results, Try.results59, go_sem, y0, y1, y2, y3, y4]) rfl ?_
  refine ⟨_, rfl, ⟨A2, c2, rfl, own_base (base := w.heap.size + 1 + 1) ?_ (by omega)⟩, ?_⟩
  · repeat' refine ownsRow_setCell_below ?_ (by simp) _
    simpa using hown2
  · repeat' refine Below.setCell ?_ (by simp) _
    exact Below.row (below_drewN (by go_grown) 1) (World.ownsRow.drew E0.out) hg2 (by omega) (by simp [World.drew]; omega)

theorem exOk_spec (r : Req) (n : Int) : exOk r n = (reqOk r && inB n 1 40 && reqOk { r with extended := r.extended + n }) := by
  simp only [exOk, reqOk, headOk]
  by_cases h : inB r.extended 0 40 = true
  · have h1 := inB_true h
    by_cases h2 : 1 ≤ n ∧ n ≤ 40 - r.extended
    · have a1 : inB n 1 (40 - r.extended) = true := inB_of h2.1 h2.2
      have a2 : inB n 1 40 = true := inB_of (by omega) (by omega)
      have a3 : inB (r.extended + n) 0 40 = true := inB_of (by omega) (by omega)
      simp only [h, a1, a2, a3, Bool.and_true]
      cases inB r.id 1 99 && inB r.came 0 20000 && inB r.working 1 60 && decide (r.stops.length ≤ 4) && stopsOk r.came r.stops <;> simp_all
    · have a1 : inB n 1 (40 - r.extended) = false := inB_not (by omega)
      rw [a1, Bool.and_false]
      by_cases h3 : inB n 1 40 = true
      · have := inB_true h3
        have a3 : inB (r.extended + n) 0 40 = false := inB_not (by omega)
        simp [a3]
      · simp [h3]
  · simp [h]

set_option maxHeartbeats 1000000 in
theorem specExtendRequest_any (r : Req) (n : Int) (ad : Addr) (c : Nat) (w : World) (hr : Rd w 2 (some ad) r.stops.length (cells2 r.stops)) (hl : r.stops.length ≤ 1048576) :
    Calls Try.prog 30 #[.agg #[.int .i64 r.id, .int .i64 r.came, .int .i64 r.working, .int .i64 r.extended, .slice (some ad) r.stops.length c], .int .i64 n] w
      fun e w' => ∃ v, e = .returned (.tuple #[v, .bool (exOk r n)]) ∧ ReqV w.heap.size w' (exOut r n) v ∧ Below w.heap.size w w' := by
  have HI := fun W h => Lib.hid (l13Good_any r (some ad) c W h (by omega))
  have HO := fun W h => Lib.hid (l13Own_any r ad c W h hl)
  have HR := Lib.hid hr
  clear hr
  by_cases h1 : reqOk r = true
  · have hb := headOk_true (reqOk_true h1).1
    have hx := hb.2.2.2.1
    clear hb
    by_cases h2 : inB n 1 40 = true
    · have b2 := inB_true h2
      have HJ := fun W A c' h => Lib.hid (l13Good_any { r with extended := r.extended + n } A c' W h (by simp; omega))
      by_cases h3 : reqOk { r with extended := r.extended + n } = true
      · have e1 : Hid (exOk r n = true) := by show _ = _; rw [exOk_spec, h1, h2, h3]; rfl
        have e2 : Hid (exOut r n = { r with extended := r.extended + n }) := if_pos e1.out
        have X0 := (BX.new w #[.int .i64 r.id, .int .i64 r.came, .int .i64 r.working, .int .i64 r.extended, .slice (some ad) r.stops.length c] 33).alloc (.cells #[.int .i64 0, .int .i64 0, .int .i64 0, .int .i64 0, .slice none 0 0] 33)
        have Y0 := BX.new (w.alloc (.cells #[.int .i64 r.id, .int .i64 r.came, .int .i64 r.working, .int .i64 r.extended, .slice (some ad) r.stops.length c] 33)) #[.int .i64 0, .int .i64 0, .int .i64 0, .int .i64 0, .slice none 0 0] 33
        rw [World.size_alloc] at Y0
        have HX0 := Lib.hid X0
        have HY0 := Lib.hid Y0
        clear X0 Y0
        go_enter Try.func30, Try.ntmps30
        go_wp2_with fail
        refine (HO _ (HR.out.below (by go_grown))).out.mono ?_
        rintro e w1 ⟨_, rfl, ⟨A1, c1, rfl, ho1⟩, hb1⟩
        have HX1 := Lib.hid (HX0.out.below hb1)
        have HY1 := Lib.hid (HY0.out.below hb1)
        have HB1 := Lib.hid (Below.trans' (a := w) (by go_grown) hb1)
        have ho1' : w1.ownsRow (w.heap.size + 1 + 1) 64 2 (.slice A1 r.stops.length c1) r.stops.length (cells2 r.stops) := by simpa using ho1
        have HO1 := Lib.hid ho1'
        have hlt := HY1.out.lt
        clear hb1 ho1 ho1' HX0 HY0
        have NE : (Value.slice A1 r.stops.length c1).ownBlock ≠ some w1.heap.size := fun h => by have := (HO1.out.lt _ h).2; omega
        have HO2 := Lib.hid (BX.new w1 #[.int .i64 r.id, .int .i64 r.came, .int .i64 r.working, .int .i64 r.extended, .slice A1 r.stops.length c1] 33)
        have HX2 := Lib.hid (HX1.out.alloc (.cells #[.int .i64 r.id, .int .i64 r.came, .int .i64 r.working, .int .i64 r.extended, .slice A1 r.stops.length c1] 33))
        have HY2 := Lib.hid (HY1.out.alloc (.cells #[.int .i64 r.id, .int .i64 r.came, .int .i64 r.working, .int .i64 r.extended, .slice A1 r.stops.length c1] 33))
        have HB2 := Lib.hid (Below.alloc HB1.out HB1.out.size (.cells #[.int .i64 r.id, .int .i64 r.came, .int .i64 r.working, .int .i64 r.extended, .slice A1 r.stops.length c1] 33))
        have HW2 := Lib.hid (HO1.out.alloc (.cells #[.int .i64 r.id, .int .i64 r.came, .int .i64 r.working, .int .i64 r.extended, .slice A1 r.stops.length c1] 33))
        clear HX1 HY1 HO1
        obtain ⟨x0, x1, x2, x3, x4, z0, z1, z2, z3, z4⟩ := HX2.out.five
        obtain ⟨o0, o1, o2, o3, o4, t0, t1, t2, t3, t4⟩ := HO2.out.five
        go_wp2_with fail
        refine (HI _ (HR.out.below HB2.out)).out.mono ?_
        rintro e w3 ⟨rfl, hb⟩
        clear x0 x1 x2 x3 x4 z0 z1 z2 z3 z4 o0 o1 o2 o3 o4 t0 t1 t2 t3 t4
        have HX3 := Lib.hid (HX2.out.below hb)
        have HY3 := Lib.hid (HY2.out.below hb)
        have HO3 := Lib.hid (HO2.out.below hb)
        have HB3 := Lib.hid (Below.transB HB2.out (Nat.le_refl _) hb)
        have HW3 := Lib.hid (own_below HW2.out hb)
        clear hb HX2 HY2 HO2 HB2 HW2
        obtain ⟨x0, x1, x2, x3, x4, z0, z1, z2, z3, z4⟩ := HX3.out.five
        obtain ⟨o0, o1, o2, o3, o4, t0, t1, t2, t3, t4⟩ := HO3.out.five
        obtain ⟨y0, y1, y2, y3, y4, u0, u1, u2, u3, u4⟩ := HY3.out.five
        go_wp2_with (go_at_call 50; refine (l1In_any _ _ _ _).mono ?_; rintro e w' ⟨rfl, rfl⟩)
        clear x0 x1 x2 x3 x4 z0 z1 z2 z3 z4
        have HX4 := Lib.hid (HX3.out.other ⟨w1.heap.size, 3, none⟩ (.int .i64 (r.extended + n)) (by simp; omega))
        have HY4 := Lib.hid (HY3.out.other ⟨w1.heap.size, 3, none⟩ (.int .i64 (r.extended + n)) (by simp; omega))
        have HO4 := Lib.hid (HO3.out.set 3 (.int .i64 (r.extended + n)))
        have HB4 := Lib.hid (HB3.out.setCell (p := ⟨w1.heap.size, 3, none⟩) (by simp; omega) (.int .i64 (r.extended + n)))
        have HW4 := Lib.hid (ownsRow_setCell_other HW3.out (a := ⟨w1.heap.size, 3, none⟩) NE (.int .i64 (r.extended + n)))
        clear HX3 HY3 HO3 HB3 HW3
        have x0 := 0; have x1 := 0; have x2 := 0; have x3 := 0; have x4 := 0; have z0 := 0; have z1 := 0; have z2 := 0; have z3 := 0; have z4 := 0
        clear y0 y1 y2 y3 y4 u0 u1 u2 u3 u4
        refine (HJ _ A1 c1 (Rd.of_own HW4.out)).out.mono ?_
        rintro e w5 ⟨rfl, hb⟩
        clear x0 x1 x2 x3 x4 z0 z1 z2 z3 z4 o0 o1 o2 o3 o4 t0 t1 t2 t3 t4
        have HX5 := Lib.hid (HX4.out.below hb)
        have HY5 := Lib.hid (HY4.out.below hb)
        have HO5 := Lib.hid (HO4.out.below hb)
        have HB5 := Lib.hid (Below.transB HB4.out (Nat.le_refl _) hb)
        have HW5 := Lib.hid (own_below HW4.out hb)
        clear hb HX4 HY4 HO4 HB4 HW4
        obtain ⟨x0, x1, x2, x3, x4, z0, z1, z2, z3, z4⟩ := HX5.out.five
        obtain ⟨o0, o1, o2, o3, o4, t0, t1, t2, t3, t4⟩ := HO5.out.five
        obtain ⟨y0, y1, y2, y3, y4, u0, u1, u2, u3, u4⟩ := HY5.out.five
        go_wp2_with fail
        refine bodyPost_ret (v := .tuple #[.agg #[.int .i64 r.id, .int .i64 r.came, .int .i64 r.working, .int .i64 (r.extended + n), .slice A1 r.stops.length c1], .bool true]) (by simp [results, Try.results30, go_sem, y0, y1, y2, y3, y4]) rfl ?_
        refine ⟨_, by rw [e1.out], ?_, ?_⟩
        · rw [e2.out]
          refine ⟨A1, c1, rfl, own_base (base := w.heap.size + 1 + 1) ?_ (by omega)⟩
          repeat' refine ownsRow_setCell_below ?_ (by simp) _
          exact HW5.out
        · repeat' refine Below.setCell ?_ (by simp) _
          exact HB5.out
      · have HH : reqOk { r with extended := r.extended + n } = false := by simpa using h3
        have e1 : Hid (exOk r n = false) := by show _ = _; rw [exOk_spec, HH]; simp
        have e2 : Hid (exOut r n = noReq) := if_neg (by rw [e1.out]; simp)
        have X0 := (BX.new w #[.int .i64 r.id, .int .i64 r.came, .int .i64 r.working, .int .i64 r.extended, .slice (some ad) r.stops.length c] 33).alloc (.cells #[.int .i64 0, .int .i64 0, .int .i64 0, .int .i64 0, .slice none 0 0] 33)
        have Y0 := BX.new (w.alloc (.cells #[.int .i64 r.id, .int .i64 r.came, .int .i64 r.working, .int .i64 r.extended, .slice (some ad) r.stops.length c] 33)) #[.int .i64 0, .int .i64 0, .int .i64 0, .int .i64 0, .slice none 0 0] 33
        rw [World.size_alloc] at Y0
        have HX0 := Lib.hid X0
        have HY0 := Lib.hid Y0
        clear X0 Y0
        go_enter Try.func30, Try.ntmps30
        go_wp2_with fail
        refine (HO _ (HR.out.below (by go_grown))).out.mono ?_
        rintro e w1 ⟨_, rfl, ⟨A1, c1, rfl, ho1⟩, hb1⟩
        have HX1 := Lib.hid (HX0.out.below hb1)
        have HY1 := Lib.hid (HY0.out.below hb1)
        have HB1 := Lib.hid (Below.trans' (a := w) (by go_grown) hb1)
        have ho1' : w1.ownsRow (w.heap.size + 1 + 1) 64 2 (.slice A1 r.stops.length c1) r.stops.length (cells2 r.stops) := by simpa using ho1
        have HO1 := Lib.hid ho1'
        have hlt := HY1.out.lt
        clear hb1 ho1 ho1' HX0 HY0
        have NE : (Value.slice A1 r.stops.length c1).ownBlock ≠ some w1.heap.size := fun h => by have := (HO1.out.lt _ h).2; omega
        have HO2 := Lib.hid (BX.new w1 #[.int .i64 r.id, .int .i64 r.came, .int .i64 r.working, .int .i64 r.extended, .slice A1 r.stops.length c1] 33)
        have HX2 := Lib.hid (HX1.out.alloc (.cells #[.int .i64 r.id, .int .i64 r.came, .int .i64 r.working, .int .i64 r.extended, .slice A1 r.stops.length c1] 33))
        have HY2 := Lib.hid (HY1.out.alloc (.cells #[.int .i64 r.id, .int .i64 r.came, .int .i64 r.working, .int .i64 r.extended, .slice A1 r.stops.length c1] 33))
        have HB2 := Lib.hid (Below.alloc HB1.out HB1.out.size (.cells #[.int .i64 r.id, .int .i64 r.came, .int .i64 r.working, .int .i64 r.extended, .slice A1 r.stops.length c1] 33))
        have HW2 := Lib.hid (HO1.out.alloc (.cells #[.int .i64 r.id, .int .i64 r.came, .int .i64 r.working, .int .i64 r.extended, .slice A1 r.stops.length c1] 33))
        clear HX1 HY1 HO1
        obtain ⟨x0, x1, x2, x3, x4, z0, z1, z2, z3, z4⟩ := HX2.out.five
        obtain ⟨o0, o1, o2, o3, o4, t0, t1, t2, t3, t4⟩ := HO2.out.five
        go_wp2_with fail
        refine (HI _ (HR.out.below HB2.out)).out.mono ?_
        rintro e w3 ⟨rfl, hb⟩
        clear x0 x1 x2 x3 x4 z0 z1 z2 z3 z4 o0 o1 o2 o3 o4 t0 t1 t2 t3 t4
        have HX3 := Lib.hid (HX2.out.below hb)
        have HY3 := Lib.hid (HY2.out.below hb)
        have HO3 := Lib.hid (HO2.out.below hb)
        have HB3 := Lib.hid (Below.transB HB2.out (Nat.le_refl _) hb)
        have HW3 := Lib.hid (own_below HW2.out hb)
        clear hb HX2 HY2 HO2 HB2 HW2
        obtain ⟨x0, x1, x2, x3, x4, z0, z1, z2, z3, z4⟩ := HX3.out.five
        obtain ⟨o0, o1, o2, o3, o4, t0, t1, t2, t3, t4⟩ := HO3.out.five
        obtain ⟨y0, y1, y2, y3, y4, u0, u1, u2, u3, u4⟩ := HY3.out.five
        go_wp2_with (go_at_call 50; refine (l1In_any _ _ _ _).mono ?_; rintro e w' ⟨rfl, rfl⟩)
        clear x0 x1 x2 x3 x4 z0 z1 z2 z3 z4
        have HX4 := Lib.hid (HX3.out.other ⟨w1.heap.size, 3, none⟩ (.int .i64 (r.extended + n)) (by simp; omega))
        have HY4 := Lib.hid (HY3.out.other ⟨w1.heap.size, 3, none⟩ (.int .i64 (r.extended + n)) (by simp; omega))
        have HO4 := Lib.hid (HO3.out.set 3 (.int .i64 (r.extended + n)))
        have HB4 := Lib.hid (HB3.out.setCell (p := ⟨w1.heap.size, 3, none⟩) (by simp; omega) (.int .i64 (r.extended + n)))
        have HW4 := Lib.hid (ownsRow_setCell_other HW3.out (a := ⟨w1.heap.size, 3, none⟩) NE (.int .i64 (r.extended + n)))
        clear HX3 HY3 HO3 HB3 HW3
        have x0 := 0; have x1 := 0; have x2 := 0; have x3 := 0; have x4 := 0; have z0 := 0; have z1 := 0; have z2 := 0; have z3 := 0; have z4 := 0
        clear y0 y1 y2 y3 y4 u0 u1 u2 u3 u4
        refine (HJ _ A1 c1 (Rd.of_own HW4.out)).out.mono ?_
        rintro e w5 ⟨rfl, hb⟩
        clear x0 x1 x2 x3 x4 z0 z1 z2 z3 z4 o0 o1 o2 o3 o4 t0 t1 t2 t3 t4
        have HX5 := Lib.hid (HX4.out.below hb)
        have HY5 := Lib.hid (HY4.out.below hb)
        have HO5 := Lib.hid (HO4.out.below hb)
        have HB5 := Lib.hid (Below.transB HB4.out (Nat.le_refl _) hb)
        have HW5 := Lib.hid (own_below HW4.out hb)
        clear hb HX4 HY4 HO4 HB4 HW4
        obtain ⟨x0, x1, x2, x3, x4, z0, z1, z2, z3, z4⟩ := HX5.out.five
        obtain ⟨o0, o1, o2, o3, o4, t0, t1, t2, t3, t4⟩ := HO5.out.five
        obtain ⟨y0, y1, y2, y3, y4, u0, u1, u2, u3, u4⟩ := HY5.out.five
        go_wp2_with fail
        refine bodyPost_ret (v := .tuple #[.agg #[.int .i64 0, .int .i64 0, .int .i64 0, .int .i64 0, .slice none 0 0], .bool false]) (by simp [results, Try.results30, go_sem, y0, y1, y2, y3, y4]) rfl ?_
        refine ⟨_, by rw [e1.out], by rw [e2.out]; exact ⟨none, 0, rfl, World.ownsRow_nil _ _ _ _⟩, ?_⟩
        repeat' refine Below.setCell ?_ (by simp) _
        exact HB5.out
    · have HH : inB n 1 40 = false := by simpa using h2
      have e1 : Hid (exOk r n = false) := by show _ = _; rw [exOk_spec, HH]; simp
      have e2 : Hid (exOut r n = noReq) := if_neg (by rw [e1.out]; simp)
      have X0 := (BX.new w #[.int .i64 r.id, .int .i64 r.came, .int .i64 r.working, .int .i64 r.extended, .slice (some ad) r.stops.length c] 33).alloc (.cells #[.int .i64 0, .int .i64 0, .int .i64 0, .int .i64 0, .slice none 0 0] 33)
      have Y0 := BX.new (w.alloc (.cells #[.int .i64 r.id, .int .i64 r.came, .int .i64 r.working, .int .i64 r.extended, .slice (some ad) r.stops.length c] 33)) #[.int .i64 0, .int .i64 0, .int .i64 0, .int .i64 0, .slice none 0 0] 33
      rw [World.size_alloc] at Y0
      have HX0 := Lib.hid X0
      have HY0 := Lib.hid Y0
      clear X0 Y0
      go_enter Try.func30, Try.ntmps30
      go_wp2_with fail
      refine (HO _ (HR.out.below (by go_grown))).out.mono ?_
      rintro e w1 ⟨_, rfl, ⟨A1, c1, rfl, ho1⟩, hb1⟩
      have HX1 := Lib.hid (HX0.out.below hb1)
      have HY1 := Lib.hid (HY0.out.below hb1)
      have HB1 := Lib.hid (Below.trans' (a := w) (by go_grown) hb1)
      have ho1' : w1.ownsRow (w.heap.size + 1 + 1) 64 2 (.slice A1 r.stops.length c1) r.stops.length (cells2 r.stops) := by simpa using ho1
      have HO1 := Lib.hid ho1'
      have hlt := HY1.out.lt
      clear hb1 ho1 ho1' HX0 HY0
      have NE : (Value.slice A1 r.stops.length c1).ownBlock ≠ some w1.heap.size := fun h => by have := (HO1.out.lt _ h).2; omega
      have HO2 := Lib.hid (BX.new w1 #[.int .i64 r.id, .int .i64 r.came, .int .i64 r.working, .int .i64 r.extended, .slice A1 r.stops.length c1] 33)
      have HX2 := Lib.hid (HX1.out.alloc (.cells #[.int .i64 r.id, .int .i64 r.came, .int .i64 r.working, .int .i64 r.extended, .slice A1 r.stops.length c1] 33))
      have HY2 := Lib.hid (HY1.out.alloc (.cells #[.int .i64 r.id, .int .i64 r.came, .int .i64 r.working, .int .i64 r.extended, .slice A1 r.stops.length c1] 33))
      have HB2 := Lib.hid (Below.alloc HB1.out HB1.out.size (.cells #[.int .i64 r.id, .int .i64 r.came, .int .i64 r.working, .int .i64 r.extended, .slice A1 r.stops.length c1] 33))
      have HW2 := Lib.hid (HO1.out.alloc (.cells #[.int .i64 r.id, .int .i64 r.came, .int .i64 r.working, .int .i64 r.extended, .slice A1 r.stops.length c1] 33))
      clear HX1 HY1 HO1
      obtain ⟨x0, x1, x2, x3, x4, z0, z1, z2, z3, z4⟩ := HX2.out.five
      obtain ⟨o0, o1, o2, o3, o4, t0, t1, t2, t3, t4⟩ := HO2.out.five
      go_wp2_with fail
      refine (HI _ (HR.out.below HB2.out)).out.mono ?_
      rintro e w3 ⟨rfl, hb⟩
      clear x0 x1 x2 x3 x4 z0 z1 z2 z3 z4 o0 o1 o2 o3 o4 t0 t1 t2 t3 t4
      have HX3 := Lib.hid (HX2.out.below hb)
      have HY3 := Lib.hid (HY2.out.below hb)
      have HO3 := Lib.hid (HO2.out.below hb)
      have HB3 := Lib.hid (Below.transB HB2.out (Nat.le_refl _) hb)
      have HW3 := Lib.hid (own_below HW2.out hb)
      clear hb HX2 HY2 HO2 HB2 HW2
      obtain ⟨x0, x1, x2, x3, x4, z0, z1, z2, z3, z4⟩ := HX3.out.five
      obtain ⟨o0, o1, o2, o3, o4, t0, t1, t2, t3, t4⟩ := HO3.out.five
      obtain ⟨y0, y1, y2, y3, y4, u0, u1, u2, u3, u4⟩ := HY3.out.five
      go_wp2_with (go_at_call 50; refine (l1In_any _ _ _ _).mono ?_; rintro e w' ⟨rfl, rfl⟩)
      refine bodyPost_ret (v := .tuple #[.agg #[.int .i64 0, .int .i64 0, .int .i64 0, .int .i64 0, .slice none 0 0], .bool false]) (by simp [results, Try.results30, go_sem, y0, y1, y2, y3, y4]) rfl ?_
      refine ⟨_, by rw [e1.out], by rw [e2.out]; exact ⟨none, 0, rfl, World.ownsRow_nil _ _ _ _⟩, ?_⟩
      repeat' refine Below.setCell ?_ (by simp) _
      exact HB3.out
  · have HH : reqOk r = false := by simpa using h1
    have e1 : Hid (exOk r n = false) := by show _ = _; rw [exOk_spec, HH]; simp
    have e2 : Hid (exOut r n = noReq) := if_neg (by rw [e1.out]; simp)
    have X0 := (BX.new w #[.int .i64 r.id, .int .i64 r.came, .int .i64 r.working, .int .i64 r.extended, .slice (some ad) r.stops.length c] 33).alloc (.cells #[.int .i64 0, .int .i64 0, .int .i64 0, .int .i64 0, .slice none 0 0] 33)
    have Y0 := BX.new (w.alloc (.cells #[.int .i64 r.id, .int .i64 r.came, .int .i64 r.working, .int .i64 r.extended, .slice (some ad) r.stops.length c] 33)) #[.int .i64 0, .int .i64 0, .int .i64 0, .int .i64 0, .slice none 0 0] 33
    rw [World.size_alloc] at Y0
    have HX0 := Lib.hid X0
    have HY0 := Lib.hid Y0
    clear X0 Y0
    go_enter Try.func30, Try.ntmps30
    go_wp2_with fail
    refine (HO _ (HR.out.below (by go_grown))).out.mono ?_
    rintro e w1 ⟨_, rfl, ⟨A1, c1, rfl, ho1⟩, hb1⟩
    have HX1 := Lib.hid (HX0.out.below hb1)
    have HY1 := Lib.hid (HY0.out.below hb1)
    have HB1 := Lib.hid (Below.trans' (a := w) (by go_grown) hb1)
    have ho1' : w1.ownsRow (w.heap.size + 1 + 1) 64 2 (.slice A1 r.stops.length c1) r.stops.length (cells2 r.stops) := by simpa using ho1
    have HO1 := Lib.hid ho1'
    have hlt := HY1.out.lt
    clear hb1 ho1 ho1' HX0 HY0
    have NE : (Value.slice A1 r.stops.length c1).ownBlock ≠ some w1.heap.size := fun h => by have := (HO1.out.lt _ h).2; omega
    have HO2 := Lib.hid (BX.new w1 #[.int .i64 r.id, .int .i64 r.came, .int .i64 r.working, .int .i64 r.extended, .slice A1 r.stops.length c1] 33)
    have HX2 := Lib.hid (HX1.out.alloc (.cells #[.int .i64 r.id, .int .i64 r.came, .int .i64 r.working, .int .i64 r.extended, .slice A1 r.stops.length c1] 33))
    have HY2 := Lib.hid (HY1.out.alloc (.cells #[.int .i64 r.id, .int .i64 r.came, .int .i64 r.working, .int .i64 r.extended, .slice A1 r.stops.length c1] 33))
    have HB2 := Lib.hid (Below.alloc HB1.out HB1.out.size (.cells #[.int .i64 r.id, .int .i64 r.came, .int .i64 r.working, .int .i64 r.extended, .slice A1 r.stops.length c1] 33))
    have HW2 := Lib.hid (HO1.out.alloc (.cells #[.int .i64 r.id, .int .i64 r.came, .int .i64 r.working, .int .i64 r.extended, .slice A1 r.stops.length c1] 33))
    clear HX1 HY1 HO1
    obtain ⟨x0, x1, x2, x3, x4, z0, z1, z2, z3, z4⟩ := HX2.out.five
    obtain ⟨o0, o1, o2, o3, o4, t0, t1, t2, t3, t4⟩ := HO2.out.five
    go_wp2_with fail
    refine (HI _ (HR.out.below HB2.out)).out.mono ?_
    rintro e w3 ⟨rfl, hb⟩
    clear x0 x1 x2 x3 x4 z0 z1 z2 z3 z4 o0 o1 o2 o3 o4 t0 t1 t2 t3 t4
    have HX3 := Lib.hid (HX2.out.below hb)
    have HY3 := Lib.hid (HY2.out.below hb)
    have HO3 := Lib.hid (HO2.out.below hb)
    have HB3 := Lib.hid (Below.transB HB2.out (Nat.le_refl _) hb)
    have HW3 := Lib.hid (own_below HW2.out hb)
    clear hb HX2 HY2 HO2 HB2 HW2
    obtain ⟨x0, x1, x2, x3, x4, z0, z1, z2, z3, z4⟩ := HX3.out.five
    obtain ⟨o0, o1, o2, o3, o4, t0, t1, t2, t3, t4⟩ := HO3.out.five
    obtain ⟨y0, y1, y2, y3, y4, u0, u1, u2, u3, u4⟩ := HY3.out.five
    go_wp2_with (go_at_call 50; refine (l1In_any _ _ _ _).mono ?_; rintro e w' ⟨rfl, rfl⟩)
    refine bodyPost_ret (v := .tuple #[.agg #[.int .i64 0, .int .i64 0, .int .i64 0, .int .i64 0, .slice none 0 0], .bool false]) (by simp [results, Try.results30, go_sem, y0, y1, y2, y3, y4]) rfl ?_
    refine ⟨_, by rw [e1.out], by rw [e2.out]; exact ⟨none, 0, rfl, World.ownsRow_nil _ _ _ _⟩, ?_⟩
    repeat' refine Below.setCell ?_ (by simp) _
    exact HB3.out

end Go.Proofs.Ytaogjkgaecjfoaa
