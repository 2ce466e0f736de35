/-
  The law BillText, walked (after the walk of FeeOf).
  Condition: the library's table stands as its text lays it.
-/
import Derived.Test.YtkocblkodhfjiaaDoorP14q
namespace Go.Proofs.YtkocblkodhfjiaaDoor
open Go.RowKit Go.BigFrame
set_option maxRecDepth 100000

set_option maxHeartbeats 1000000 in
theorem walkBillText {w : World} (t : Tariff) (_ : I64 t.search ∧ I64 t.page ∧ I64 t.free ∧ I64 t.limit) (b : Bill) (_ : I64 b.id ∧ I64 b.hours ∧ I64 b.pages ∧ I64 b.paid) (hT : TabP w) :
    Calls Tryd.prog 3 #[aggTariff t, aggBill b] w fun e w' => e = .returned (.bool true) ∧ Below w.heap.size w w' := by
  have HT := fun W => Lib.hid (toTariff_any t W)
  have HB := fun W => Lib.hid (toBill_any b W)
  have HS := fun W => Lib.hid (specBillText_any t b W)
  have HI := fun W k => Lib.hid (implBillText_any t b W k)
  have HTab := Lib.hid hT
  clear hT
  obtain ⟨x, y, hx⟩ := btAns_form t b
  simp only [hx] at HS HI
  clear hx
  unfold aggTariff aggBill at *
  go_enter Tryd.func3, Tryd.ntmps3
  go_wp2_with fail
  have bx := (Box.new w #[.int .i64 t.search, .int .i64 t.page, .int .i64 t.free, .int .i64 t.limit] 23).below ((Below.refl _ _).alloc (Nat.le_refl _) (.cells #[.int .i64 b.id, .int .i64 b.hours, .int .i64 b.pages, .bool b.poor, .bool b.pub, .int .i64 b.paid] 25))
  have by_ := Box.new (w.alloc (.cells #[.int .i64 t.search, .int .i64 t.page, .int .i64 t.free, .int .i64 t.limit] 23)) #[.int .i64 b.id, .int .i64 b.hours, .int .i64 b.pages, .bool b.poor, .bool b.pub, .int .i64 b.paid] 25
  rw [World.size_alloc] at by_
  have B0 := Lib.hid (((Below.refl w.heap.size w).alloc (Nat.le_refl _) (.cells #[.int .i64 t.search, .int .i64 t.page, .int .i64 t.free, .int .i64 t.limit] 23)).alloc (by simp) (.cells #[.int .i64 b.id, .int .i64 b.hours, .int .i64 b.pages, .bool b.poor, .bool b.pub, .int .i64 b.paid] 25))
  have a0 := bx.G 0 _ rfl
  have a1 := bx.G 1 _ rfl
  have a2 := bx.G 2 _ rfl
  have a3 := bx.G 3 _ rfl
  have c0 := by_.G 0 _ rfl
  have c1 := by_.G 1 _ rfl
  have c2 := by_.G 2 _ rfl
  have c3 := by_.G 3 _ rfl
  have c4 := by_.G 4 _ rfl
  have c5 := by_.G 5 _ rfl
  have BX := Lib.hid bx
  have BY := Lib.hid by_
  clear bx by_
  refine wp_region_grow (by kernel_rfl) (by kernel_rfl) ?_
  repeat (go_big_quiet_step (first | (go_at_call 5; exact quietG (HT _).out) | (go_at_call 6; exact quietG (HB _).out) | (go_at_call 4; exact quietG (HS _).out)))
  refine wpQuiet_endG ?_
  intro w2 hb2
  have B2 := Lib.hid (Below.trans (B0.out) (hb2.mono (by simp; omega)))
  have HTW := Lib.hid (HTab.out.below B2.out)
  have bx := BX.out.below hb2
  have by_ := BY.out.below hb2
  clear a0 a1 a2 a3 c0 c1 c2 c3 c4 c5 hb2
  have a0 := bx.G 0 _ rfl
  have a1 := bx.G 1 _ rfl
  have a2 := bx.G 2 _ rfl
  have a3 := bx.G 3 _ rfl
  have c0 := by_.G 0 _ rfl
  have c1 := by_.G 1 _ rfl
  have c2 := by_.G 2 _ rfl
  have c3 := by_.G 3 _ rfl
  have c4 := by_.G 4 _ rfl
  have c5 := by_.G 5 _ rfl
  clear bx by_
  go_wp2_with fail
  refine wp_region_grow (by kernel_rfl) (by kernel_rfl) ?_
  repeat (go_big_quiet_step (first | (go_at_call 5; exact quietG (HT _).out) | (go_at_call 6; exact quietG (HB _).out) | (go_at_call 7; exact quietG (HI _ (HTW.out.below (GW.below _))).out)))
  refine wpQuiet_endG ?_
  intro w3 hb3
  have B3 := Lib.hid (Below.transB B2.out (Nat.le_refl _) hb3)
  clear hb3
  go_wp2
  go_ret
  exact ⟨rfl, B3.out⟩

end Go.Proofs.YtkocblkodhfjiaaDoor
