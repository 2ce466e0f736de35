/-
  OpenFees, OverPaid and CheaperTariff by the program. Written by mk14h.py.
  Conditions: those written at each theorem.
-/
import Derived.Test.YtpifimghlfpbaaaL14c
import Derived.Deep.RegionHeld3
namespace Go.Proofs.Ytpifimghlfpbaaa
open Go.RowKit Go.BigFrame
set_option maxRecDepth 100000

set_option maxHeartbeats 800000 in
theorem open_any (t : Tariff) (b : Bill) (w : World) (h : FeeIn t b) (hp : 0 ≤ b.paid ∧ b.paid ≤ 1000000) : Calls Try.prog 23 #[aggTariff t, aggBill b] w fun e w' => e = .returned (.int .i64 (openI t b)) ∧ Below w.heap.size w w' := by
  have hf := fee_bd h
  have HF := fun W => Lib.hid (fee_any t b W h)
  have e1 : IntKind.i64.wrap (feeI t b - b.paid) = feeI t b - b.paid := IntWalk.i64_in _ (by omega)
  by_cases hc : feeI t b - b.paid < 0
  all_goals
    have ho : Hid (openI t b = if feeI t b - b.paid < 0 then 0 else feeI t b - b.paid) := rfl
    unfold aggTariff aggBill at *
    have bx := (Box.new w #[.int .i64 t.search, .int .i64 t.page, .int .i64 t.free, .int .i64 t.limit] 29).below ((Below.refl _ _).alloc (Nat.le_refl _) (.cells #[.int .i64 b.id, .int .i64 b.hours, .int .i64 b.pages, .bool b.poor, .bool b.pub, .int .i64 b.paid] 40))
    have by_ := Box.new (w.alloc (.cells #[.int .i64 t.search, .int .i64 t.page, .int .i64 t.free, .int .i64 t.limit] 29)) #[.int .i64 b.id, .int .i64 b.hours, .int .i64 b.pages, .bool b.poor, .bool b.pub, .int .i64 b.paid] 40
    rw [World.size_alloc] at by_
    have B0 := Lib.hid (((Below.refl w.heap.size w).alloc (Nat.le_refl _) (.cells #[.int .i64 t.search, .int .i64 t.page, .int .i64 t.free, .int .i64 t.limit] 29)).alloc (by simp) (.cells #[.int .i64 b.id, .int .i64 b.hours, .int .i64 b.pages, .bool b.poor, .bool b.pub, .int .i64 b.paid] 40))
    generalize feeI t b = F at *
    go_enter Try.func23, Try.ntmps23
    go_wp2_with fail
    have a0 := bx.G 0 _ rfl
    have a1 := bx.G 1 _ rfl
    have a2 := bx.G 2 _ rfl
    have a3 := bx.G 3 _ rfl
    have c0 := by_.G 0 _ rfl
    have c1 := by_.G 1 _ rfl
    have c2 := by_.G 2 _ rfl
    have c3 := by_.G 3 _ rfl
    have c4 := by_.G 4 _ rfl
    have c5 := by_.G 5 _ rfl
    clear bx by_
    refine wp_region_grow (by kernel_rfl) (by kernel_rfl) ?_
    repeat (go_big_quiet_step (first | (go_at_call 34; exact quietG (HF _).out)))
    refine wpQuiet_endG ?_
    intro w2 hb2
    have B2 := Lib.hid (Below.trans (B0.out) (hb2.mono (by simp; omega)))
    clear hb2 a0 a1 a2 a3 c0 c1 c2 c3 c4 c5
    go_wp2
    go_ret
    refine ⟨?_, B2.out⟩
    have hoo := ho.out
    first
      | (rw [if_pos hc] at hoo; rw [hoo]; rfl)
      | (rw [if_neg (by omega)] at hoo; rw [hoo]; rfl)


end Go.Proofs.Ytpifimghlfpbaaa
