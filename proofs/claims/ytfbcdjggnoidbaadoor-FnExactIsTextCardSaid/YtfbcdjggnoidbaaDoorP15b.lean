/-
  The law IsText. Written by mklaw.py.
  Conditions: those written at each theorem.
-/
import Derived.Test.YtfbcdjggnoidbaaDoorP15a
namespace Go.Proofs.YtfbcdjggnoidbaaDoor
open Go.RowKit Go.BigFrame
set_option maxRecDepth 100000

set_option maxHeartbeats 1000000 in
theorem walkIsText {w : World} (s : ByteArray) (hs : s.size ≤ 9223372036854775807) :
    Calls Tryd.prog 3 #[.string s] w fun e w' => e = .returned (.bool true) ∧ Below w.heap.size w w' := by
  by_cases hl_s : s.size ≤ 1048576
  · have HS := fun (W : World)  => Lib.hid (specIsText_any s (by omega) W)
    have HI := fun (W : World)  => Lib.hid (implIsText_any s (by omega) W)
    generalize textB s = q at HS HI
    go_enter Tryd.func3, Tryd.ntmps3
    go_wp2_with fail
    have B0 := Lib.hid (Below.refl w.heap.size w)
    refine (HS _).out.mono ?_
    rintro e w1 ⟨rfl, hb⟩
    have B1 := Lib.hid (Below.transB B0.out (Nat.le_refl _) hb)
    clear hb B0 
    go_wp2_with fail
    refine (HI _).out.mono ?_
    rintro e w2 ⟨rfl, hb⟩
    have B2 := Lib.hid (Below.transB B1.out (Nat.le_refl _) hb)
    clear hb B1
    go_wp2
    go_ret
    exact ⟨rfl, B2.out⟩
  · go_enter Tryd.func3, Tryd.ntmps3
    go_wp2
    go_ret
    exact ⟨rfl, by go_grown⟩

end Go.Proofs.YtfbcdjggnoidbaaDoor
