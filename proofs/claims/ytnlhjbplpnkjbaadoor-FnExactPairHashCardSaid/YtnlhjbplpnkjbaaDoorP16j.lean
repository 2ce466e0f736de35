/-
  The law PairHash. Written by mklaw.py.
  Conditions: those written at each theorem.
-/
import Derived.Test.YtnlhjbplpnkjbaaDoorP16i
namespace Go.Proofs.YtnlhjbplpnkjbaaDoor
open Go.RowKit Go.BigFrame
set_option maxRecDepth 100000

set_option maxHeartbeats 1000000 in
theorem walkPairHash {w : World} (a : Int) (_ : I64 a) (b : Int) (_ : I64 b) (hT : TabP w) :
    Calls Tryd.prog 3 #[.int .i64 a, .int .i64 b] w fun e w' => e = .returned (.bool true) ∧ Below w.heap.size w w' := by
  have HS := fun (W : World)  => Lib.hid (specPairHash_any a b W)
  have HI := fun (W : World)  (tabW : TabP W) => Lib.hid (implPairHash_any a b W tabW)
  have HTab := Lib.hid hT
  clear hT
  obtain ⟨xa, ya, hx⟩ := phAns_form a b
  simp only [hx] at HS HI
  clear hx
  go_enter Tryd.func3, Tryd.ntmps3
  go_wp2_with fail
  have B0 := Lib.hid (Below.refl w.heap.size w)
  refine (HS _).out.mono ?_
  rintro e w1 ⟨rfl, hb⟩
  have B1 := Lib.hid (Below.transB B0.out (Nat.le_refl _) hb)
  clear hb B0 
  go_wp2_with fail
  refine (HI _ (HTab.out.below B1.out)).out.mono ?_
  rintro e w2 ⟨rfl, hb⟩
  have B2 := Lib.hid (Below.transB B1.out (Nat.le_refl _) hb)
  clear hb B1
  go_wp2
  go_ret
  exact ⟨rfl, B2.out⟩

end Go.Proofs.YtnlhjbplpnkjbaaDoor
