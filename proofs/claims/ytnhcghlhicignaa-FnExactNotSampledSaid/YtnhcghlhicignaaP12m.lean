/-
  NotSampled by the program.
  Conditions: those written at each theorem.
-/
import Derived.Test.YtnhcghlhicignaaP12l
namespace Go.Proofs.Ytnhcghlhicignaa
open Go.RowKit Go.BigFrame
set_option maxRecDepth 100000

theorem ns1_any (l : List Int) (x : Int) (A : Option Addr) (c b : Nat) (W : World) (hc : W.cell? ⟨b, 0, none⟩ = some (.slice A l.length c)) (hr : Rd W 1 A l.length (cellsI l)) (hl : l.length ≤ 1048576) :
    Calls Try.prog 50 #[.int .i64 x, .pointer (some ⟨b, 0, none⟩)] W fun e w' => e = .returned (.bool (!hasI l x)) ∧ W = w' := by
  go_enter Try.func50, Try.ntmps50
  go_wp2_with (go_at_call 51; refine (contains_any l x A c (by omega) _ hr).mono ?_; rintro e w' ⟨rfl, rfl⟩)
  go_ret
  exact ⟨rfl, rfl⟩
theorem ns2_any (l : List Int) (x : Int) (A : Option Addr) (c b : Nat) (W : World) (hc : W.cell? ⟨b, 0, none⟩ = some (.slice A l.length c)) (hr : Rd W 1 A l.length (cellsI l)) (hl : l.length ≤ 1048576) :
    Calls Try.prog 54 #[.int .i64 x, .pointer (some ⟨b, 0, none⟩)] W fun e w' => e = .returned (.bool (hasI l x)) ∧ W = w' := by
  go_enter Try.func54, Try.ntmps54
  go_wp2_with (go_at_call 51; refine (contains_any l x A c (by omega) _ hr).mono ?_; rintro e w' ⟨rfl, rfl⟩)
  go_ret
  exact ⟨rfl, rfl⟩

end Go.Proofs.Ytnhcghlhicignaa
