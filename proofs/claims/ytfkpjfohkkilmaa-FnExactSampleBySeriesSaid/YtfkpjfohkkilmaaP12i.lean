/-
  OrderTaken: by the reference and by the program; the law on it.
  Conditions: those written at each theorem.
-/
import Derived.Test.YtfkpjfohkkilmaaP12h
namespace Go.Proofs.Ytfkpjfohkkilmaa
open Go.RowKit Go.BigFrame
set_option maxRecDepth 100000

/-- where a draw is made -/
def askB (l : List Int) (n s : Int) : Bool := popB l && inB n 0 l.length && inB s 0 99999
theorem askB_true {l : List Int} {n s : Int} (h : askB l n s = true) : popB l = true ∧ inB n 0 l.length = true ∧ inB s 0 99999 = true := by simpa [askB, and_assoc] using h
def otOut (l : List Int) (n s : Int) : List Int := if askB l n s = true then (takeF l n.toNat s).1 else []

theorem l12Seed_any (s : Int) (w : World) : Calls Try.prog 16 #[.int .i64 s] w fun e w' => e = .returned (.bool (inB s 0 99999)) ∧ w = w' := by
  go_enter Try.func16, Try.ntmps16
  go_wp2_with (go_at_call 15; refine (l1In_any _ _ _ _).mono ?_; rintro e w' ⟨rfl, rfl⟩)
  go_ret
  exact ⟨rfl, rfl⟩
theorem isSeed_any (s : Int) (w : World) : Calls Try.prog 24 #[.int .i64 s] w fun e w' => e = .returned (.bool (inB s 0 99999)) ∧ w = w' := by
  go_enter Try.func24, Try.ntmps24
  go_wp2_with (go_at_call 23; refine (within_any _ _ _ _).mono ?_; rintro e w' ⟨rfl, rfl⟩)
  go_ret
  exact ⟨rfl, rfl⟩





theorem len_otOut (l : List Int) (n s : Int) (hl : l.length ≤ 1048576) : (otOut l n s).length ≤ 1048576 := by
  unfold otOut
  split
  · rename_i h
    have := inB_true (askB_true h).2.1
    have := len_takeF n.toNat l s
    omega
  · simp


end Go.Proofs.Ytfkpjfohkkilmaa
