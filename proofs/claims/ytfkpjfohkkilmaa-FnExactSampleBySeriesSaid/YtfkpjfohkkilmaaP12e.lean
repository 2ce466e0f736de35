/-
  The walks of the laws SeedFor and EveryNth. Written by gen_laws.py.
  Conditions: those written at each theorem.
-/
import Derived.Test.YtfkpjfohkkilmaaP12d
import Derived.Test.YtfkpjfohkkilmaaP12b
namespace Go.Proofs.Ytfkpjfohkkilmaa
open Go.RowKit Go.BigFrame
set_option maxRecDepth 100000


theorem len_everyF (l : List Int) (k : Nat) : ∀ f i, (everyF l k f i).length ≤ f
  | 0, _ => by simp [everyF]
  | f + 1, i => by
    unfold everyF
    split
    · have := len_everyF l k f (i + k); simp; omega
    · simp
theorem len_enOut (l : List Int) (k s : Int) (hl : l.length ≤ 1048576) : (enOut l k s).length ≤ 1048576 := by
  unfold enOut
  split
  · exact Nat.le_trans (len_everyF _ _ _ _) hl
  · simp


end Go.Proofs.Ytfkpjfohkkilmaa
