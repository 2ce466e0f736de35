/-
  Plain laws of chapter 17: who had a record; one more hand. No program in sight.
  Conditions: those written at each theorem.
-/
import Derived.Test.YtcneipheipneaaaP17b
import Derived.Test.YtcneipheipneaaaShHand
namespace Go.Proofs.Ytcneipheipneaaa
open Go.RowKit

theorem custody_len {l : List Hand} (h : custB l = true) : l.length ≤ 12 := (custB_true h).1
/-- who had a record, behind what was found -/
def chainF (r : Int) : List Int → List Hand → List Int
  | acc, [] => acc
  | acc, h :: t => if h.record = r then (if acc.length = 0 then chainF r (acc ++ [h.giver] ++ [h.taker]) t else chainF r (acc ++ [h.taker]) t) else chainF r acc t
theorem len_chainF (r : Int) (l : List Hand) : ∀ acc, (chainF r acc l).length ≤ acc.length + 2 * l.length := by
  induction l with
  | nil => intro acc; simp [chainF]
  | cons h t ih =>
    intro acc
    unfold chainF
    split
    · split
      · have := ih (acc ++ [h.giver] ++ [h.taker]); simp at this ⊢; omega
      · have := ih (acc ++ [h.taker]); simp at this ⊢; omega
    · have := ih acc; simp; omega
noncomputable def chOk (l : List Hand) (r : Int) : Bool := custB l && inB r 1 999
noncomputable def chOut (l : List Hand) (r : Int) : List Int := if chOk l r = true then chainF r [] l else []
theorem len_chOut (l : List Hand) (r : Int) : (chOut l r).length ≤ 1048576 := by
  unfold chOut; split
  · rename_i h
    have h2 : custB l = true := by simp only [chOk, Bool.and_eq_true] at h; exact h.1
    have := custody_len h2
    have := len_chainF r l []
    simp at this; omega
  · simp

theorem custody_pre {l : List Hand} {h : Hand} (k : custody (l ++ [h])) : custody l := by
  obtain ⟨h1, h2, h3, h4⟩ := k
  have e : ∀ i (hi : i < l.length), (l ++ [h])[i]'(by simp; omega) = l[i] := fun i hi => List.getElem_append_left hi
  refine ⟨by simp at h1; omega, fun i hi => ?_, fun i hi => ?_, fun i k hi hk ⟨a1, a2, a3⟩ => ?_⟩
  · rw [← e i hi]; exact h2 i _
  · rw [← e i (by omega), ← e (i + 1) hi]; exact h3 i (by simp; omega)
  · rw [← e i hi, ← e k hk]
    refine h4 i k (by simp; omega) (by simp; omega) ⟨a1, ?_, fun m hm m1 m2 => ?_⟩
    · rw [e i hi, e k hk]; exact a2
    · rw [e m (by omega), e k hk]; exact a3 m (by omega) m1 m2
theorem custB_pre {l : List Hand} {h : Hand} (k : custB (l ++ [h]) = true) : custB l = true := by
  have := custody_pre (custB_true k)
  unfold custB; simpa using this
noncomputable def ahOut (l : List Hand) (h : Hand) : List Hand := if custB (l ++ [h]) = true then l ++ [h] else []
theorem len_ahOut (l : List Hand) (h : Hand) : (ahOut l h).length ≤ 1048576 := by
  unfold ahOut; split
  · rename_i k
    have := custody_len k
    omega
  · simp

end Go.Proofs.Ytcneipheipneaaa
