/-
  Plain laws of chapter 14: for how many pages a fee is not too great. No program in sight.
  Conditions: those written at each theorem.
-/
import Derived.Test.YtpifimghlfpbaaaL14
namespace Go.Proofs.Ytpifimghlfpbaaa
open Go.RowKit

/-- the fee for hours and pages -/
def feeP (t : Tariff) (h p : Int) : Int := feeI t ⟨0, h, p, false, false, 0⟩

theorem feeP_mono {t : Tariff} {h p q : Int} (ht : tarOk t = true) (hpq : p ≤ q) : feeP t h p ≤ feeP t h q := by
  have h1 := tarOk_true ht
  have ho : overI t ⟨0, h, p, false, false, 0⟩ ≤ overI t ⟨0, h, q, false, false, 0⟩ := by
    unfold overI; dsimp only; split <;> split <;> omega
  have hm := Int.mul_le_mul_of_nonneg_right ho h1.2.1.1
  unfold feeP feeI grossI
  simp only [Bool.false_eq_true, if_false]
  split <;> split <;> omega

/-- the greatest number of pages up to p for which the fee is not too great, or -1 -/
def bestP (t : Tariff) (h c : Int) : Nat → Int
  | 0 => if feeP t h 0 ≤ c then 0 else -1
  | p + 1 => if feeP t h ((p : Int) + 1) ≤ c then (p : Int) + 1 else bestP t h c p

theorem bestP_is {t : Tariff} {h c : Int} (p low : Nat) (hl : low ≤ p) (h1 : feeP t h low ≤ c) (h2 : ∀ q : Nat, low < q → q ≤ p → c < feeP t h q) : bestP t h c p = low := by
  induction p with
  | zero => obtain rfl : low = 0 := by omega
            have h1' : feeP t h 0 ≤ c := h1
            simp only [bestP]; rw [if_pos h1']; rfl
  | succ p ih =>
    by_cases e : low = p + 1
    · subst e
      simp only [bestP]; rw [if_pos (by simpa using h1)]; simp
    · have := h2 (p + 1) (by omega) (by omega)
      simp only [bestP]; rw [if_neg (by simp at this; omega)]
      exact ih (by omega) (fun q a b => h2 q a (by omega))

theorem bestP_none {t : Tariff} {h c : Int} (ht : tarOk t = true) (h0 : c < feeP t h 0) (p : Nat) : bestP t h c p = -1 := by
  induction p with
  | zero => simp only [bestP]; rw [if_neg (by omega)]
  | succ p ih =>
    have := feeP_mono (h := h) ht (show (0 : Int) ≤ (p : Int) + 1 by omega)
    simp only [bestP]; rw [if_neg (by omega)]; exact ih

end Go.Proofs.Ytpifimghlfpbaaa
