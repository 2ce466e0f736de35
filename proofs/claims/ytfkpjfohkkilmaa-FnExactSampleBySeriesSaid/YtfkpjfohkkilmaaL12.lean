/-
  Plain laws of chapter 12: populations, samples. No program in sight.
  Conditions: those written at each theorem.
-/
import Derived.Test.YtfkpjfohkkilmaaTyInt
namespace Go.Proofs.Ytfkpjfohkkilmaa
open Go.RowKit

/-- numbers that rise, from 1 to 999 -/
def riseB (last : Int) : List Int → Bool
  | [] => true
  | x :: r => if inB x 1 999 = true ∧ last < x then riseB x r else false
def popB (l : List Int) : Bool := riseB 0 l && decide ((l.length : Int) ≤ 20)

theorem riseB_go {last x : Int} {r : List Int} (h1 : inB x 1 999 = true) (h2 : last < x) : riseB last (x :: r) = riseB x r := by
  simp only [riseB]; rw [if_pos ⟨h1, h2⟩]
theorem riseB_bad {last x : Int} {r : List Int} (h : ¬ (inB x 1 999 = true ∧ last < x)) : riseB last (x :: r) = false := by
  simp only [riseB]; rw [if_neg h]

/-- the number before place k, 0 before the first -/
def lastAt (l : List Int) : Nat → Int
  | 0 => 0
  | k + 1 => l.getD k 0
theorem lastAt_succ {l : List Int} {k : Nat} (h : k < l.length) : lastAt l (k + 1) = l[k] := by simp [lastAt, h]

theorem popB_len {l : List Int} (h : popB l = true) : l.length ≤ 20 := by
  simp only [popB, Bool.and_eq_true, decide_eq_true_eq] at h; omega
theorem popB_rise {l : List Int} (h : popB l = true) : riseB 0 l = true := by
  simp only [popB, Bool.and_eq_true] at h; exact h.1

theorem rise_bd {last : Int} {l : List Int} (h : riseB last l = true) : ∀ x ∈ l, 1 ≤ x ∧ x ≤ 999 := by
  induction l generalizing last with
  | nil => intro x hx; cases hx
  | cons y r ih =>
    by_cases hc : inB y 1 999 = true ∧ last < y
    · rw [riseB_go hc.1 hc.2] at h
      intro x hx
      rcases List.mem_cons.1 hx with rfl | hx
      · exact inB_true hc.1
      · exact ih h x hx
    · rw [riseB_bad hc] at h; cases h

/-- how many are to be drawn -/
def sizeI (c p m : Int) : Int := if c < (if (c * p + 99) / 100 < m then m else (c * p + 99) / 100) then c else (if (c * p + 99) / 100 < m then m else (c * p + 99) / 100)

/-- what SampleSize answers -/
def ssAns (c p m : Int) : Value := if inB c 0 20 = true ∧ inB p 0 100 = true ∧ inB m 0 20 = true then .tuple #[.int .i64 (sizeI c p m), .bool true] else .tuple #[.int .i64 0, .bool false]
theorem ssAns_form (c p m : Int) : ∃ (x : Int) (y : Bool), ssAns c p m = .tuple #[.int .i64 x, .bool y] := by
  unfold ssAns; split <;> exact ⟨_, _, rfl⟩

theorem mul_bd {a b A B : Int} (h1 : 0 ≤ a) (h2 : a ≤ A) (h3 : 0 ≤ b) (h4 : b ≤ B) : 0 ≤ a * b ∧ a * b ≤ A * B :=
  ⟨Int.mul_nonneg h1 h3, Int.mul_le_mul h2 h4 h3 (by omega)⟩

end Go.Proofs.Ytfkpjfohkkilmaa
