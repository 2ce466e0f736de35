/-
  The first of the least numbers of a list. Plain lists.
  Conditions: those written at each theorem.
-/
import Derived.Test.YtonfopelfccnpaaP13u
namespace Go.Proofs.Ytonfopelfccnpaa
open Go.RowKit

/-- the first of the least among the first n -/
def FM (D : Nat → Int) (n b : Nat) : Prop := b < n ∧ (∀ j, j < n → D b ≤ D j) ∧ ∀ j, j < b → D b < D j
theorem FM.uniq {D : Nat → Int} {n a b : Nat} (h : FM D n a) (k : FM D n b) : a = b := by
  rcases Nat.lt_trichotomy a b with e | e | e
  · have h1 := k.2.2 a e; have h2 := h.2.1 b k.1; omega
  · exact e
  · have h1 := h.2.2 b e; have h2 := k.2.1 a h.1; omega
theorem FM.one (D : Nat → Int) : FM D 1 0 := by
  refine ⟨by omega, fun j hj => ?_, fun j hj => by omega⟩
  obtain rfl : j = 0 := by omega
  exact Int.le_refl _
theorem FM.yes {D : Nat → Int} {k b : Nat} (h : FM D k b) (q : D k < D b) : FM D (k + 1) k :=
  ⟨by omega, fun j hj => by
    rcases Nat.lt_or_ge j k with e | e
    · have := h.2.1 j e; omega
    · obtain rfl : j = k := by omega
      exact Int.le_refl _, fun j hj => by have := h.2.1 j hj; omega⟩
theorem FM.no {D : Nat → Int} {k b : Nat} (h : FM D k b) (q : ¬ D k < D b) : FM D (k + 1) b :=
  ⟨by have := h.1; omega, fun j hj => by
    rcases Nat.lt_or_ge j k with e | e
    · exact h.2.1 j e
    · obtain rfl : j = k := by omega
      omega, h.2.2⟩
/-- the least of a number and a list -/
def minL : Int → List Int → Int
  | m, [] => m
  | m, y :: t => minL (min m y) t
def minF : List Int → Int
  | [] => 0
  | x :: t => minL x t
theorem minL_le : ∀ (t : List Int) (m : Int), minL m t ≤ m ∧ ∀ y ∈ t, minL m t ≤ y
  | [], m => ⟨Int.le_refl _, fun y hy => by cases hy⟩
  | y :: t, m => by
    have h := minL_le t (min m y)
    rw [minL]
    refine ⟨by omega, fun z hz => ?_⟩
    rcases List.mem_cons.1 hz with rfl | hz
    · omega
    · exact h.2 z hz
theorem minL_mem : ∀ (t : List Int) (m : Int), minL m t = m ∨ minL m t ∈ t
  | [], m => .inl rfl
  | y :: t, m => by
    rw [minL]
    rcases minL_mem t (min m y) with h | h
    · rcases Int.le_total m y with e | e
      · exact .inl (by rw [h]; omega)
      · exact .inr (by rw [h, show min m y = y by omega]; simp)
    · exact .inr (by simp [h])
theorem minF_mem {d : List Int} (h : d ≠ []) : minF d ∈ d ∧ ∀ y ∈ d, minF d ≤ y := by
  cases d with
  | nil => exact absurd rfl h
  | cons x t =>
    have h1 := minL_le t x
    refine ⟨?_, fun y hy => ?_⟩
    · rcases minL_mem t x with e | e
      · rw [minF, e]; simp
      · rw [minF]; simp [e]
    · rcases List.mem_cons.1 hy with rfl | hy
      · exact h1.1
      · exact h1.2 y hy
def atI (d : List Int) (j : Nat) : Int := (d[j]?).getD 0
def eqI (x y : Int) : Bool := decide (x = y)
theorem idx_first (x : Int) : ∀ (d : List Int) (k : Nat), x ∈ d → ∃ i : Nat, i < d.length ∧ idxF (eqI x) d k = ((k + i : Nat) : Int) ∧ atI d i = x ∧ ∀ j, j < i → atI d j ≠ x
  | [], _, h => by cases h
  | y :: t, k, h => by
    by_cases e : x = y
    · exact ⟨0, by simp, by simp [idxF, eqI, e], by simp [atI, e], fun j hj => by omega⟩
    · have hm : x ∈ t := by
        rcases List.mem_cons.1 h with h | h
        · exact absurd h e
        · exact h
      obtain ⟨i, h1, h2, h3, h4⟩ := idx_first x t (k + 1) hm
      refine ⟨i + 1, by simp; omega, ?_, by simpa [atI] using h3, fun j hj => ?_⟩
      · simp only [idxF, eqI, e, decide_false, Bool.false_eq_true, if_false]
        rw [show idxF (eqI x) t (k + 1) = _ from h2]; congr 1; omega
      · cases j with
        | zero => simp [atI]; exact fun h => e h.symm
        | succ j => have := h4 j (by omega); simpa [atI] using this
/-- the program's way finds the first of the least -/
theorem idx_min {d : List Int} (h : d ≠ []) : ∃ i : Nat, idxF (eqI (minF d)) d 0 = (i : Int) ∧ FM (atI d) d.length i ∧ atI d i = minF d := by
  obtain ⟨hm, hle⟩ := minF_mem h
  obtain ⟨i, h1, h2, h3, h4⟩ := idx_first (minF d) d 0 hm
  have hat : ∀ j, j < d.length → minF d ≤ atI d j := fun j hj => by
    have : atI d j = d[j] := by simp [atI, hj]
    rw [this]; exact hle _ (List.getElem_mem hj)
  refine ⟨i, by rw [h2, Nat.zero_add], ⟨h1, fun j hj => by rw [h3]; exact hat j hj, fun j hj => ?_⟩, h3⟩
  have := hat j (by omega)
  have := h4 j hj
  omega
end Go.Proofs.Ytonfopelfccnpaa
