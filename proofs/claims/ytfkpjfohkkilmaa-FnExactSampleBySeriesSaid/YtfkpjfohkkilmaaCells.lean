/-
  The cells in which lists of pairs, of numbers, of structs lie: plain facts on lists.
  Conditions: those written at each theorem.
-/
import Derived.Test.YtfkpjfohkkilmaaBase
namespace Go.Proofs.Ytfkpjfohkkilmaa
open Go.RowKit

/-! ### the cells of pairs -/
def cells2 (l : List (Int × Int)) : List Value := l.flatMap fun p => [.int .i64 p.1, .int .i64 p.2]

theorem cells2_cons (p : Int × Int) (l : List (Int × Int)) : cells2 (p :: l) = .int .i64 p.1 :: .int .i64 p.2 :: cells2 l := rfl
theorem cells2_append (l m : List (Int × Int)) : cells2 (l ++ m) = cells2 l ++ cells2 m := by simp [cells2]
theorem length_cells2 (l : List (Int × Int)) : (cells2 l).length = l.length * 2 := by
  induction l with
  | nil => rfl
  | cons p l ih => rw [cells2_cons]; simp [ih]; omega

theorem getElem?_cells2 (l : List (Int × Int)) (k : Nat) (h : k < l.length) : (cells2 l)[k * 2]? = some (.int .i64 l[k].1) ∧ (cells2 l)[k * 2 + 1]? = some (.int .i64 l[k].2) := by
  induction l generalizing k with
  | nil => simp at h
  | cons p l ih =>
    cases k with
    | zero => simp [cells2_cons]
    | succ k =>
      have := ih k (by simpa using h)
      rw [cells2_cons, show (k + 1) * 2 = k * 2 + 1 + 1 by omega]
      simpa using this

theorem cells2_at {w : World} {l : List (Int × Int)} {b o k : Nat} (hc : ∀ j u, (cells2 l)[j]? = some u → w.cell? ⟨b, o + j, none⟩ = some u) (h : k < l.length) :
    w.cell? ⟨b, o + k * 2, none⟩ = some (.int .i64 l[k].1) ∧ w.cell? ⟨b, o + k * 2 + 1, none⟩ = some (.int .i64 l[k].2) := by
  obtain ⟨h0, h1⟩ := getElem?_cells2 l k h
  exact ⟨hc _ _ h0, hc _ _ h1⟩

end Go.Proofs.Ytfkpjfohkkilmaa
