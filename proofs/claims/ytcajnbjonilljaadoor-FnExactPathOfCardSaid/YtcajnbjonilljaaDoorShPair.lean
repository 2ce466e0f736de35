/-
  Slices of Pair: one of the call's own; the library's Clone, IndexFunc, ContainsFunc at it. Written by gen_sh.py.
  Conditions: those written at each theorem.
-/
import Derived.Test.YtcajnbjonilljaaDoorTyPair
import Derived.Test.YtcajnbjonilljaaDoorSi
namespace Go.Proofs.YtcajnbjonilljaaDoor
open Go.RowKit Go.BigFrame
set_option maxRecDepth 100000

/-- a slice of the call's own that reads as these -/
def SlPair (base : Nat) (w' : World) (out : List (Int × Int)) (v : Value) : Prop := ∃ A c, v = .slice A out.length c ∧ w'.ownsRow base 40 2 (.slice A out.length c) out.length (cells2 out)
theorem SlPair.nil (base : Nat) (w : World) : SlPair base w [] (.slice none 0 0) := ⟨none, 0, rfl, World.ownsRow_nil _ _ _ _⟩
theorem one_cellsPair (l : List (Int × Int)) : ∀ u ∈ cells2 l, u.oneCell' = true := by
  intro u hu
  obtain ⟨x, _, hx⟩ := List.mem_flatMap.1 hu
  simp only [List.mem_cons, List.mem_nil_iff, or_false] at hx
  rcases hx with rfl | rfl <;> simp [Value.oneCell']



theorem idxPair_cases (P : (Int × Int) → Bool) (l : List (Int × Int)) : ∀ k : Nat, (∃ (i : Nat) (h : i < l.length), idxF P l k = ((k + i : Nat) : Int) ∧ P l[i] = true) ∨ idxF P l k = -1 ∧ ∀ x ∈ l, P x = false := by
  induction l with
  | nil => intro k; exact .inr ⟨rfl, fun x hx => by cases hx⟩
  | cons x r ih =>
    intro k
    by_cases h : P x = true
    · exact .inl ⟨0, by simp, by simp [idxF, h], h⟩
    · rcases ih (k + 1) with ⟨i, hi, he, hp⟩ | ⟨he, hn⟩
      · exact .inl ⟨i + 1, by simpa using hi, by simp only [idxF, if_neg h, he]; congr 1; omega, by simpa using hp⟩
      · refine .inr ⟨by simp only [idxF, if_neg h, he], fun y hy => ?_⟩
        rcases List.mem_cons.1 hy with rfl | hy
        · simpa using h
        · exact hn y hy

end Go.Proofs.YtcajnbjonilljaaDoor
