/-
  A list of pairs of numbers that came in, opened to plain data.
  Conditions: none beyond those written at each theorem.
-/
import Derived.Test.YtnlhjbplpnkjbaaDoorTyPair
import Derived.Test.YtnlhjbplpnkjbaaDoorOpen
namespace Go.Proofs.YtnlhjbplpnkjbaaDoor
open Go.ChangeShapes Go.WideShapes Go.ChangeAt Go.RowKit Go.Deep
set_option linter.unusedVariables false
set_option maxRecDepth 100000
/-- what came in as a list of pairs -/
def InP (W : World) (v : Value) : Prop := ∃ (A : Option Addr) (k : Nat) (l : List (Int × Int)), v = .slice A l.length k ∧ Rd W 2 A l.length (cells2 l) ∧ (∀ x ∈ l, I64 x.1 ∧ I64 x.2) ∧ l.length ≤ 9223372036854775807
theorem in_pairs {H : Type} {enc : TypeId × Value → H} {W : World} {base : Nat} {v : Value} {d : DataW H} {p : List MemPlace} {r : Reach} (hv : Value.okWide Tryd.prog W r base 47 v) (h : DataW.Trod enc Tryd.prog W 0 (fun _ => true) true 47 v d p) : ∃ x, InP W x ∧ v = x := by
  obtain ⟨a, n, c, rfl⟩ := okWide_slice Tryd.underlying47 hv
  obtain ⟨fuel, hf⟩ := h
  obtain ⟨A, k, l, h1, h2, h3, h4⟩ := pairs_of hf
  exact ⟨_, ⟨A, k, l, h1, h2, h3, h4⟩, rfl⟩
end Go.Proofs.YtnlhjbplpnkjbaaDoor
