/-
  The walks of SeedFor and EveryNth: by the reference and by the program.
  Conditions: those written at each theorem.
-/
import Derived.Test.YtfkpjfohkkilmaaP12b
import Derived.Test.YtfkpjfohkkilmaaOwn
import Derived.Test.YtfkpjfohkkilmaaSi
namespace Go.Proofs.Ytfkpjfohkkilmaa
open Go.RowKit Go.BigFrame
set_option maxRecDepth 100000

/-- what a search by value answers -/
def eqI (x y : Int) : Bool := decide (x = y)


/-- what SeedFor answers -/
def sfAns (l : List Int) (x : Int) : Value := if popB l = true ∧ 0 ≤ idxF (eqI x) l 0 then .tuple #[.int .i64 (idxF (eqI x) l 0), .bool true] else .tuple #[.int .i64 0, .bool false]
theorem sfAns_form (l : List Int) (x : Int) : ∃ (a : Int) (y : Bool), sfAns l x = .tuple #[.int .i64 a, .bool y] := by
  unfold sfAns; split <;> exact ⟨_, _, rfl⟩



/-- every k-th number from place i on -/
def everyF (l : List Int) (k : Nat) : Nat → Nat → List Int
  | 0, _ => []
  | f + 1, i => match l[i]? with
    | some x => x :: everyF l k f (i + k)
    | none => []

/-- where EveryNth answers -/
def enOk (l : List Int) (k s : Int) : Bool := popB l && inB k 1 20 && inB s 0 (k - 1)
theorem enOk_true {l : List Int} {k s : Int} (h : enOk l k s = true) : popB l = true ∧ inB k 1 20 = true ∧ inB s 0 (k - 1) = true := by simpa [enOk, and_assoc] using h
def enOut (l : List Int) (k s : Int) : List Int := if enOk l k s = true then everyF l k.toNat l.length s.toNat else []




end Go.Proofs.Ytfkpjfohkkilmaa
