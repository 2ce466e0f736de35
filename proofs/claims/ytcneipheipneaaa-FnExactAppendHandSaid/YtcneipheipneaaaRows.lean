/-
  No cell of these rows narrows 'for every input' (looked for: loops, veiled, ifaces, maps, wideKeys, modest, calm, conditions, laid).
  DERIVED. THE GIVEN ROWS OF THIS SEAT. 6 by the template 'for every input the law returns true; each argument reads behind the call as it read before'; 0 by the template 'total and deterministic' (their statements: YtcneipheipneaaaTotals.lean).
  GIVEN WITH THE SEED: the statements are not yours to turn. If you find one false, say at which input.
  Laid BY PROGRAM, IN A SANDBOX (cutbox-rows.mjs): the forced cells as the released guide's own fill.sh prints them over the translation feaea775d15e076d… (all of the seat's roots in one cut). By AI agents, Wed Nov 11 2026. No macro, syntax, notation, axiom, sorry.
-/
import Derived.Test.YtcneipheipneaaaChecked
import GoSem.Claim
import GoSem.ClaimJoined
import GoSem.ClaimMapViews
import Derived.JoinedTies
import Derived.KernelRfl
namespace Go.Proofs.Ytcneipheipneaaa
/- THE CELL 'sum', in the pinned program and in every row, IS THE sha256 OF THE DUMP (.gsa) THAT YtcneipheipneaaaProg.lean LOADS. Nothing in Lean hashes anything: it is a label: what it is worth is what the hold of that sum in a sandbox is worth. -/
noncomputable def Try.pinned : Pinned := { name := "ytcneipheipneaaa", sum := "feaea775d15e076dda55991d7164d4893de31fedec724495b06ac9d2550ef0d1", checked := Try.checked }
namespace Rows
def none {H : Type} : Left H := { results := [], args := [] }

/-- 'laws.FnExactIsHand': WHATEVER THE INPUT: true; the input reads as it did. -/
def fnExactIsHandSpec : ChangeSpec := { name := "fnExactIsHand", fn := fun _ => fun
  | [d] => { results := [.lit (.bool true)], args := [d] }
  | _ => none }
def fnExactIsHandRow : OpenClaim := { program := "ytcneipheipneaaa", sum := "feaea775d15e076dda55991d7164d4893de31fedec724495b06ac9d2550ef0d1", func := "loop.example/g01035/laws.FnExactIsHand", spec := "fnExactIsHand", apart := false }
def FnExactIsHandSaid : Prop := fnExactIsHandRow.holds Try.pinned (OpenSpec.ofChange fnExactIsHandSpec)

/-- ITS FALSE NEIGHBOUR: 'it returns false'. Refute it at one input. -/
def fnExactIsHandWrong : ChangeSpec := { name := "fnExactIsHand", fn := fun _ => fun
  | [d] => { results := [.lit (.bool false)], args := [d] }
  | _ => none }
def FnExactIsHandWrongFalsely : Prop := fnExactIsHandRow.holds Try.pinned (OpenSpec.ofChange fnExactIsHandWrong)

/-- 'laws.FnExactIsCustody': WHATEVER THE INPUT: true; the input reads as it did. -/
def fnExactIsCustodySpec : ChangeSpec := { name := "fnExactIsCustody", fn := fun _ => fun
  | [d] => { results := [.lit (.bool true)], args := [d] }
  | _ => none }
def fnExactIsCustodyRow : OpenClaim := { program := "ytcneipheipneaaa", sum := "feaea775d15e076dda55991d7164d4893de31fedec724495b06ac9d2550ef0d1", func := "loop.example/g01035/laws.FnExactIsCustody", spec := "fnExactIsCustody", apart := false }
def FnExactIsCustodySaid : Prop := fnExactIsCustodyRow.holds Try.pinned (OpenSpec.ofChange fnExactIsCustodySpec)

/-- ITS FALSE NEIGHBOUR: 'it returns false'. Refute it at one input. -/
def fnExactIsCustodyWrong : ChangeSpec := { name := "fnExactIsCustody", fn := fun _ => fun
  | [d] => { results := [.lit (.bool false)], args := [d] }
  | _ => none }
def FnExactIsCustodyWrongFalsely : Prop := fnExactIsCustodyRow.holds Try.pinned (OpenSpec.ofChange fnExactIsCustodyWrong)

/-- 'laws.FnExactHolderOf': WHATEVER THE INPUT: true; the input reads as it did. -/
def fnExactHolderOfSpec : ChangeSpec := { name := "fnExactHolderOf", fn := fun _ => fun
  | [d1, d2, d3] => { results := [.lit (.bool true)], args := [d1, d2, d3] }
  | _ => none }
def fnExactHolderOfRow : OpenClaim := { program := "ytcneipheipneaaa", sum := "feaea775d15e076dda55991d7164d4893de31fedec724495b06ac9d2550ef0d1", func := "loop.example/g01035/laws.FnExactHolderOf", spec := "fnExactHolderOf", apart := false }
def FnExactHolderOfSaid : Prop := fnExactHolderOfRow.holds Try.pinned (OpenSpec.ofChange fnExactHolderOfSpec)

/-- ITS FALSE NEIGHBOUR: 'it returns false'. Refute it at one input. -/
def fnExactHolderOfWrong : ChangeSpec := { name := "fnExactHolderOf", fn := fun _ => fun
  | [d1, d2, d3] => { results := [.lit (.bool false)], args := [d1, d2, d3] }
  | _ => none }
def FnExactHolderOfWrongFalsely : Prop := fnExactHolderOfRow.holds Try.pinned (OpenSpec.ofChange fnExactHolderOfWrong)

/-- 'laws.FnExactDaysHeld': WHATEVER THE INPUT: true; the input reads as it did. -/
def fnExactDaysHeldSpec : ChangeSpec := { name := "fnExactDaysHeld", fn := fun _ => fun
  | [d1, d2, d3, d4] => { results := [.lit (.bool true)], args := [d1, d2, d3, d4] }
  | _ => none }
def fnExactDaysHeldRow : OpenClaim := { program := "ytcneipheipneaaa", sum := "feaea775d15e076dda55991d7164d4893de31fedec724495b06ac9d2550ef0d1", func := "loop.example/g01035/laws.FnExactDaysHeld", spec := "fnExactDaysHeld", apart := false }
def FnExactDaysHeldSaid : Prop := fnExactDaysHeldRow.holds Try.pinned (OpenSpec.ofChange fnExactDaysHeldSpec)

/-- ITS FALSE NEIGHBOUR: 'it returns false'. Refute it at one input. -/
def fnExactDaysHeldWrong : ChangeSpec := { name := "fnExactDaysHeld", fn := fun _ => fun
  | [d1, d2, d3, d4] => { results := [.lit (.bool false)], args := [d1, d2, d3, d4] }
  | _ => none }
def FnExactDaysHeldWrongFalsely : Prop := fnExactDaysHeldRow.holds Try.pinned (OpenSpec.ofChange fnExactDaysHeldWrong)

/-- 'laws.FnExactAppendHand': WHATEVER THE INPUT: true; the input reads as it did. -/
def fnExactAppendHandSpec : ChangeSpec := { name := "fnExactAppendHand", fn := fun _ => fun
  | [d1, d2] => { results := [.lit (.bool true)], args := [d1, d2] }
  | _ => none }
def fnExactAppendHandRow : OpenClaim := { program := "ytcneipheipneaaa", sum := "feaea775d15e076dda55991d7164d4893de31fedec724495b06ac9d2550ef0d1", func := "loop.example/g01035/laws.FnExactAppendHand", spec := "fnExactAppendHand", apart := false }
def FnExactAppendHandSaid : Prop := fnExactAppendHandRow.holds Try.pinned (OpenSpec.ofChange fnExactAppendHandSpec)

/-- ITS FALSE NEIGHBOUR: 'it returns false'. Refute it at one input. -/
def fnExactAppendHandWrong : ChangeSpec := { name := "fnExactAppendHand", fn := fun _ => fun
  | [d1, d2] => { results := [.lit (.bool false)], args := [d1, d2] }
  | _ => none }
def FnExactAppendHandWrongFalsely : Prop := fnExactAppendHandRow.holds Try.pinned (OpenSpec.ofChange fnExactAppendHandWrong)

/-- 'laws.FnExactChainOf': WHATEVER THE INPUT: true; the input reads as it did. -/
def fnExactChainOfSpec : ChangeSpec := { name := "fnExactChainOf", fn := fun _ => fun
  | [d1, d2] => { results := [.lit (.bool true)], args := [d1, d2] }
  | _ => none }
def fnExactChainOfRow : OpenClaim := { program := "ytcneipheipneaaa", sum := "feaea775d15e076dda55991d7164d4893de31fedec724495b06ac9d2550ef0d1", func := "loop.example/g01035/laws.FnExactChainOf", spec := "fnExactChainOf", apart := false }
def FnExactChainOfSaid : Prop := fnExactChainOfRow.holds Try.pinned (OpenSpec.ofChange fnExactChainOfSpec)

/-- ITS FALSE NEIGHBOUR: 'it returns false'. Refute it at one input. -/
def fnExactChainOfWrong : ChangeSpec := { name := "fnExactChainOf", fn := fun _ => fun
  | [d1, d2] => { results := [.lit (.bool false)], args := [d1, d2] }
  | _ => none }
def FnExactChainOfWrongFalsely : Prop := fnExactChainOfRow.holds Try.pinned (OpenSpec.ofChange fnExactChainOfWrong)

/- THE SECOND FORM. 'bulk': how many values and letters a reading holds, each counted each time it is reached (what is shared counts as often as it is met; a slice's spare places count too). A statement '..UptoSaid' is the law's where the arguments, and the package variables that the reading takes, are together of bulk at most 1048576: NARROWER than '..Said'. Prove '..Said' where nothing that the law and all that it calls make is longer than what came in: it says more and counts as full. Else prove '..UptoSaid'. A law counts once. -/
mutual
def uptoBulk {H : Type} : DataW H → Nat
  | .lit (.string bytes) => bytes.length + 1
  | .lit _ => 1
  | .nil => 1
  | .ptr d => uptoBulk d + 1
  | .slice elems spare => uptoBulkAll elems + uptoBulkAll spare + 1
  | .agg parts => uptoBulkAll parts + 1
  | .iface _ d => uptoBulk d + 1
  | .map entries => uptoBulkEntries entries + 1
  | .held _ => 1
def uptoBulkAll {H : Type} : List (DataW H) → Nat
  | [] => 0
  | d :: r => uptoBulk d + uptoBulkAll r
def uptoBulkEntries {H : Type} : List (Lit × DataW H) → Nat
  | [] => 0
  | x :: r => uptoBulkEntry x + uptoBulkEntries r
def uptoBulkEntry {H : Type} : Lit × DataW H → Nat
  | (.string bytes, d) => bytes.length + uptoBulk d + 1
  | (_, d) => uptoBulk d + 1
 end
def uptoSmall : (H : Type) → List (DataW H) → Bool := fun _ ds => decide (uptoBulkAll ds ≤ 1048576)
def OpenSpec.upto (s : _root_.Go.ChangeSpec) : _root_.Go.OpenSpec := { _root_.Go.OpenSpec.ofChange s with cond := some uptoSmall }

/-- 'laws.FnExactIsHand', WHERE WHAT IT READS IS OF BULK AT MOST 1048576: true; the input reads as it did. -/
def fnExactIsHandUptoRow : OpenClaim := { program := "ytcneipheipneaaa", sum := "feaea775d15e076dda55991d7164d4893de31fedec724495b06ac9d2550ef0d1", func := "loop.example/g01035/laws.FnExactIsHand", spec := "fnExactIsHand", apart := false, narrowed := true }
def FnExactIsHandUptoSaid : Prop := fnExactIsHandUptoRow.holds Try.pinned (OpenSpec.upto fnExactIsHandSpec)

/-- 'laws.FnExactIsCustody', WHERE WHAT IT READS IS OF BULK AT MOST 1048576: true; the input reads as it did. -/
def fnExactIsCustodyUptoRow : OpenClaim := { program := "ytcneipheipneaaa", sum := "feaea775d15e076dda55991d7164d4893de31fedec724495b06ac9d2550ef0d1", func := "loop.example/g01035/laws.FnExactIsCustody", spec := "fnExactIsCustody", apart := false, narrowed := true }
def FnExactIsCustodyUptoSaid : Prop := fnExactIsCustodyUptoRow.holds Try.pinned (OpenSpec.upto fnExactIsCustodySpec)

/-- 'laws.FnExactHolderOf', WHERE WHAT IT READS IS OF BULK AT MOST 1048576: true; the input reads as it did. -/
def fnExactHolderOfUptoRow : OpenClaim := { program := "ytcneipheipneaaa", sum := "feaea775d15e076dda55991d7164d4893de31fedec724495b06ac9d2550ef0d1", func := "loop.example/g01035/laws.FnExactHolderOf", spec := "fnExactHolderOf", apart := false, narrowed := true }
def FnExactHolderOfUptoSaid : Prop := fnExactHolderOfUptoRow.holds Try.pinned (OpenSpec.upto fnExactHolderOfSpec)

/-- 'laws.FnExactDaysHeld', WHERE WHAT IT READS IS OF BULK AT MOST 1048576: true; the input reads as it did. -/
def fnExactDaysHeldUptoRow : OpenClaim := { program := "ytcneipheipneaaa", sum := "feaea775d15e076dda55991d7164d4893de31fedec724495b06ac9d2550ef0d1", func := "loop.example/g01035/laws.FnExactDaysHeld", spec := "fnExactDaysHeld", apart := false, narrowed := true }
def FnExactDaysHeldUptoSaid : Prop := fnExactDaysHeldUptoRow.holds Try.pinned (OpenSpec.upto fnExactDaysHeldSpec)

/-- 'laws.FnExactAppendHand', WHERE WHAT IT READS IS OF BULK AT MOST 1048576: true; the input reads as it did. -/
def fnExactAppendHandUptoRow : OpenClaim := { program := "ytcneipheipneaaa", sum := "feaea775d15e076dda55991d7164d4893de31fedec724495b06ac9d2550ef0d1", func := "loop.example/g01035/laws.FnExactAppendHand", spec := "fnExactAppendHand", apart := false, narrowed := true }
def FnExactAppendHandUptoSaid : Prop := fnExactAppendHandUptoRow.holds Try.pinned (OpenSpec.upto fnExactAppendHandSpec)

/-- 'laws.FnExactChainOf', WHERE WHAT IT READS IS OF BULK AT MOST 1048576: true; the input reads as it did. -/
def fnExactChainOfUptoRow : OpenClaim := { program := "ytcneipheipneaaa", sum := "feaea775d15e076dda55991d7164d4893de31fedec724495b06ac9d2550ef0d1", func := "loop.example/g01035/laws.FnExactChainOf", spec := "fnExactChainOf", apart := false, narrowed := true }
def FnExactChainOfUptoSaid : Prop := fnExactChainOfUptoRow.holds Try.pinned (OpenSpec.upto fnExactChainOfSpec)

end Rows
end Go.Proofs.Ytcneipheipneaaa
