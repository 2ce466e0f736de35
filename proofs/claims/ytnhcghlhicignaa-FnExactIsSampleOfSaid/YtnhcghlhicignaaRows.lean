/-
  No cell of these rows narrows 'for every input' (looked for: loops, veiled, ifaces, maps, wideKeys, modest, calm, conditions, laid).
  DERIVED. THE GIVEN ROWS OF THIS SEAT. 9 by the template 'for every input the law returns true; each argument reads behind the call as it read before'; 0 by the template 'total and deterministic' (their statements: YtnhcghlhicignaaTotals.lean).
  GIVEN WITH THE SEED: the statements are not yours to turn. If you find one false, say at which input.
  Laid BY PROGRAM, IN A SANDBOX (cutbox-rows.mjs): the forced cells as the released guide's own fill.sh prints them over the translation ad8075948e247efe… (all of the seat's roots in one cut). By AI agents, Wed Nov 11 2026. No macro, syntax, notation, axiom, sorry.
-/
import Derived.Test.YtnhcghlhicignaaChecked
import GoSem.Claim
import GoSem.ClaimJoined
import GoSem.ClaimMapViews
import Derived.JoinedTies
import Derived.KernelRfl
namespace Go.Proofs.Ytnhcghlhicignaa
/- THE CELL 'sum', in the pinned program and in every row, IS THE sha256 OF THE DUMP (.gsa) THAT YtnhcghlhicignaaProg.lean LOADS. Nothing in Lean hashes anything: it is a label: what it is worth is what the hold of that sum in a sandbox is worth. -/
noncomputable def Try.pinned : Pinned := { name := "ytnhcghlhicignaa", sum := "ad8075948e247efe35262f99e970255dd9d68f6a7015d5967c49c18938cd0c51", checked := Try.checked }
namespace Rows
def none {H : Type} : Left H := { results := [], args := [] }

/-- 'laws.FnExactIsPopulation': WHATEVER THE INPUT: true; the input reads as it did. -/
def fnExactIsPopulationSpec : ChangeSpec := { name := "fnExactIsPopulation", fn := fun _ => fun
  | [d] => { results := [.lit (.bool true)], args := [d] }
  | _ => none }
def fnExactIsPopulationRow : OpenClaim := { program := "ytnhcghlhicignaa", sum := "ad8075948e247efe35262f99e970255dd9d68f6a7015d5967c49c18938cd0c51", func := "loop.example/g01035/laws.FnExactIsPopulation", spec := "fnExactIsPopulation", apart := false }
def FnExactIsPopulationSaid : Prop := fnExactIsPopulationRow.holds Try.pinned (OpenSpec.ofChange fnExactIsPopulationSpec)

/-- ITS FALSE NEIGHBOUR: 'it returns false'. Refute it at one input. -/
def fnExactIsPopulationWrong : ChangeSpec := { name := "fnExactIsPopulation", fn := fun _ => fun
  | [d] => { results := [.lit (.bool false)], args := [d] }
  | _ => none }
def FnExactIsPopulationWrongFalsely : Prop := fnExactIsPopulationRow.holds Try.pinned (OpenSpec.ofChange fnExactIsPopulationWrong)

/-- 'laws.FnExactSampleSize': WHATEVER THE INPUT: true; the input reads as it did. -/
def fnExactSampleSizeSpec : ChangeSpec := { name := "fnExactSampleSize", fn := fun _ => fun
  | [d1, d2, d3] => { results := [.lit (.bool true)], args := [d1, d2, d3] }
  | _ => none }
def fnExactSampleSizeRow : OpenClaim := { program := "ytnhcghlhicignaa", sum := "ad8075948e247efe35262f99e970255dd9d68f6a7015d5967c49c18938cd0c51", func := "loop.example/g01035/laws.FnExactSampleSize", spec := "fnExactSampleSize", apart := false }
def FnExactSampleSizeSaid : Prop := fnExactSampleSizeRow.holds Try.pinned (OpenSpec.ofChange fnExactSampleSizeSpec)

/-- ITS FALSE NEIGHBOUR: 'it returns false'. Refute it at one input. -/
def fnExactSampleSizeWrong : ChangeSpec := { name := "fnExactSampleSize", fn := fun _ => fun
  | [d1, d2, d3] => { results := [.lit (.bool false)], args := [d1, d2, d3] }
  | _ => none }
def FnExactSampleSizeWrongFalsely : Prop := fnExactSampleSizeRow.holds Try.pinned (OpenSpec.ofChange fnExactSampleSizeWrong)

/-- 'laws.FnExactSeedFor': WHATEVER THE INPUT: true; the input reads as it did. -/
def fnExactSeedForSpec : ChangeSpec := { name := "fnExactSeedFor", fn := fun _ => fun
  | [d1, d2] => { results := [.lit (.bool true)], args := [d1, d2] }
  | _ => none }
def fnExactSeedForRow : OpenClaim := { program := "ytnhcghlhicignaa", sum := "ad8075948e247efe35262f99e970255dd9d68f6a7015d5967c49c18938cd0c51", func := "loop.example/g01035/laws.FnExactSeedFor", spec := "fnExactSeedFor", apart := false }
def FnExactSeedForSaid : Prop := fnExactSeedForRow.holds Try.pinned (OpenSpec.ofChange fnExactSeedForSpec)

/-- ITS FALSE NEIGHBOUR: 'it returns false'. Refute it at one input. -/
def fnExactSeedForWrong : ChangeSpec := { name := "fnExactSeedFor", fn := fun _ => fun
  | [d1, d2] => { results := [.lit (.bool false)], args := [d1, d2] }
  | _ => none }
def FnExactSeedForWrongFalsely : Prop := fnExactSeedForRow.holds Try.pinned (OpenSpec.ofChange fnExactSeedForWrong)

/-- 'laws.FnExactEveryNth': WHATEVER THE INPUT: true; the input reads as it did. -/
def fnExactEveryNthSpec : ChangeSpec := { name := "fnExactEveryNth", fn := fun _ => fun
  | [d1, d2, d3] => { results := [.lit (.bool true)], args := [d1, d2, d3] }
  | _ => none }
def fnExactEveryNthRow : OpenClaim := { program := "ytnhcghlhicignaa", sum := "ad8075948e247efe35262f99e970255dd9d68f6a7015d5967c49c18938cd0c51", func := "loop.example/g01035/laws.FnExactEveryNth", spec := "fnExactEveryNth", apart := false }
def FnExactEveryNthSaid : Prop := fnExactEveryNthRow.holds Try.pinned (OpenSpec.ofChange fnExactEveryNthSpec)

/-- ITS FALSE NEIGHBOUR: 'it returns false'. Refute it at one input. -/
def fnExactEveryNthWrong : ChangeSpec := { name := "fnExactEveryNth", fn := fun _ => fun
  | [d1, d2, d3] => { results := [.lit (.bool false)], args := [d1, d2, d3] }
  | _ => none }
def FnExactEveryNthWrongFalsely : Prop := fnExactEveryNthRow.holds Try.pinned (OpenSpec.ofChange fnExactEveryNthWrong)

/-- 'laws.FnExactOrderTaken': WHATEVER THE INPUT: true; the input reads as it did. -/
def fnExactOrderTakenSpec : ChangeSpec := { name := "fnExactOrderTaken", fn := fun _ => fun
  | [d1, d2, d3] => { results := [.lit (.bool true)], args := [d1, d2, d3] }
  | _ => none }
def fnExactOrderTakenRow : OpenClaim := { program := "ytnhcghlhicignaa", sum := "ad8075948e247efe35262f99e970255dd9d68f6a7015d5967c49c18938cd0c51", func := "loop.example/g01035/laws.FnExactOrderTaken", spec := "fnExactOrderTaken", apart := false }
def FnExactOrderTakenSaid : Prop := fnExactOrderTakenRow.holds Try.pinned (OpenSpec.ofChange fnExactOrderTakenSpec)

/-- ITS FALSE NEIGHBOUR: 'it returns false'. Refute it at one input. -/
def fnExactOrderTakenWrong : ChangeSpec := { name := "fnExactOrderTaken", fn := fun _ => fun
  | [d1, d2, d3] => { results := [.lit (.bool false)], args := [d1, d2, d3] }
  | _ => none }
def FnExactOrderTakenWrongFalsely : Prop := fnExactOrderTakenRow.holds Try.pinned (OpenSpec.ofChange fnExactOrderTakenWrong)

/-- 'laws.FnExactNotSampled': WHATEVER THE INPUT: true; the input reads as it did. -/
def fnExactNotSampledSpec : ChangeSpec := { name := "fnExactNotSampled", fn := fun _ => fun
  | [d1, d2] => { results := [.lit (.bool true)], args := [d1, d2] }
  | _ => none }
def fnExactNotSampledRow : OpenClaim := { program := "ytnhcghlhicignaa", sum := "ad8075948e247efe35262f99e970255dd9d68f6a7015d5967c49c18938cd0c51", func := "loop.example/g01035/laws.FnExactNotSampled", spec := "fnExactNotSampled", unfollowed := true, recurses := true, apart := false }
def FnExactNotSampledSaid : Prop := fnExactNotSampledRow.holds Try.pinned (OpenSpec.ofChange fnExactNotSampledSpec)

/-- ITS FALSE NEIGHBOUR: 'it returns false'. Refute it at one input. -/
def fnExactNotSampledWrong : ChangeSpec := { name := "fnExactNotSampled", fn := fun _ => fun
  | [d1, d2] => { results := [.lit (.bool false)], args := [d1, d2] }
  | _ => none }
def FnExactNotSampledWrongFalsely : Prop := fnExactNotSampledRow.holds Try.pinned (OpenSpec.ofChange fnExactNotSampledWrong)

/-- 'laws.FnExactSampleOf': WHATEVER THE INPUT: true; the input reads as it did. -/
def fnExactSampleOfSpec : ChangeSpec := { name := "fnExactSampleOf", fn := fun _ => fun
  | [d1, d2, d3] => { results := [.lit (.bool true)], args := [d1, d2, d3] }
  | _ => none }
def fnExactSampleOfRow : OpenClaim := { program := "ytnhcghlhicignaa", sum := "ad8075948e247efe35262f99e970255dd9d68f6a7015d5967c49c18938cd0c51", func := "loop.example/g01035/laws.FnExactSampleOf", spec := "fnExactSampleOf", recurses := true, apart := false }
def FnExactSampleOfSaid : Prop := fnExactSampleOfRow.holds Try.pinned (OpenSpec.ofChange fnExactSampleOfSpec)

/-- ITS FALSE NEIGHBOUR: 'it returns false'. Refute it at one input. -/
def fnExactSampleOfWrong : ChangeSpec := { name := "fnExactSampleOf", fn := fun _ => fun
  | [d1, d2, d3] => { results := [.lit (.bool false)], args := [d1, d2, d3] }
  | _ => none }
def FnExactSampleOfWrongFalsely : Prop := fnExactSampleOfRow.holds Try.pinned (OpenSpec.ofChange fnExactSampleOfWrong)

/-- 'laws.FnExactIsSampleOf': WHATEVER THE INPUT: true; the input reads as it did. -/
def fnExactIsSampleOfSpec : ChangeSpec := { name := "fnExactIsSampleOf", fn := fun _ => fun
  | [d1, d2, d3, d4] => { results := [.lit (.bool true)], args := [d1, d2, d3, d4] }
  | _ => none }
def fnExactIsSampleOfRow : OpenClaim := { program := "ytnhcghlhicignaa", sum := "ad8075948e247efe35262f99e970255dd9d68f6a7015d5967c49c18938cd0c51", func := "loop.example/g01035/laws.FnExactIsSampleOf", spec := "fnExactIsSampleOf", recurses := true, apart := false }
def FnExactIsSampleOfSaid : Prop := fnExactIsSampleOfRow.holds Try.pinned (OpenSpec.ofChange fnExactIsSampleOfSpec)

/-- ITS FALSE NEIGHBOUR: 'it returns false'. Refute it at one input. -/
def fnExactIsSampleOfWrong : ChangeSpec := { name := "fnExactIsSampleOf", fn := fun _ => fun
  | [d1, d2, d3, d4] => { results := [.lit (.bool false)], args := [d1, d2, d3, d4] }
  | _ => none }
def FnExactIsSampleOfWrongFalsely : Prop := fnExactIsSampleOfRow.holds Try.pinned (OpenSpec.ofChange fnExactIsSampleOfWrong)

/-- 'laws.FnExactSampleBySeries': WHATEVER THE INPUT: true; the input reads as it did. -/
def fnExactSampleBySeriesSpec : ChangeSpec := { name := "fnExactSampleBySeries", fn := fun _ => fun
  | [d1, d2, d3] => { results := [.lit (.bool true)], args := [d1, d2, d3] }
  | _ => none }
def fnExactSampleBySeriesRow : OpenClaim := { program := "ytnhcghlhicignaa", sum := "ad8075948e247efe35262f99e970255dd9d68f6a7015d5967c49c18938cd0c51", func := "loop.example/g01035/laws.FnExactSampleBySeries", spec := "fnExactSampleBySeries", recurses := true, apart := false }
def FnExactSampleBySeriesSaid : Prop := fnExactSampleBySeriesRow.holds Try.pinned (OpenSpec.ofChange fnExactSampleBySeriesSpec)

/-- ITS FALSE NEIGHBOUR: 'it returns false'. Refute it at one input. -/
def fnExactSampleBySeriesWrong : ChangeSpec := { name := "fnExactSampleBySeries", fn := fun _ => fun
  | [d1, d2, d3] => { results := [.lit (.bool false)], args := [d1, d2, d3] }
  | _ => none }
def FnExactSampleBySeriesWrongFalsely : Prop := fnExactSampleBySeriesRow.holds Try.pinned (OpenSpec.ofChange fnExactSampleBySeriesWrong)

/- THE SECOND FORM. 'bulk': how many values and letters a reading holds, each counted each time it is reached (what is shared counts as often as it is met; a slice's spare places count too). A statement '..UptoSaid' is the law's where the arguments, and the package variables that the reading takes, are together of bulk at most 1048576: NARROWER than '..Said'. Prove '..Said' where nothing that the law and all that it calls make is longer than what came in: it says more and counts as full. Else prove '..UptoSaid'. A law counts once. -/
mutual
def uptoBulk {H : Type} : DataW H → Nat
  | .lit (.string bytes) => bytes.length + 1
  | .lit _ => 1
  | .nil => 1
  | .ptr d => uptoBulk d + 1
  | .slice elems spare => uptoBulkAll elems + uptoBulkAll spare + 1
  | .agg parts => uptoBulkAll parts + 1
  | .iface _ d => uptoBulk d + 1
  | .map entries => uptoBulkEntries entries + 1
  | .held _ => 1
def uptoBulkAll {H : Type} : List (DataW H) → Nat
  | [] => 0
  | d :: r => uptoBulk d + uptoBulkAll r
def uptoBulkEntries {H : Type} : List (Lit × DataW H) → Nat
  | [] => 0
  | x :: r => uptoBulkEntry x + uptoBulkEntries r
def uptoBulkEntry {H : Type} : Lit × DataW H → Nat
  | (.string bytes, d) => bytes.length + uptoBulk d + 1
  | (_, d) => uptoBulk d + 1
 end
def uptoSmall : (H : Type) → List (DataW H) → Bool := fun _ ds => decide (uptoBulkAll ds ≤ 1048576)
def OpenSpec.upto (s : _root_.Go.ChangeSpec) : _root_.Go.OpenSpec := { _root_.Go.OpenSpec.ofChange s with cond := some uptoSmall }

/-- 'laws.FnExactIsPopulation', WHERE WHAT IT READS IS OF BULK AT MOST 1048576: true; the input reads as it did. -/
def fnExactIsPopulationUptoRow : OpenClaim := { program := "ytnhcghlhicignaa", sum := "ad8075948e247efe35262f99e970255dd9d68f6a7015d5967c49c18938cd0c51", func := "loop.example/g01035/laws.FnExactIsPopulation", spec := "fnExactIsPopulation", apart := false, narrowed := true }
def FnExactIsPopulationUptoSaid : Prop := fnExactIsPopulationUptoRow.holds Try.pinned (OpenSpec.upto fnExactIsPopulationSpec)

/-- 'laws.FnExactSampleSize', WHERE WHAT IT READS IS OF BULK AT MOST 1048576: true; the input reads as it did. -/
def fnExactSampleSizeUptoRow : OpenClaim := { program := "ytnhcghlhicignaa", sum := "ad8075948e247efe35262f99e970255dd9d68f6a7015d5967c49c18938cd0c51", func := "loop.example/g01035/laws.FnExactSampleSize", spec := "fnExactSampleSize", apart := false, narrowed := true }
def FnExactSampleSizeUptoSaid : Prop := fnExactSampleSizeUptoRow.holds Try.pinned (OpenSpec.upto fnExactSampleSizeSpec)

/-- 'laws.FnExactSeedFor', WHERE WHAT IT READS IS OF BULK AT MOST 1048576: true; the input reads as it did. -/
def fnExactSeedForUptoRow : OpenClaim := { program := "ytnhcghlhicignaa", sum := "ad8075948e247efe35262f99e970255dd9d68f6a7015d5967c49c18938cd0c51", func := "loop.example/g01035/laws.FnExactSeedFor", spec := "fnExactSeedFor", apart := false, narrowed := true }
def FnExactSeedForUptoSaid : Prop := fnExactSeedForUptoRow.holds Try.pinned (OpenSpec.upto fnExactSeedForSpec)

/-- 'laws.FnExactEveryNth', WHERE WHAT IT READS IS OF BULK AT MOST 1048576: true; the input reads as it did. -/
def fnExactEveryNthUptoRow : OpenClaim := { program := "ytnhcghlhicignaa", sum := "ad8075948e247efe35262f99e970255dd9d68f6a7015d5967c49c18938cd0c51", func := "loop.example/g01035/laws.FnExactEveryNth", spec := "fnExactEveryNth", apart := false, narrowed := true }
def FnExactEveryNthUptoSaid : Prop := fnExactEveryNthUptoRow.holds Try.pinned (OpenSpec.upto fnExactEveryNthSpec)

/-- 'laws.FnExactOrderTaken', WHERE WHAT IT READS IS OF BULK AT MOST 1048576: true; the input reads as it did. -/
def fnExactOrderTakenUptoRow : OpenClaim := { program := "ytnhcghlhicignaa", sum := "ad8075948e247efe35262f99e970255dd9d68f6a7015d5967c49c18938cd0c51", func := "loop.example/g01035/laws.FnExactOrderTaken", spec := "fnExactOrderTaken", apart := false, narrowed := true }
def FnExactOrderTakenUptoSaid : Prop := fnExactOrderTakenUptoRow.holds Try.pinned (OpenSpec.upto fnExactOrderTakenSpec)

/-- 'laws.FnExactNotSampled', WHERE WHAT IT READS IS OF BULK AT MOST 1048576: true; the input reads as it did. -/
def fnExactNotSampledUptoRow : OpenClaim := { program := "ytnhcghlhicignaa", sum := "ad8075948e247efe35262f99e970255dd9d68f6a7015d5967c49c18938cd0c51", func := "loop.example/g01035/laws.FnExactNotSampled", spec := "fnExactNotSampled", unfollowed := true, recurses := true, apart := false, narrowed := true }
def FnExactNotSampledUptoSaid : Prop := fnExactNotSampledUptoRow.holds Try.pinned (OpenSpec.upto fnExactNotSampledSpec)

/-- 'laws.FnExactSampleOf', WHERE WHAT IT READS IS OF BULK AT MOST 1048576: true; the input reads as it did. -/
def fnExactSampleOfUptoRow : OpenClaim := { program := "ytnhcghlhicignaa", sum := "ad8075948e247efe35262f99e970255dd9d68f6a7015d5967c49c18938cd0c51", func := "loop.example/g01035/laws.FnExactSampleOf", spec := "fnExactSampleOf", recurses := true, apart := false, narrowed := true }
def FnExactSampleOfUptoSaid : Prop := fnExactSampleOfUptoRow.holds Try.pinned (OpenSpec.upto fnExactSampleOfSpec)

/-- 'laws.FnExactIsSampleOf', WHERE WHAT IT READS IS OF BULK AT MOST 1048576: true; the input reads as it did. -/
def fnExactIsSampleOfUptoRow : OpenClaim := { program := "ytnhcghlhicignaa", sum := "ad8075948e247efe35262f99e970255dd9d68f6a7015d5967c49c18938cd0c51", func := "loop.example/g01035/laws.FnExactIsSampleOf", spec := "fnExactIsSampleOf", recurses := true, apart := false, narrowed := true }
def FnExactIsSampleOfUptoSaid : Prop := fnExactIsSampleOfUptoRow.holds Try.pinned (OpenSpec.upto fnExactIsSampleOfSpec)

/-- 'laws.FnExactSampleBySeries', WHERE WHAT IT READS IS OF BULK AT MOST 1048576: true; the input reads as it did. -/
def fnExactSampleBySeriesUptoRow : OpenClaim := { program := "ytnhcghlhicignaa", sum := "ad8075948e247efe35262f99e970255dd9d68f6a7015d5967c49c18938cd0c51", func := "loop.example/g01035/laws.FnExactSampleBySeries", spec := "fnExactSampleBySeries", recurses := true, apart := false, narrowed := true }
def FnExactSampleBySeriesUptoSaid : Prop := fnExactSampleBySeriesUptoRow.holds Try.pinned (OpenSpec.upto fnExactSampleBySeriesSpec)

end Rows
end Go.Proofs.Ytnhcghlhicignaa
