/-
  No cell of these rows narrows 'for every input' (looked for: loops, veiled, ifaces, maps, wideKeys, modest, calm, conditions, laid).
  DERIVED. THE GIVEN ROWS OF THIS SEAT. 9 by the template 'for every input the law returns true; each argument reads behind the call as it read before'; 0 by the template 'total and deterministic' (their statements: YtkocblkodhfjiaaTotals.lean).
  GIVEN WITH THE SEED: the statements are not yours to turn. If you find one false, say at which input.
  Laid BY PROGRAM, IN A SANDBOX (cutbox-rows.mjs): the forced cells as the released guide's own fill.sh prints them over the translation 21f394f06bb27f70… (all of the seat's roots in one cut). By AI agents, Wed Nov 11 2026. No macro, syntax, notation, axiom, sorry.
-/
import Derived.Test.YtkocblkodhfjiaaChecked
import GoSem.Claim
import GoSem.ClaimJoined
import GoSem.ClaimMapViews
import Derived.JoinedTies
import Derived.KernelRfl
namespace Go.Proofs.Ytkocblkodhfjiaa
/- THE CELL 'sum', in the pinned program and in every row, IS THE sha256 OF THE DUMP (.gsa) THAT YtkocblkodhfjiaaProg.lean LOADS. Nothing in Lean hashes anything: it is a label: what it is worth is what the hold of that sum in a sandbox is worth. -/
noncomputable def Try.pinned : Pinned := { name := "ytkocblkodhfjiaa", sum := "21f394f06bb27f703637e6fdb6d78c457ac9b3a0f5c50b40a9cd86237d83d62a", checked := Try.checked }
namespace Rows
def none {H : Type} : Left H := { results := [], args := [] }

/-- 'laws.FnExactIsTariff': WHATEVER THE INPUT: true; the input reads as it did. -/
def fnExactIsTariffSpec : ChangeSpec := { name := "fnExactIsTariff", fn := fun _ => fun
  | [d] => { results := [.lit (.bool true)], args := [d] }
  | _ => none }
def fnExactIsTariffRow : OpenClaim := { program := "ytkocblkodhfjiaa", sum := "21f394f06bb27f703637e6fdb6d78c457ac9b3a0f5c50b40a9cd86237d83d62a", func := "loop.example/g01035/laws.FnExactIsTariff", spec := "fnExactIsTariff", apart := false }
def FnExactIsTariffSaid : Prop := fnExactIsTariffRow.holds Try.pinned (OpenSpec.ofChange fnExactIsTariffSpec)

/-- ITS FALSE NEIGHBOUR: 'it returns false'. Refute it at one input. -/
def fnExactIsTariffWrong : ChangeSpec := { name := "fnExactIsTariff", fn := fun _ => fun
  | [d] => { results := [.lit (.bool false)], args := [d] }
  | _ => none }
def FnExactIsTariffWrongFalsely : Prop := fnExactIsTariffRow.holds Try.pinned (OpenSpec.ofChange fnExactIsTariffWrong)

/-- 'laws.FnExactFeeOf': WHATEVER THE INPUT: true; the input reads as it did. -/
def fnExactFeeOfSpec : ChangeSpec := { name := "fnExactFeeOf", fn := fun _ => fun
  | [d1, d2] => { results := [.lit (.bool true)], args := [d1, d2] }
  | _ => none }
def fnExactFeeOfRow : OpenClaim := { program := "ytkocblkodhfjiaa", sum := "21f394f06bb27f703637e6fdb6d78c457ac9b3a0f5c50b40a9cd86237d83d62a", func := "loop.example/g01035/laws.FnExactFeeOf", spec := "fnExactFeeOf", apart := false }
def FnExactFeeOfSaid : Prop := fnExactFeeOfRow.holds Try.pinned (OpenSpec.ofChange fnExactFeeOfSpec)

/-- ITS FALSE NEIGHBOUR: 'it returns false'. Refute it at one input. -/
def fnExactFeeOfWrong : ChangeSpec := { name := "fnExactFeeOf", fn := fun _ => fun
  | [d1, d2] => { results := [.lit (.bool false)], args := [d1, d2] }
  | _ => none }
def FnExactFeeOfWrongFalsely : Prop := fnExactFeeOfRow.holds Try.pinned (OpenSpec.ofChange fnExactFeeOfWrong)

/-- 'laws.FnExactPagesFor': WHATEVER THE INPUT: true; the input reads as it did. -/
def fnExactPagesForSpec : ChangeSpec := { name := "fnExactPagesFor", fn := fun _ => fun
  | [d1, d2, d3] => { results := [.lit (.bool true)], args := [d1, d2, d3] }
  | _ => none }
def fnExactPagesForRow : OpenClaim := { program := "ytkocblkodhfjiaa", sum := "21f394f06bb27f703637e6fdb6d78c457ac9b3a0f5c50b40a9cd86237d83d62a", func := "loop.example/g01035/laws.FnExactPagesFor", spec := "fnExactPagesFor", apart := false }
def FnExactPagesForSaid : Prop := fnExactPagesForRow.holds Try.pinned (OpenSpec.ofChange fnExactPagesForSpec)

/-- ITS FALSE NEIGHBOUR: 'it returns false'. Refute it at one input. -/
def fnExactPagesForWrong : ChangeSpec := { name := "fnExactPagesFor", fn := fun _ => fun
  | [d1, d2, d3] => { results := [.lit (.bool false)], args := [d1, d2, d3] }
  | _ => none }
def FnExactPagesForWrongFalsely : Prop := fnExactPagesForRow.holds Try.pinned (OpenSpec.ofChange fnExactPagesForWrong)

/-- 'laws.FnExactAreBills': WHATEVER THE INPUT: true; the input reads as it did. -/
def fnExactAreBillsSpec : ChangeSpec := { name := "fnExactAreBills", fn := fun _ => fun
  | [d] => { results := [.lit (.bool true)], args := [d] }
  | _ => none }
def fnExactAreBillsRow : OpenClaim := { program := "ytkocblkodhfjiaa", sum := "21f394f06bb27f703637e6fdb6d78c457ac9b3a0f5c50b40a9cd86237d83d62a", func := "loop.example/g01035/laws.FnExactAreBills", spec := "fnExactAreBills", apart := false }
def FnExactAreBillsSaid : Prop := fnExactAreBillsRow.holds Try.pinned (OpenSpec.ofChange fnExactAreBillsSpec)

/-- ITS FALSE NEIGHBOUR: 'it returns false'. Refute it at one input. -/
def fnExactAreBillsWrong : ChangeSpec := { name := "fnExactAreBills", fn := fun _ => fun
  | [d] => { results := [.lit (.bool false)], args := [d] }
  | _ => none }
def FnExactAreBillsWrongFalsely : Prop := fnExactAreBillsRow.holds Try.pinned (OpenSpec.ofChange fnExactAreBillsWrong)

/-- 'laws.FnExactCheaperTariff': WHATEVER THE INPUT: true; the input reads as it did. -/
def fnExactCheaperTariffSpec : ChangeSpec := { name := "fnExactCheaperTariff", fn := fun _ => fun
  | [d1, d2, d3] => { results := [.lit (.bool true)], args := [d1, d2, d3] }
  | _ => none }
def fnExactCheaperTariffRow : OpenClaim := { program := "ytkocblkodhfjiaa", sum := "21f394f06bb27f703637e6fdb6d78c457ac9b3a0f5c50b40a9cd86237d83d62a", func := "loop.example/g01035/laws.FnExactCheaperTariff", spec := "fnExactCheaperTariff", apart := false }
def FnExactCheaperTariffSaid : Prop := fnExactCheaperTariffRow.holds Try.pinned (OpenSpec.ofChange fnExactCheaperTariffSpec)

/-- ITS FALSE NEIGHBOUR: 'it returns false'. Refute it at one input. -/
def fnExactCheaperTariffWrong : ChangeSpec := { name := "fnExactCheaperTariff", fn := fun _ => fun
  | [d1, d2, d3] => { results := [.lit (.bool false)], args := [d1, d2, d3] }
  | _ => none }
def FnExactCheaperTariffWrongFalsely : Prop := fnExactCheaperTariffRow.holds Try.pinned (OpenSpec.ofChange fnExactCheaperTariffWrong)

/-- 'laws.FnExactPayBill': WHATEVER THE INPUT: true; the input reads as it did. -/
def fnExactPayBillSpec : ChangeSpec := { name := "fnExactPayBill", fn := fun _ => fun
  | [d1, d2, d3] => { results := [.lit (.bool true)], args := [d1, d2, d3] }
  | _ => none }
def fnExactPayBillRow : OpenClaim := { program := "ytkocblkodhfjiaa", sum := "21f394f06bb27f703637e6fdb6d78c457ac9b3a0f5c50b40a9cd86237d83d62a", func := "loop.example/g01035/laws.FnExactPayBill", spec := "fnExactPayBill", unfollowed := true, recurses := true, apart := false }
def FnExactPayBillSaid : Prop := fnExactPayBillRow.holds Try.pinned (OpenSpec.ofChange fnExactPayBillSpec)

/-- ITS FALSE NEIGHBOUR: 'it returns false'. Refute it at one input. -/
def fnExactPayBillWrong : ChangeSpec := { name := "fnExactPayBill", fn := fun _ => fun
  | [d1, d2, d3] => { results := [.lit (.bool false)], args := [d1, d2, d3] }
  | _ => none }
def FnExactPayBillWrongFalsely : Prop := fnExactPayBillRow.holds Try.pinned (OpenSpec.ofChange fnExactPayBillWrong)

/-- 'laws.FnExactOpenFees': WHATEVER THE INPUT: true; the input reads as it did. -/
def fnExactOpenFeesSpec : ChangeSpec := { name := "fnExactOpenFees", fn := fun _ => fun
  | [d1, d2] => { results := [.lit (.bool true)], args := [d1, d2] }
  | _ => none }
def fnExactOpenFeesRow : OpenClaim := { program := "ytkocblkodhfjiaa", sum := "21f394f06bb27f703637e6fdb6d78c457ac9b3a0f5c50b40a9cd86237d83d62a", func := "loop.example/g01035/laws.FnExactOpenFees", spec := "fnExactOpenFees", apart := false }
def FnExactOpenFeesSaid : Prop := fnExactOpenFeesRow.holds Try.pinned (OpenSpec.ofChange fnExactOpenFeesSpec)

/-- ITS FALSE NEIGHBOUR: 'it returns false'. Refute it at one input. -/
def fnExactOpenFeesWrong : ChangeSpec := { name := "fnExactOpenFees", fn := fun _ => fun
  | [d1, d2] => { results := [.lit (.bool false)], args := [d1, d2] }
  | _ => none }
def FnExactOpenFeesWrongFalsely : Prop := fnExactOpenFeesRow.holds Try.pinned (OpenSpec.ofChange fnExactOpenFeesWrong)

/-- 'laws.FnExactOverPaid': WHATEVER THE INPUT: true; the input reads as it did. -/
def fnExactOverPaidSpec : ChangeSpec := { name := "fnExactOverPaid", fn := fun _ => fun
  | [d1, d2] => { results := [.lit (.bool true)], args := [d1, d2] }
  | _ => none }
def fnExactOverPaidRow : OpenClaim := { program := "ytkocblkodhfjiaa", sum := "21f394f06bb27f703637e6fdb6d78c457ac9b3a0f5c50b40a9cd86237d83d62a", func := "loop.example/g01035/laws.FnExactOverPaid", spec := "fnExactOverPaid", apart := false }
def FnExactOverPaidSaid : Prop := fnExactOverPaidRow.holds Try.pinned (OpenSpec.ofChange fnExactOverPaidSpec)

/-- ITS FALSE NEIGHBOUR: 'it returns false'. Refute it at one input. -/
def fnExactOverPaidWrong : ChangeSpec := { name := "fnExactOverPaid", fn := fun _ => fun
  | [d1, d2] => { results := [.lit (.bool false)], args := [d1, d2] }
  | _ => none }
def FnExactOverPaidWrongFalsely : Prop := fnExactOverPaidRow.holds Try.pinned (OpenSpec.ofChange fnExactOverPaidWrong)

/-- 'laws.FnExactSpreadPayment': WHATEVER THE INPUT: true; the input reads as it did. -/
def fnExactSpreadPaymentSpec : ChangeSpec := { name := "fnExactSpreadPayment", fn := fun _ => fun
  | [d1, d2, d3] => { results := [.lit (.bool true)], args := [d1, d2, d3] }
  | _ => none }
def fnExactSpreadPaymentRow : OpenClaim := { program := "ytkocblkodhfjiaa", sum := "21f394f06bb27f703637e6fdb6d78c457ac9b3a0f5c50b40a9cd86237d83d62a", func := "loop.example/g01035/laws.FnExactSpreadPayment", spec := "fnExactSpreadPayment", unfollowed := true, recurses := true, apart := false }
def FnExactSpreadPaymentSaid : Prop := fnExactSpreadPaymentRow.holds Try.pinned (OpenSpec.ofChange fnExactSpreadPaymentSpec)

/-- ITS FALSE NEIGHBOUR: 'it returns false'. Refute it at one input. -/
def fnExactSpreadPaymentWrong : ChangeSpec := { name := "fnExactSpreadPayment", fn := fun _ => fun
  | [d1, d2, d3] => { results := [.lit (.bool false)], args := [d1, d2, d3] }
  | _ => none }
def FnExactSpreadPaymentWrongFalsely : Prop := fnExactSpreadPaymentRow.holds Try.pinned (OpenSpec.ofChange fnExactSpreadPaymentWrong)

/- THE SECOND FORM. 'bulk': how many values and letters a reading holds, each counted each time it is reached (what is shared counts as often as it is met; a slice's spare places count too). A statement '..UptoSaid' is the law's where the arguments, and the package variables that the reading takes, are together of bulk at most 1048576: NARROWER than '..Said'. Prove '..Said' where nothing that the law and all that it calls make is longer than what came in: it says more and counts as full. Else prove '..UptoSaid'. A law counts once. -/
mutual
def uptoBulk {H : Type} : DataW H → Nat
  | .lit (.string bytes) => bytes.length + 1
  | .lit _ => 1
  | .nil => 1
  | .ptr d => uptoBulk d + 1
  | .slice elems spare => uptoBulkAll elems + uptoBulkAll spare + 1
  | .agg parts => uptoBulkAll parts + 1
  | .iface _ d => uptoBulk d + 1
  | .map entries => uptoBulkEntries entries + 1
  | .held _ => 1
def uptoBulkAll {H : Type} : List (DataW H) → Nat
  | [] => 0
  | d :: r => uptoBulk d + uptoBulkAll r
def uptoBulkEntries {H : Type} : List (Lit × DataW H) → Nat
  | [] => 0
  | x :: r => uptoBulkEntry x + uptoBulkEntries r
def uptoBulkEntry {H : Type} : Lit × DataW H → Nat
  | (.string bytes, d) => bytes.length + uptoBulk d + 1
  | (_, d) => uptoBulk d + 1
 end
def uptoSmall : (H : Type) → List (DataW H) → Bool := fun _ ds => decide (uptoBulkAll ds ≤ 1048576)
def OpenSpec.upto (s : _root_.Go.ChangeSpec) : _root_.Go.OpenSpec := { _root_.Go.OpenSpec.ofChange s with cond := some uptoSmall }

/-- 'laws.FnExactIsTariff', WHERE WHAT IT READS IS OF BULK AT MOST 1048576: true; the input reads as it did. -/
def fnExactIsTariffUptoRow : OpenClaim := { program := "ytkocblkodhfjiaa", sum := "21f394f06bb27f703637e6fdb6d78c457ac9b3a0f5c50b40a9cd86237d83d62a", func := "loop.example/g01035/laws.FnExactIsTariff", spec := "fnExactIsTariff", apart := false, narrowed := true }
def FnExactIsTariffUptoSaid : Prop := fnExactIsTariffUptoRow.holds Try.pinned (OpenSpec.upto fnExactIsTariffSpec)

/-- 'laws.FnExactFeeOf', WHERE WHAT IT READS IS OF BULK AT MOST 1048576: true; the input reads as it did. -/
def fnExactFeeOfUptoRow : OpenClaim := { program := "ytkocblkodhfjiaa", sum := "21f394f06bb27f703637e6fdb6d78c457ac9b3a0f5c50b40a9cd86237d83d62a", func := "loop.example/g01035/laws.FnExactFeeOf", spec := "fnExactFeeOf", apart := false, narrowed := true }
def FnExactFeeOfUptoSaid : Prop := fnExactFeeOfUptoRow.holds Try.pinned (OpenSpec.upto fnExactFeeOfSpec)

/-- 'laws.FnExactPagesFor', WHERE WHAT IT READS IS OF BULK AT MOST 1048576: true; the input reads as it did. -/
def fnExactPagesForUptoRow : OpenClaim := { program := "ytkocblkodhfjiaa", sum := "21f394f06bb27f703637e6fdb6d78c457ac9b3a0f5c50b40a9cd86237d83d62a", func := "loop.example/g01035/laws.FnExactPagesFor", spec := "fnExactPagesFor", apart := false, narrowed := true }
def FnExactPagesForUptoSaid : Prop := fnExactPagesForUptoRow.holds Try.pinned (OpenSpec.upto fnExactPagesForSpec)

/-- 'laws.FnExactAreBills', WHERE WHAT IT READS IS OF BULK AT MOST 1048576: true; the input reads as it did. -/
def fnExactAreBillsUptoRow : OpenClaim := { program := "ytkocblkodhfjiaa", sum := "21f394f06bb27f703637e6fdb6d78c457ac9b3a0f5c50b40a9cd86237d83d62a", func := "loop.example/g01035/laws.FnExactAreBills", spec := "fnExactAreBills", apart := false, narrowed := true }
def FnExactAreBillsUptoSaid : Prop := fnExactAreBillsUptoRow.holds Try.pinned (OpenSpec.upto fnExactAreBillsSpec)

/-- 'laws.FnExactCheaperTariff', WHERE WHAT IT READS IS OF BULK AT MOST 1048576: true; the input reads as it did. -/
def fnExactCheaperTariffUptoRow : OpenClaim := { program := "ytkocblkodhfjiaa", sum := "21f394f06bb27f703637e6fdb6d78c457ac9b3a0f5c50b40a9cd86237d83d62a", func := "loop.example/g01035/laws.FnExactCheaperTariff", spec := "fnExactCheaperTariff", apart := false, narrowed := true }
def FnExactCheaperTariffUptoSaid : Prop := fnExactCheaperTariffUptoRow.holds Try.pinned (OpenSpec.upto fnExactCheaperTariffSpec)

/-- 'laws.FnExactPayBill', WHERE WHAT IT READS IS OF BULK AT MOST 1048576: true; the input reads as it did. -/
def fnExactPayBillUptoRow : OpenClaim := { program := "ytkocblkodhfjiaa", sum := "21f394f06bb27f703637e6fdb6d78c457ac9b3a0f5c50b40a9cd86237d83d62a", func := "loop.example/g01035/laws.FnExactPayBill", spec := "fnExactPayBill", unfollowed := true, recurses := true, apart := false, narrowed := true }
def FnExactPayBillUptoSaid : Prop := fnExactPayBillUptoRow.holds Try.pinned (OpenSpec.upto fnExactPayBillSpec)

/-- 'laws.FnExactOpenFees', WHERE WHAT IT READS IS OF BULK AT MOST 1048576: true; the input reads as it did. -/
def fnExactOpenFeesUptoRow : OpenClaim := { program := "ytkocblkodhfjiaa", sum := "21f394f06bb27f703637e6fdb6d78c457ac9b3a0f5c50b40a9cd86237d83d62a", func := "loop.example/g01035/laws.FnExactOpenFees", spec := "fnExactOpenFees", apart := false, narrowed := true }
def FnExactOpenFeesUptoSaid : Prop := fnExactOpenFeesUptoRow.holds Try.pinned (OpenSpec.upto fnExactOpenFeesSpec)

/-- 'laws.FnExactOverPaid', WHERE WHAT IT READS IS OF BULK AT MOST 1048576: true; the input reads as it did. -/
def fnExactOverPaidUptoRow : OpenClaim := { program := "ytkocblkodhfjiaa", sum := "21f394f06bb27f703637e6fdb6d78c457ac9b3a0f5c50b40a9cd86237d83d62a", func := "loop.example/g01035/laws.FnExactOverPaid", spec := "fnExactOverPaid", apart := false, narrowed := true }
def FnExactOverPaidUptoSaid : Prop := fnExactOverPaidUptoRow.holds Try.pinned (OpenSpec.upto fnExactOverPaidSpec)

/-- 'laws.FnExactSpreadPayment', WHERE WHAT IT READS IS OF BULK AT MOST 1048576: true; the input reads as it did. -/
def fnExactSpreadPaymentUptoRow : OpenClaim := { program := "ytkocblkodhfjiaa", sum := "21f394f06bb27f703637e6fdb6d78c457ac9b3a0f5c50b40a9cd86237d83d62a", func := "loop.example/g01035/laws.FnExactSpreadPayment", spec := "fnExactSpreadPayment", unfollowed := true, recurses := true, apart := false, narrowed := true }
def FnExactSpreadPaymentUptoSaid : Prop := fnExactSpreadPaymentUptoRow.holds Try.pinned (OpenSpec.upto fnExactSpreadPaymentSpec)

end Rows
end Go.Proofs.Ytkocblkodhfjiaa
