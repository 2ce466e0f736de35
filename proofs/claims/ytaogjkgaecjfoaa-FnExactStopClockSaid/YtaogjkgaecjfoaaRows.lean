/-
  No cell of these rows narrows 'for every input' (looked for: loops, veiled, ifaces, maps, wideKeys, modest, calm, conditions, laid).
  DERIVED. THE GIVEN ROWS OF THIS SEAT. 10 by the template 'for every input the law returns true; each argument reads behind the call as it read before'; 0 by the template 'total and deterministic' (their statements: YtaogjkgaecjfoaaTotals.lean).
  GIVEN WITH THE SEED: the statements are not yours to turn. If you find one false, say at which input.
  Laid BY PROGRAM, IN A SANDBOX (cutbox-rows.mjs): the forced cells as the released guide's own fill.sh prints them over the translation ab2a45868194ce3d… (all of the seat's roots in one cut). By AI agents, Wed Nov 11 2026. No macro, syntax, notation, axiom, sorry.
-/
import Derived.Test.YtaogjkgaecjfoaaChecked
import GoSem.Claim
import GoSem.ClaimJoined
import GoSem.ClaimMapViews
import Derived.JoinedTies
import Derived.KernelRfl
namespace Go.Proofs.Ytaogjkgaecjfoaa
/- THE CELL 'sum', in the pinned program and in every row, IS THE sha256 OF THE DUMP (.gsa) THAT YtaogjkgaecjfoaaProg.lean LOADS. Nothing in Lean hashes anything: it is a label: what it is worth is what the hold of that sum in a sandbox is worth. -/
noncomputable def Try.pinned : Pinned := { name := "ytaogjkgaecjfoaa", sum := "ab2a45868194ce3d44ff7f61b04f7226a9e7074cc1577bbbcf98be7c0bb912e3", checked := Try.checked }
namespace Rows
def none {H : Type} : Left H := { results := [], args := [] }

/-- 'laws.FnExactIsWorkingDay': WHATEVER THE INPUT: true; the input reads as it did. -/
def fnExactIsWorkingDaySpec : ChangeSpec := { name := "fnExactIsWorkingDay", fn := fun _ => fun
  | [d] => { results := [.lit (.bool true)], args := [d] }
  | _ => none }
def fnExactIsWorkingDayRow : OpenClaim := { program := "ytaogjkgaecjfoaa", sum := "ab2a45868194ce3d44ff7f61b04f7226a9e7074cc1577bbbcf98be7c0bb912e3", func := "loop.example/g01035/laws.FnExactIsWorkingDay", spec := "fnExactIsWorkingDay", apart := false }
def FnExactIsWorkingDaySaid : Prop := fnExactIsWorkingDayRow.holds Try.pinned (OpenSpec.ofChange fnExactIsWorkingDaySpec)

/-- ITS FALSE NEIGHBOUR: 'it returns false'. Refute it at one input. -/
def fnExactIsWorkingDayWrong : ChangeSpec := { name := "fnExactIsWorkingDay", fn := fun _ => fun
  | [d] => { results := [.lit (.bool false)], args := [d] }
  | _ => none }
def FnExactIsWorkingDayWrongFalsely : Prop := fnExactIsWorkingDayRow.holds Try.pinned (OpenSpec.ofChange fnExactIsWorkingDayWrong)

/-- 'laws.FnExactWorkingDays': WHATEVER THE INPUT: true; the input reads as it did. -/
def fnExactWorkingDaysSpec : ChangeSpec := { name := "fnExactWorkingDays", fn := fun _ => fun
  | [d1, d2] => { results := [.lit (.bool true)], args := [d1, d2] }
  | _ => none }
def fnExactWorkingDaysRow : OpenClaim := { program := "ytaogjkgaecjfoaa", sum := "ab2a45868194ce3d44ff7f61b04f7226a9e7074cc1577bbbcf98be7c0bb912e3", func := "loop.example/g01035/laws.FnExactWorkingDays", spec := "fnExactWorkingDays", apart := false }
def FnExactWorkingDaysSaid : Prop := fnExactWorkingDaysRow.holds Try.pinned (OpenSpec.ofChange fnExactWorkingDaysSpec)

/-- ITS FALSE NEIGHBOUR: 'it returns false'. Refute it at one input. -/
def fnExactWorkingDaysWrong : ChangeSpec := { name := "fnExactWorkingDays", fn := fun _ => fun
  | [d1, d2] => { results := [.lit (.bool false)], args := [d1, d2] }
  | _ => none }
def FnExactWorkingDaysWrongFalsely : Prop := fnExactWorkingDaysRow.holds Try.pinned (OpenSpec.ofChange fnExactWorkingDaysWrong)

/-- 'laws.FnExactAddWorkingDays': WHATEVER THE INPUT: true; the input reads as it did. -/
def fnExactAddWorkingDaysSpec : ChangeSpec := { name := "fnExactAddWorkingDays", fn := fun _ => fun
  | [d1, d2] => { results := [.lit (.bool true)], args := [d1, d2] }
  | _ => none }
def fnExactAddWorkingDaysRow : OpenClaim := { program := "ytaogjkgaecjfoaa", sum := "ab2a45868194ce3d44ff7f61b04f7226a9e7074cc1577bbbcf98be7c0bb912e3", func := "loop.example/g01035/laws.FnExactAddWorkingDays", spec := "fnExactAddWorkingDays", unfollowed := true, recurses := true, apart := false }
def FnExactAddWorkingDaysSaid : Prop := fnExactAddWorkingDaysRow.holds Try.pinned (OpenSpec.ofChange fnExactAddWorkingDaysSpec)

/-- ITS FALSE NEIGHBOUR: 'it returns false'. Refute it at one input. -/
def fnExactAddWorkingDaysWrong : ChangeSpec := { name := "fnExactAddWorkingDays", fn := fun _ => fun
  | [d1, d2] => { results := [.lit (.bool false)], args := [d1, d2] }
  | _ => none }
def FnExactAddWorkingDaysWrongFalsely : Prop := fnExactAddWorkingDaysRow.holds Try.pinned (OpenSpec.ofChange fnExactAddWorkingDaysWrong)

/-- 'laws.FnExactIsRequest': WHATEVER THE INPUT: true; the input reads as it did. -/
def fnExactIsRequestSpec : ChangeSpec := { name := "fnExactIsRequest", fn := fun _ => fun
  | [d] => { results := [.lit (.bool true)], args := [d] }
  | _ => none }
def fnExactIsRequestRow : OpenClaim := { program := "ytaogjkgaecjfoaa", sum := "ab2a45868194ce3d44ff7f61b04f7226a9e7074cc1577bbbcf98be7c0bb912e3", func := "loop.example/g01035/laws.FnExactIsRequest", spec := "fnExactIsRequest", apart := false }
def FnExactIsRequestSaid : Prop := fnExactIsRequestRow.holds Try.pinned (OpenSpec.ofChange fnExactIsRequestSpec)

/-- ITS FALSE NEIGHBOUR: 'it returns false'. Refute it at one input. -/
def fnExactIsRequestWrong : ChangeSpec := { name := "fnExactIsRequest", fn := fun _ => fun
  | [d] => { results := [.lit (.bool false)], args := [d] }
  | _ => none }
def FnExactIsRequestWrongFalsely : Prop := fnExactIsRequestRow.holds Try.pinned (OpenSpec.ofChange fnExactIsRequestWrong)

/-- 'laws.FnExactRequestDue': WHATEVER THE INPUT: true; the input reads as it did. -/
def fnExactRequestDueSpec : ChangeSpec := { name := "fnExactRequestDue", fn := fun _ => fun
  | [d] => { results := [.lit (.bool true)], args := [d] }
  | _ => none }
def fnExactRequestDueRow : OpenClaim := { program := "ytaogjkgaecjfoaa", sum := "ab2a45868194ce3d44ff7f61b04f7226a9e7074cc1577bbbcf98be7c0bb912e3", func := "loop.example/g01035/laws.FnExactRequestDue", spec := "fnExactRequestDue", unfollowed := true, recurses := true, apart := false }
def FnExactRequestDueSaid : Prop := fnExactRequestDueRow.holds Try.pinned (OpenSpec.ofChange fnExactRequestDueSpec)

/-- ITS FALSE NEIGHBOUR: 'it returns false'. Refute it at one input. -/
def fnExactRequestDueWrong : ChangeSpec := { name := "fnExactRequestDue", fn := fun _ => fun
  | [d] => { results := [.lit (.bool false)], args := [d] }
  | _ => none }
def FnExactRequestDueWrongFalsely : Prop := fnExactRequestDueRow.holds Try.pinned (OpenSpec.ofChange fnExactRequestDueWrong)

/-- 'laws.FnExactStopClock': WHATEVER THE INPUT: true; the input reads as it did. -/
def fnExactStopClockSpec : ChangeSpec := { name := "fnExactStopClock", fn := fun _ => fun
  | [d1, d2, d3] => { results := [.lit (.bool true)], args := [d1, d2, d3] }
  | _ => none }
def fnExactStopClockRow : OpenClaim := { program := "ytaogjkgaecjfoaa", sum := "ab2a45868194ce3d44ff7f61b04f7226a9e7074cc1577bbbcf98be7c0bb912e3", func := "loop.example/g01035/laws.FnExactStopClock", spec := "fnExactStopClock", apart := false }
def FnExactStopClockSaid : Prop := fnExactStopClockRow.holds Try.pinned (OpenSpec.ofChange fnExactStopClockSpec)

/-- ITS FALSE NEIGHBOUR: 'it returns false'. Refute it at one input. -/
def fnExactStopClockWrong : ChangeSpec := { name := "fnExactStopClock", fn := fun _ => fun
  | [d1, d2, d3] => { results := [.lit (.bool false)], args := [d1, d2, d3] }
  | _ => none }
def FnExactStopClockWrongFalsely : Prop := fnExactStopClockRow.holds Try.pinned (OpenSpec.ofChange fnExactStopClockWrong)

/-- 'laws.FnExactExtendRequest': WHATEVER THE INPUT: true; the input reads as it did. -/
def fnExactExtendRequestSpec : ChangeSpec := { name := "fnExactExtendRequest", fn := fun _ => fun
  | [d1, d2] => { results := [.lit (.bool true)], args := [d1, d2] }
  | _ => none }
def fnExactExtendRequestRow : OpenClaim := { program := "ytaogjkgaecjfoaa", sum := "ab2a45868194ce3d44ff7f61b04f7226a9e7074cc1577bbbcf98be7c0bb912e3", func := "loop.example/g01035/laws.FnExactExtendRequest", spec := "fnExactExtendRequest", apart := false }
def FnExactExtendRequestSaid : Prop := fnExactExtendRequestRow.holds Try.pinned (OpenSpec.ofChange fnExactExtendRequestSpec)

/-- ITS FALSE NEIGHBOUR: 'it returns false'. Refute it at one input. -/
def fnExactExtendRequestWrong : ChangeSpec := { name := "fnExactExtendRequest", fn := fun _ => fun
  | [d1, d2] => { results := [.lit (.bool false)], args := [d1, d2] }
  | _ => none }
def FnExactExtendRequestWrongFalsely : Prop := fnExactExtendRequestRow.holds Try.pinned (OpenSpec.ofChange fnExactExtendRequestWrong)

/-- 'laws.FnExactDaysLeftFor': WHATEVER THE INPUT: true; the input reads as it did. -/
def fnExactDaysLeftForSpec : ChangeSpec := { name := "fnExactDaysLeftFor", fn := fun _ => fun
  | [d1, d2] => { results := [.lit (.bool true)], args := [d1, d2] }
  | _ => none }
def fnExactDaysLeftForRow : OpenClaim := { program := "ytaogjkgaecjfoaa", sum := "ab2a45868194ce3d44ff7f61b04f7226a9e7074cc1577bbbcf98be7c0bb912e3", func := "loop.example/g01035/laws.FnExactDaysLeftFor", spec := "fnExactDaysLeftFor", unfollowed := true, recurses := true, apart := false }
def FnExactDaysLeftForSaid : Prop := fnExactDaysLeftForRow.holds Try.pinned (OpenSpec.ofChange fnExactDaysLeftForSpec)

/-- ITS FALSE NEIGHBOUR: 'it returns false'. Refute it at one input. -/
def fnExactDaysLeftForWrong : ChangeSpec := { name := "fnExactDaysLeftFor", fn := fun _ => fun
  | [d1, d2] => { results := [.lit (.bool false)], args := [d1, d2] }
  | _ => none }
def FnExactDaysLeftForWrongFalsely : Prop := fnExactDaysLeftForRow.holds Try.pinned (OpenSpec.ofChange fnExactDaysLeftForWrong)

/-- 'laws.FnExactFirstRequest': WHATEVER THE INPUT: true; the input reads as it did. -/
def fnExactFirstRequestSpec : ChangeSpec := { name := "fnExactFirstRequest", fn := fun _ => fun
  | [d] => { results := [.lit (.bool true)], args := [d] }
  | _ => none }
def fnExactFirstRequestRow : OpenClaim := { program := "ytaogjkgaecjfoaa", sum := "ab2a45868194ce3d44ff7f61b04f7226a9e7074cc1577bbbcf98be7c0bb912e3", func := "loop.example/g01035/laws.FnExactFirstRequest", spec := "fnExactFirstRequest", unfollowed := true, recurses := true, apart := false }
def FnExactFirstRequestSaid : Prop := fnExactFirstRequestRow.holds Try.pinned (OpenSpec.ofChange fnExactFirstRequestSpec)

/-- ITS FALSE NEIGHBOUR: 'it returns false'. Refute it at one input. -/
def fnExactFirstRequestWrong : ChangeSpec := { name := "fnExactFirstRequest", fn := fun _ => fun
  | [d] => { results := [.lit (.bool false)], args := [d] }
  | _ => none }
def FnExactFirstRequestWrongFalsely : Prop := fnExactFirstRequestRow.holds Try.pinned (OpenSpec.ofChange fnExactFirstRequestWrong)

/-- 'laws.FnExactOverdueOn': WHATEVER THE INPUT: true; the input reads as it did. -/
def fnExactOverdueOnSpec : ChangeSpec := { name := "fnExactOverdueOn", fn := fun _ => fun
  | [d1, d2] => { results := [.lit (.bool true)], args := [d1, d2] }
  | _ => none }
def fnExactOverdueOnRow : OpenClaim := { program := "ytaogjkgaecjfoaa", sum := "ab2a45868194ce3d44ff7f61b04f7226a9e7074cc1577bbbcf98be7c0bb912e3", func := "loop.example/g01035/laws.FnExactOverdueOn", spec := "fnExactOverdueOn", unfollowed := true, recurses := true, apart := false }
def FnExactOverdueOnSaid : Prop := fnExactOverdueOnRow.holds Try.pinned (OpenSpec.ofChange fnExactOverdueOnSpec)

/-- ITS FALSE NEIGHBOUR: 'it returns false'. Refute it at one input. -/
def fnExactOverdueOnWrong : ChangeSpec := { name := "fnExactOverdueOn", fn := fun _ => fun
  | [d1, d2] => { results := [.lit (.bool false)], args := [d1, d2] }
  | _ => none }
def FnExactOverdueOnWrongFalsely : Prop := fnExactOverdueOnRow.holds Try.pinned (OpenSpec.ofChange fnExactOverdueOnWrong)

/- THE SECOND FORM. 'bulk': how many values and letters a reading holds, each counted each time it is reached (what is shared counts as often as it is met; a slice's spare places count too). A statement '..UptoSaid' is the law's where the arguments, and the package variables that the reading takes, are together of bulk at most 1048576: NARROWER than '..Said'. Prove '..Said' where nothing that the law and all that it calls make is longer than what came in: it says more and counts as full. Else prove '..UptoSaid'. A law counts once. -/
mutual
def uptoBulk {H : Type} : DataW H → Nat
  | .lit (.string bytes) => bytes.length + 1
  | .lit _ => 1
  | .nil => 1
  | .ptr d => uptoBulk d + 1
  | .slice elems spare => uptoBulkAll elems + uptoBulkAll spare + 1
  | .agg parts => uptoBulkAll parts + 1
  | .iface _ d => uptoBulk d + 1
  | .map entries => uptoBulkEntries entries + 1
  | .held _ => 1
def uptoBulkAll {H : Type} : List (DataW H) → Nat
  | [] => 0
  | d :: r => uptoBulk d + uptoBulkAll r
def uptoBulkEntries {H : Type} : List (Lit × DataW H) → Nat
  | [] => 0
  | x :: r => uptoBulkEntry x + uptoBulkEntries r
def uptoBulkEntry {H : Type} : Lit × DataW H → Nat
  | (.string bytes, d) => bytes.length + uptoBulk d + 1
  | (_, d) => uptoBulk d + 1
 end
def uptoSmall : (H : Type) → List (DataW H) → Bool := fun _ ds => decide (uptoBulkAll ds ≤ 1048576)
def OpenSpec.upto (s : _root_.Go.ChangeSpec) : _root_.Go.OpenSpec := { _root_.Go.OpenSpec.ofChange s with cond := some uptoSmall }

/-- 'laws.FnExactIsWorkingDay', WHERE WHAT IT READS IS OF BULK AT MOST 1048576: true; the input reads as it did. -/
def fnExactIsWorkingDayUptoRow : OpenClaim := { program := "ytaogjkgaecjfoaa", sum := "ab2a45868194ce3d44ff7f61b04f7226a9e7074cc1577bbbcf98be7c0bb912e3", func := "loop.example/g01035/laws.FnExactIsWorkingDay", spec := "fnExactIsWorkingDay", apart := false, narrowed := true }
def FnExactIsWorkingDayUptoSaid : Prop := fnExactIsWorkingDayUptoRow.holds Try.pinned (OpenSpec.upto fnExactIsWorkingDaySpec)

/-- 'laws.FnExactWorkingDays', WHERE WHAT IT READS IS OF BULK AT MOST 1048576: true; the input reads as it did. -/
def fnExactWorkingDaysUptoRow : OpenClaim := { program := "ytaogjkgaecjfoaa", sum := "ab2a45868194ce3d44ff7f61b04f7226a9e7074cc1577bbbcf98be7c0bb912e3", func := "loop.example/g01035/laws.FnExactWorkingDays", spec := "fnExactWorkingDays", apart := false, narrowed := true }
def FnExactWorkingDaysUptoSaid : Prop := fnExactWorkingDaysUptoRow.holds Try.pinned (OpenSpec.upto fnExactWorkingDaysSpec)

/-- 'laws.FnExactAddWorkingDays', WHERE WHAT IT READS IS OF BULK AT MOST 1048576: true; the input reads as it did. -/
def fnExactAddWorkingDaysUptoRow : OpenClaim := { program := "ytaogjkgaecjfoaa", sum := "ab2a45868194ce3d44ff7f61b04f7226a9e7074cc1577bbbcf98be7c0bb912e3", func := "loop.example/g01035/laws.FnExactAddWorkingDays", spec := "fnExactAddWorkingDays", unfollowed := true, recurses := true, apart := false, narrowed := true }
def FnExactAddWorkingDaysUptoSaid : Prop := fnExactAddWorkingDaysUptoRow.holds Try.pinned (OpenSpec.upto fnExactAddWorkingDaysSpec)

/-- 'laws.FnExactIsRequest', WHERE WHAT IT READS IS OF BULK AT MOST 1048576: true; the input reads as it did. -/
def fnExactIsRequestUptoRow : OpenClaim := { program := "ytaogjkgaecjfoaa", sum := "ab2a45868194ce3d44ff7f61b04f7226a9e7074cc1577bbbcf98be7c0bb912e3", func := "loop.example/g01035/laws.FnExactIsRequest", spec := "fnExactIsRequest", apart := false, narrowed := true }
def FnExactIsRequestUptoSaid : Prop := fnExactIsRequestUptoRow.holds Try.pinned (OpenSpec.upto fnExactIsRequestSpec)

/-- 'laws.FnExactRequestDue', WHERE WHAT IT READS IS OF BULK AT MOST 1048576: true; the input reads as it did. -/
def fnExactRequestDueUptoRow : OpenClaim := { program := "ytaogjkgaecjfoaa", sum := "ab2a45868194ce3d44ff7f61b04f7226a9e7074cc1577bbbcf98be7c0bb912e3", func := "loop.example/g01035/laws.FnExactRequestDue", spec := "fnExactRequestDue", unfollowed := true, recurses := true, apart := false, narrowed := true }
def FnExactRequestDueUptoSaid : Prop := fnExactRequestDueUptoRow.holds Try.pinned (OpenSpec.upto fnExactRequestDueSpec)

/-- 'laws.FnExactStopClock', WHERE WHAT IT READS IS OF BULK AT MOST 1048576: true; the input reads as it did. -/
def fnExactStopClockUptoRow : OpenClaim := { program := "ytaogjkgaecjfoaa", sum := "ab2a45868194ce3d44ff7f61b04f7226a9e7074cc1577bbbcf98be7c0bb912e3", func := "loop.example/g01035/laws.FnExactStopClock", spec := "fnExactStopClock", apart := false, narrowed := true }
def FnExactStopClockUptoSaid : Prop := fnExactStopClockUptoRow.holds Try.pinned (OpenSpec.upto fnExactStopClockSpec)

/-- 'laws.FnExactExtendRequest', WHERE WHAT IT READS IS OF BULK AT MOST 1048576: true; the input reads as it did. -/
def fnExactExtendRequestUptoRow : OpenClaim := { program := "ytaogjkgaecjfoaa", sum := "ab2a45868194ce3d44ff7f61b04f7226a9e7074cc1577bbbcf98be7c0bb912e3", func := "loop.example/g01035/laws.FnExactExtendRequest", spec := "fnExactExtendRequest", apart := false, narrowed := true }
def FnExactExtendRequestUptoSaid : Prop := fnExactExtendRequestUptoRow.holds Try.pinned (OpenSpec.upto fnExactExtendRequestSpec)

/-- 'laws.FnExactDaysLeftFor', WHERE WHAT IT READS IS OF BULK AT MOST 1048576: true; the input reads as it did. -/
def fnExactDaysLeftForUptoRow : OpenClaim := { program := "ytaogjkgaecjfoaa", sum := "ab2a45868194ce3d44ff7f61b04f7226a9e7074cc1577bbbcf98be7c0bb912e3", func := "loop.example/g01035/laws.FnExactDaysLeftFor", spec := "fnExactDaysLeftFor", unfollowed := true, recurses := true, apart := false, narrowed := true }
def FnExactDaysLeftForUptoSaid : Prop := fnExactDaysLeftForUptoRow.holds Try.pinned (OpenSpec.upto fnExactDaysLeftForSpec)

/-- 'laws.FnExactFirstRequest', WHERE WHAT IT READS IS OF BULK AT MOST 1048576: true; the input reads as it did. -/
def fnExactFirstRequestUptoRow : OpenClaim := { program := "ytaogjkgaecjfoaa", sum := "ab2a45868194ce3d44ff7f61b04f7226a9e7074cc1577bbbcf98be7c0bb912e3", func := "loop.example/g01035/laws.FnExactFirstRequest", spec := "fnExactFirstRequest", unfollowed := true, recurses := true, apart := false, narrowed := true }
def FnExactFirstRequestUptoSaid : Prop := fnExactFirstRequestUptoRow.holds Try.pinned (OpenSpec.upto fnExactFirstRequestSpec)

/-- 'laws.FnExactOverdueOn', WHERE WHAT IT READS IS OF BULK AT MOST 1048576: true; the input reads as it did. -/
def fnExactOverdueOnUptoRow : OpenClaim := { program := "ytaogjkgaecjfoaa", sum := "ab2a45868194ce3d44ff7f61b04f7226a9e7074cc1577bbbcf98be7c0bb912e3", func := "loop.example/g01035/laws.FnExactOverdueOn", spec := "fnExactOverdueOn", unfollowed := true, recurses := true, apart := false, narrowed := true }
def FnExactOverdueOnUptoSaid : Prop := fnExactOverdueOnUptoRow.holds Try.pinned (OpenSpec.upto fnExactOverdueOnSpec)

end Rows
end Go.Proofs.Ytaogjkgaecjfoaa
