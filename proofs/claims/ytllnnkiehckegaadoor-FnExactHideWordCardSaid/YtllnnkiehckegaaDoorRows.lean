/-
  NARROWER THAN 'FOR EVERY INPUT', by the rows' own cells (each row's printed sentence says how): FnExactWithoutReason: laid · FnExactPlacesOfWord: laid · FnExactIsHidden: laid · FnExactHideWord: laid.
  DERIVED. THE GIVEN ROWS OF THIS SEAT. 4 by the template 'for every input the law returns true; each argument reads behind the call as it read before'; 0 by the template 'total and deterministic' (their statements: YtllnnkiehckegaaDoorTotals.lean).
  GIVEN WITH THE SEED: the statements are not yours to turn. If you find one false, say at which input.
  Laid BY PROGRAM, IN A SANDBOX (cutbox-rows.mjs): the forced cells as the released guide's own fill.sh prints them over the translation 4b6966823e7f36fd… (all of the seat's roots in one cut). By AI agents, Wed Nov 11 2026. No macro, syntax, notation, axiom, sorry.
-/
import Derived.Test.YtllnnkiehckegaaDoorChecked
import GoSem.PinnedTables
import GoSem.Claim
import GoSem.ClaimJoined
import GoSem.ClaimMapViews
import Derived.JoinedTies
import Derived.KernelRfl
namespace Go.Proofs.YtllnnkiehckegaaDoor
/- THE CELL 'sum', in the pinned program and in every row, IS THE sha256 OF THE DUMP (.gsa) THAT YtllnnkiehckegaaDoorProg.lean LOADS. Nothing in Lean hashes anything: it is a label: what it is worth is what the hold of that sum in a sandbox is worth. -/
noncomputable def Tryd.pinned : Pinned := { name := "ytllnnkiehckegaadoor", sum := "4b6966823e7f36fdfe25336371666c24b450d0c5b14cf7b4743bf13b8a7b2879", checked := Tryd.checked }
namespace Rows
def none {H : Type} : Left H := { results := [], args := [] }

/- WHAT THE LISTED PACKAGE-LEVEL VARIABLES READ AS WHEN THE CALL BEGINS. Each datum BY PROGRAM (the guide's laid-datum.mjs) off the statement by which the dump's own 'gosem.cut.vars' lays the variable. In a bare row this is a premise. The card (YtllnnkiehckegaaDoorCards.lean) ties it to the program's text. -/
def laid_unicode_utf8_acceptRanges {H : Type} : DataW H := .agg [.agg [.lit (.int .u8 128), .lit (.int .u8 191)], .agg [.lit (.int .u8 160), .lit (.int .u8 191)], .agg [.lit (.int .u8 128), .lit (.int .u8 159)], .agg [.lit (.int .u8 144), .lit (.int .u8 191)], .agg [.lit (.int .u8 128), .lit (.int .u8 143)], .agg [.lit (.int .u8 0), .lit (.int .u8 0)], .agg [.lit (.int .u8 0), .lit (.int .u8 0)], .agg [.lit (.int .u8 0), .lit (.int .u8 0)], .agg [.lit (.int .u8 0), .lit (.int .u8 0)], .agg [.lit (.int .u8 0), .lit (.int .u8 0)], .agg [.lit (.int .u8 0), .lit (.int .u8 0)], .agg [.lit (.int .u8 0), .lit (.int .u8 0)], .agg [.lit (.int .u8 0), .lit (.int .u8 0)], .agg [.lit (.int .u8 0), .lit (.int .u8 0)], .agg [.lit (.int .u8 0), .lit (.int .u8 0)], .agg [.lit (.int .u8 0), .lit (.int .u8 0)]]
/-- One of Go's own tables, pinned by name: the form's constant. -/
def laid_unicode_utf8_first : DataW Unit := Go.Pinned.utf8First

/-- 'laws.FnExactWithoutReason': WHATEVER THE INPUT: true; the input reads as it did. -/
def fnExactWithoutReasonSpec : ChangeSpec := { name := "fnExactWithoutReason", fn := fun _ => fun
  | [d1, d2, d3] => { results := [.lit (.bool true)], args := [d1, d2, d3] }
  | _ => none }
def fnExactWithoutReasonRow : OpenClaim := { program := "ytllnnkiehckegaadoor", sum := "4b6966823e7f36fdfe25336371666c24b450d0c5b14cf7b4743bf13b8a7b2879", func := "loop.example/g01035/laws.FnExactWithoutReason", spec := "fnExactWithoutReason", inPlace := ["internal/bytealg.IndexByteString", "internal/bytealg.IndexString"], unfollowed := true, recurses := true, named := ["unicode/utf8.first", "unicode/utf8.acceptRanges", "internal/bytealg.MaxLen"], apart := false, laid := [("unicode/utf8.acceptRanges", laid_unicode_utf8_acceptRanges), ("unicode/utf8.first", laid_unicode_utf8_first)] }
def FnExactWithoutReasonSaid : Prop := fnExactWithoutReasonRow.holds Tryd.pinned (OpenSpec.ofChange fnExactWithoutReasonSpec)

/-- ITS FALSE NEIGHBOUR: 'it returns false'. Refute it at one input. -/
def fnExactWithoutReasonWrong : ChangeSpec := { name := "fnExactWithoutReason", fn := fun _ => fun
  | [d1, d2, d3] => { results := [.lit (.bool false)], args := [d1, d2, d3] }
  | _ => none }
def FnExactWithoutReasonWrongFalsely : Prop := fnExactWithoutReasonRow.holds Tryd.pinned (OpenSpec.ofChange fnExactWithoutReasonWrong)

/-- 'laws.FnExactPlacesOfWord': WHATEVER THE INPUT: true; the input reads as it did. -/
def fnExactPlacesOfWordSpec : ChangeSpec := { name := "fnExactPlacesOfWord", fn := fun _ => fun
  | [d1, d2] => { results := [.lit (.bool true)], args := [d1, d2] }
  | _ => none }
def fnExactPlacesOfWordRow : OpenClaim := { program := "ytllnnkiehckegaadoor", sum := "4b6966823e7f36fdfe25336371666c24b450d0c5b14cf7b4743bf13b8a7b2879", func := "loop.example/g01035/laws.FnExactPlacesOfWord", spec := "fnExactPlacesOfWord", inPlace := ["internal/bytealg.IndexByteString", "internal/bytealg.IndexString"], unfollowed := true, recurses := true, named := ["unicode/utf8.first", "unicode/utf8.acceptRanges", "internal/bytealg.MaxLen"], apart := false, laid := [("unicode/utf8.acceptRanges", laid_unicode_utf8_acceptRanges), ("unicode/utf8.first", laid_unicode_utf8_first)] }
def FnExactPlacesOfWordSaid : Prop := fnExactPlacesOfWordRow.holds Tryd.pinned (OpenSpec.ofChange fnExactPlacesOfWordSpec)

/-- ITS FALSE NEIGHBOUR: 'it returns false'. Refute it at one input. -/
def fnExactPlacesOfWordWrong : ChangeSpec := { name := "fnExactPlacesOfWord", fn := fun _ => fun
  | [d1, d2] => { results := [.lit (.bool false)], args := [d1, d2] }
  | _ => none }
def FnExactPlacesOfWordWrongFalsely : Prop := fnExactPlacesOfWordRow.holds Tryd.pinned (OpenSpec.ofChange fnExactPlacesOfWordWrong)

/-- 'laws.FnExactIsHidden': WHATEVER THE INPUT: true; the input reads as it did. -/
def fnExactIsHiddenSpec : ChangeSpec := { name := "fnExactIsHidden", fn := fun _ => fun
  | [d1, d2, d3] => { results := [.lit (.bool true)], args := [d1, d2, d3] }
  | _ => none }
def fnExactIsHiddenRow : OpenClaim := { program := "ytllnnkiehckegaadoor", sum := "4b6966823e7f36fdfe25336371666c24b450d0c5b14cf7b4743bf13b8a7b2879", func := "loop.example/g01035/laws.FnExactIsHidden", spec := "fnExactIsHidden", inPlace := ["internal/bytealg.IndexByteString", "internal/bytealg.IndexString"], unfollowed := true, recurses := true, named := ["unicode/utf8.first", "unicode/utf8.acceptRanges", "internal/bytealg.MaxLen"], apart := false, laid := [("unicode/utf8.acceptRanges", laid_unicode_utf8_acceptRanges), ("unicode/utf8.first", laid_unicode_utf8_first)] }
def FnExactIsHiddenSaid : Prop := fnExactIsHiddenRow.holds Tryd.pinned (OpenSpec.ofChange fnExactIsHiddenSpec)

/-- ITS FALSE NEIGHBOUR: 'it returns false'. Refute it at one input. -/
def fnExactIsHiddenWrong : ChangeSpec := { name := "fnExactIsHidden", fn := fun _ => fun
  | [d1, d2, d3] => { results := [.lit (.bool false)], args := [d1, d2, d3] }
  | _ => none }
def FnExactIsHiddenWrongFalsely : Prop := fnExactIsHiddenRow.holds Tryd.pinned (OpenSpec.ofChange fnExactIsHiddenWrong)

/-- 'laws.FnExactHideWord': WHATEVER THE INPUT: true; the input reads as it did. -/
def fnExactHideWordSpec : ChangeSpec := { name := "fnExactHideWord", fn := fun _ => fun
  | [d1, d2, d3, d4] => { results := [.lit (.bool true)], args := [d1, d2, d3, d4] }
  | _ => none }
def fnExactHideWordRow : OpenClaim := { program := "ytllnnkiehckegaadoor", sum := "4b6966823e7f36fdfe25336371666c24b450d0c5b14cf7b4743bf13b8a7b2879", func := "loop.example/g01035/laws.FnExactHideWord", spec := "fnExactHideWord", inPlace := ["internal/bytealg.IndexByteString", "internal/bytealg.IndexString"], unfollowed := true, recurses := true, named := ["unicode/utf8.first", "unicode/utf8.acceptRanges", "internal/bytealg.MaxLen"], apart := false, laid := [("unicode/utf8.acceptRanges", laid_unicode_utf8_acceptRanges), ("unicode/utf8.first", laid_unicode_utf8_first)] }
def FnExactHideWordSaid : Prop := fnExactHideWordRow.holds Tryd.pinned (OpenSpec.ofChange fnExactHideWordSpec)

/-- ITS FALSE NEIGHBOUR: 'it returns false'. Refute it at one input. -/
def fnExactHideWordWrong : ChangeSpec := { name := "fnExactHideWord", fn := fun _ => fun
  | [d1, d2, d3, d4] => { results := [.lit (.bool false)], args := [d1, d2, d3, d4] }
  | _ => none }
def FnExactHideWordWrongFalsely : Prop := fnExactHideWordRow.holds Tryd.pinned (OpenSpec.ofChange fnExactHideWordWrong)

/- THE SECOND FORM. 'bulk': how many values and letters a reading holds, each counted each time it is reached (what is shared counts as often as it is met; a slice's spare places count too). A statement '..UptoSaid' is the law's where the arguments, and the package variables that the reading takes, are together of bulk at most 1048576: NARROWER than '..Said'. Prove '..Said' where nothing that the law and all that it calls make is longer than what came in: it says more and counts as full. Else prove '..UptoSaid'. A law counts once. -/
mutual
def uptoBulk {H : Type} : DataW H → Nat
  | .lit (.string bytes) => bytes.length + 1
  | .lit _ => 1
  | .nil => 1
  | .ptr d => uptoBulk d + 1
  | .slice elems spare => uptoBulkAll elems + uptoBulkAll spare + 1
  | .agg parts => uptoBulkAll parts + 1
  | .iface _ d => uptoBulk d + 1
  | .map entries => uptoBulkEntries entries + 1
  | .held _ => 1
def uptoBulkAll {H : Type} : List (DataW H) → Nat
  | [] => 0
  | d :: r => uptoBulk d + uptoBulkAll r
def uptoBulkEntries {H : Type} : List (Lit × DataW H) → Nat
  | [] => 0
  | x :: r => uptoBulkEntry x + uptoBulkEntries r
def uptoBulkEntry {H : Type} : Lit × DataW H → Nat
  | (.string bytes, d) => bytes.length + uptoBulk d + 1
  | (_, d) => uptoBulk d + 1
 end
def uptoSmall : (H : Type) → List (DataW H) → Bool := fun _ ds => decide (uptoBulkAll ds ≤ 1048576)
def OpenSpec.upto (s : _root_.Go.ChangeSpec) : _root_.Go.OpenSpec := { _root_.Go.OpenSpec.ofChange s with cond := some uptoSmall }

/-- 'laws.FnExactWithoutReason', WHERE WHAT IT READS IS OF BULK AT MOST 1048576: true; the input reads as it did. -/
def fnExactWithoutReasonUptoRow : OpenClaim := { program := "ytllnnkiehckegaadoor", sum := "4b6966823e7f36fdfe25336371666c24b450d0c5b14cf7b4743bf13b8a7b2879", func := "loop.example/g01035/laws.FnExactWithoutReason", spec := "fnExactWithoutReason", inPlace := ["internal/bytealg.IndexByteString", "internal/bytealg.IndexString"], unfollowed := true, recurses := true, named := ["unicode/utf8.first", "unicode/utf8.acceptRanges", "internal/bytealg.MaxLen"], apart := false, laid := [("unicode/utf8.acceptRanges", laid_unicode_utf8_acceptRanges), ("unicode/utf8.first", laid_unicode_utf8_first)], narrowed := true }
def FnExactWithoutReasonUptoSaid : Prop := fnExactWithoutReasonUptoRow.holds Tryd.pinned (OpenSpec.upto fnExactWithoutReasonSpec)

/-- 'laws.FnExactPlacesOfWord', WHERE WHAT IT READS IS OF BULK AT MOST 1048576: true; the input reads as it did. -/
def fnExactPlacesOfWordUptoRow : OpenClaim := { program := "ytllnnkiehckegaadoor", sum := "4b6966823e7f36fdfe25336371666c24b450d0c5b14cf7b4743bf13b8a7b2879", func := "loop.example/g01035/laws.FnExactPlacesOfWord", spec := "fnExactPlacesOfWord", inPlace := ["internal/bytealg.IndexByteString", "internal/bytealg.IndexString"], unfollowed := true, recurses := true, named := ["unicode/utf8.first", "unicode/utf8.acceptRanges", "internal/bytealg.MaxLen"], apart := false, laid := [("unicode/utf8.acceptRanges", laid_unicode_utf8_acceptRanges), ("unicode/utf8.first", laid_unicode_utf8_first)], narrowed := true }
def FnExactPlacesOfWordUptoSaid : Prop := fnExactPlacesOfWordUptoRow.holds Tryd.pinned (OpenSpec.upto fnExactPlacesOfWordSpec)

/-- 'laws.FnExactIsHidden', WHERE WHAT IT READS IS OF BULK AT MOST 1048576: true; the input reads as it did. -/
def fnExactIsHiddenUptoRow : OpenClaim := { program := "ytllnnkiehckegaadoor", sum := "4b6966823e7f36fdfe25336371666c24b450d0c5b14cf7b4743bf13b8a7b2879", func := "loop.example/g01035/laws.FnExactIsHidden", spec := "fnExactIsHidden", inPlace := ["internal/bytealg.IndexByteString", "internal/bytealg.IndexString"], unfollowed := true, recurses := true, named := ["unicode/utf8.first", "unicode/utf8.acceptRanges", "internal/bytealg.MaxLen"], apart := false, laid := [("unicode/utf8.acceptRanges", laid_unicode_utf8_acceptRanges), ("unicode/utf8.first", laid_unicode_utf8_first)], narrowed := true }
def FnExactIsHiddenUptoSaid : Prop := fnExactIsHiddenUptoRow.holds Tryd.pinned (OpenSpec.upto fnExactIsHiddenSpec)

/-- 'laws.FnExactHideWord', WHERE WHAT IT READS IS OF BULK AT MOST 1048576: true; the input reads as it did. -/
def fnExactHideWordUptoRow : OpenClaim := { program := "ytllnnkiehckegaadoor", sum := "4b6966823e7f36fdfe25336371666c24b450d0c5b14cf7b4743bf13b8a7b2879", func := "loop.example/g01035/laws.FnExactHideWord", spec := "fnExactHideWord", inPlace := ["internal/bytealg.IndexByteString", "internal/bytealg.IndexString"], unfollowed := true, recurses := true, named := ["unicode/utf8.first", "unicode/utf8.acceptRanges", "internal/bytealg.MaxLen"], apart := false, laid := [("unicode/utf8.acceptRanges", laid_unicode_utf8_acceptRanges), ("unicode/utf8.first", laid_unicode_utf8_first)], narrowed := true }
def FnExactHideWordUptoSaid : Prop := fnExactHideWordUptoRow.holds Tryd.pinned (OpenSpec.upto fnExactHideWordSpec)

end Rows
end Go.Proofs.YtllnnkiehckegaaDoor
