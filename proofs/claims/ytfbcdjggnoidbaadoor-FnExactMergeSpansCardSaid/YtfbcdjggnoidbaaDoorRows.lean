/-
  NARROWER THAN 'FOR EVERY INPUT', by the rows' own cells (each row's printed sentence says how): FnExactIsText: laid · FnExactAreSpans: laid · FnExactHiddenBytes: laid · FnExactMergeSpans: laid · FnExactReasonCounts: laid · FnExactWithoutReason: laid · FnExactPlacesOfWord: laid · FnExactIsHidden: laid · FnExactRedacted: laid · FnExactHideWord: laid.
  DERIVED. THE GIVEN ROWS OF THIS SEAT. 10 by the template 'for every input the law returns true; each argument reads behind the call as it read before'; 0 by the template 'total and deterministic' (their statements: YtfbcdjggnoidbaaDoorTotals.lean).
  GIVEN WITH THE SEED: the statements are not yours to turn. If you find one false, say at which input.
  Laid BY PROGRAM, IN A SANDBOX (cutbox-rows.mjs): the forced cells as the released guide's own fill.sh prints them over the translation 374a9c2cac596029… (all of the seat's roots in one cut). By AI agents, Wed Nov 11 2026. No macro, syntax, notation, axiom, sorry.
-/
import Derived.Test.YtfbcdjggnoidbaaDoorChecked
import GoSem.PinnedTables
import GoSem.Claim
import GoSem.ClaimJoined
import GoSem.ClaimMapViews
import Derived.JoinedTies
import Derived.KernelRfl
namespace Go.Proofs.YtfbcdjggnoidbaaDoor
/- THE CELL 'sum', in the pinned program and in every row, IS THE sha256 OF THE DUMP (.gsa) THAT YtfbcdjggnoidbaaDoorProg.lean LOADS. Nothing in Lean hashes anything: it is a label: what it is worth is what the hold of that sum in a sandbox is worth. -/
noncomputable def Tryd.pinned : Pinned := { name := "ytfbcdjggnoidbaadoor", sum := "374a9c2cac5960294672f05585f8160956d0e3945b520c792fdc5abf6b25e20d", checked := Tryd.checked }
namespace Rows
def none {H : Type} : Left H := { results := [], args := [] }

/- WHAT THE LISTED PACKAGE-LEVEL VARIABLES READ AS WHEN THE CALL BEGINS. Each datum BY PROGRAM (the guide's laid-datum.mjs) off the statement by which the dump's own 'gosem.cut.vars' lays the variable. In a bare row this is a premise. The card (YtfbcdjggnoidbaaDoorCards.lean) ties it to the program's text. -/
def laid_unicode_utf8_acceptRanges {H : Type} : DataW H := .agg [.agg [.lit (.int .u8 128), .lit (.int .u8 191)], .agg [.lit (.int .u8 160), .lit (.int .u8 191)], .agg [.lit (.int .u8 128), .lit (.int .u8 159)], .agg [.lit (.int .u8 144), .lit (.int .u8 191)], .agg [.lit (.int .u8 128), .lit (.int .u8 143)], .agg [.lit (.int .u8 0), .lit (.int .u8 0)], .agg [.lit (.int .u8 0), .lit (.int .u8 0)], .agg [.lit (.int .u8 0), .lit (.int .u8 0)], .agg [.lit (.int .u8 0), .lit (.int .u8 0)], .agg [.lit (.int .u8 0), .lit (.int .u8 0)], .agg [.lit (.int .u8 0), .lit (.int .u8 0)], .agg [.lit (.int .u8 0), .lit (.int .u8 0)], .agg [.lit (.int .u8 0), .lit (.int .u8 0)], .agg [.lit (.int .u8 0), .lit (.int .u8 0)], .agg [.lit (.int .u8 0), .lit (.int .u8 0)], .agg [.lit (.int .u8 0), .lit (.int .u8 0)]]
/-- One of Go's own tables, pinned by name: the form's constant. -/
def laid_unicode_utf8_first : DataW Unit := Go.Pinned.utf8First
def laid_math_bits_deBruijn32tab {H : Type} : DataW H := .agg [.lit (.int .u8 0), .lit (.int .u8 1), .lit (.int .u8 28), .lit (.int .u8 2), .lit (.int .u8 29), .lit (.int .u8 14), .lit (.int .u8 24), .lit (.int .u8 3), .lit (.int .u8 30), .lit (.int .u8 22), .lit (.int .u8 20), .lit (.int .u8 15), .lit (.int .u8 25), .lit (.int .u8 17), .lit (.int .u8 4), .lit (.int .u8 8), .lit (.int .u8 31), .lit (.int .u8 27), .lit (.int .u8 13), .lit (.int .u8 23), .lit (.int .u8 21), .lit (.int .u8 19), .lit (.int .u8 16), .lit (.int .u8 7), .lit (.int .u8 26), .lit (.int .u8 12), .lit (.int .u8 18), .lit (.int .u8 6), .lit (.int .u8 11), .lit (.int .u8 5), .lit (.int .u8 10), .lit (.int .u8 9)]
def laid_math_bits_deBruijn64tab {H : Type} : DataW H := .agg [.lit (.int .u8 0), .lit (.int .u8 1), .lit (.int .u8 56), .lit (.int .u8 2), .lit (.int .u8 57), .lit (.int .u8 49), .lit (.int .u8 28), .lit (.int .u8 3), .lit (.int .u8 61), .lit (.int .u8 58), .lit (.int .u8 42), .lit (.int .u8 50), .lit (.int .u8 38), .lit (.int .u8 29), .lit (.int .u8 17), .lit (.int .u8 4), .lit (.int .u8 62), .lit (.int .u8 47), .lit (.int .u8 59), .lit (.int .u8 36), .lit (.int .u8 45), .lit (.int .u8 43), .lit (.int .u8 51), .lit (.int .u8 22), .lit (.int .u8 53), .lit (.int .u8 39), .lit (.int .u8 33), .lit (.int .u8 30), .lit (.int .u8 24), .lit (.int .u8 18), .lit (.int .u8 12), .lit (.int .u8 5), .lit (.int .u8 63), .lit (.int .u8 55), .lit (.int .u8 48), .lit (.int .u8 27), .lit (.int .u8 60), .lit (.int .u8 41), .lit (.int .u8 37), .lit (.int .u8 16), .lit (.int .u8 46), .lit (.int .u8 35), .lit (.int .u8 44), .lit (.int .u8 21), .lit (.int .u8 52), .lit (.int .u8 32), .lit (.int .u8 23), .lit (.int .u8 11), .lit (.int .u8 54), .lit (.int .u8 26), .lit (.int .u8 40), .lit (.int .u8 15), .lit (.int .u8 34), .lit (.int .u8 20), .lit (.int .u8 31), .lit (.int .u8 10), .lit (.int .u8 25), .lit (.int .u8 14), .lit (.int .u8 19), .lit (.int .u8 9), .lit (.int .u8 13), .lit (.int .u8 8), .lit (.int .u8 7), .lit (.int .u8 6)]
def laid_internal_strconv_uint64pow10 {H : Type} : DataW H := .agg [.lit (.int .u64 1), .lit (.int .u64 10), .lit (.int .u64 100), .lit (.int .u64 1000), .lit (.int .u64 10000), .lit (.int .u64 100000), .lit (.int .u64 1000000), .lit (.int .u64 10000000), .lit (.int .u64 100000000), .lit (.int .u64 1000000000), .lit (.int .u64 10000000000), .lit (.int .u64 100000000000), .lit (.int .u64 1000000000000), .lit (.int .u64 10000000000000), .lit (.int .u64 100000000000000), .lit (.int .u64 1000000000000000), .lit (.int .u64 10000000000000000), .lit (.int .u64 100000000000000000), .lit (.int .u64 1000000000000000000), .lit (.int .u64 10000000000000000000)]

/-- 'laws.FnExactIsText': WHATEVER THE INPUT: true; the input reads as it did. -/
def fnExactIsTextSpec : ChangeSpec := { name := "fnExactIsText", fn := fun _ => fun
  | [d] => { results := [.lit (.bool true)], args := [d] }
  | _ => none }
def fnExactIsTextRow : OpenClaim := { program := "ytfbcdjggnoidbaadoor", sum := "374a9c2cac5960294672f05585f8160956d0e3945b520c792fdc5abf6b25e20d", func := "loop.example/g01035/laws.FnExactIsText", spec := "fnExactIsText", inPlace := ["internal/bytealg.IndexByteString", "internal/bytealg.IndexString"], named := ["unicode/utf8.first", "unicode/utf8.acceptRanges", "internal/bytealg.MaxLen"], apart := false, laid := [("unicode/utf8.acceptRanges", laid_unicode_utf8_acceptRanges), ("unicode/utf8.first", laid_unicode_utf8_first)] }
def FnExactIsTextSaid : Prop := fnExactIsTextRow.holds Tryd.pinned (OpenSpec.ofChange fnExactIsTextSpec)

/-- ITS FALSE NEIGHBOUR: 'it returns false'. Refute it at one input. -/
def fnExactIsTextWrong : ChangeSpec := { name := "fnExactIsText", fn := fun _ => fun
  | [d] => { results := [.lit (.bool false)], args := [d] }
  | _ => none }
def FnExactIsTextWrongFalsely : Prop := fnExactIsTextRow.holds Tryd.pinned (OpenSpec.ofChange fnExactIsTextWrong)

/-- 'laws.FnExactAreSpans': WHATEVER THE INPUT: true; the input reads as it did. -/
def fnExactAreSpansSpec : ChangeSpec := { name := "fnExactAreSpans", fn := fun _ => fun
  | [d1, d2] => { results := [.lit (.bool true)], args := [d1, d2] }
  | _ => none }
def fnExactAreSpansRow : OpenClaim := { program := "ytfbcdjggnoidbaadoor", sum := "374a9c2cac5960294672f05585f8160956d0e3945b520c792fdc5abf6b25e20d", func := "loop.example/g01035/laws.FnExactAreSpans", spec := "fnExactAreSpans", inPlace := ["internal/bytealg.IndexByteString", "internal/bytealg.IndexString"], named := ["unicode/utf8.first", "unicode/utf8.acceptRanges", "internal/bytealg.MaxLen"], apart := false, laid := [("unicode/utf8.acceptRanges", laid_unicode_utf8_acceptRanges), ("unicode/utf8.first", laid_unicode_utf8_first)] }
def FnExactAreSpansSaid : Prop := fnExactAreSpansRow.holds Tryd.pinned (OpenSpec.ofChange fnExactAreSpansSpec)

/-- ITS FALSE NEIGHBOUR: 'it returns false'. Refute it at one input. -/
def fnExactAreSpansWrong : ChangeSpec := { name := "fnExactAreSpans", fn := fun _ => fun
  | [d1, d2] => { results := [.lit (.bool false)], args := [d1, d2] }
  | _ => none }
def FnExactAreSpansWrongFalsely : Prop := fnExactAreSpansRow.holds Tryd.pinned (OpenSpec.ofChange fnExactAreSpansWrong)

/-- 'laws.FnExactHiddenBytes': WHATEVER THE INPUT: true; the input reads as it did. -/
def fnExactHiddenBytesSpec : ChangeSpec := { name := "fnExactHiddenBytes", fn := fun _ => fun
  | [d1, d2] => { results := [.lit (.bool true)], args := [d1, d2] }
  | _ => none }
def fnExactHiddenBytesRow : OpenClaim := { program := "ytfbcdjggnoidbaadoor", sum := "374a9c2cac5960294672f05585f8160956d0e3945b520c792fdc5abf6b25e20d", func := "loop.example/g01035/laws.FnExactHiddenBytes", spec := "fnExactHiddenBytes", inPlace := ["internal/bytealg.IndexByteString", "internal/bytealg.IndexString"], named := ["unicode/utf8.first", "unicode/utf8.acceptRanges", "internal/bytealg.MaxLen"], apart := false, laid := [("unicode/utf8.acceptRanges", laid_unicode_utf8_acceptRanges), ("unicode/utf8.first", laid_unicode_utf8_first)] }
def FnExactHiddenBytesSaid : Prop := fnExactHiddenBytesRow.holds Tryd.pinned (OpenSpec.ofChange fnExactHiddenBytesSpec)

/-- ITS FALSE NEIGHBOUR: 'it returns false'. Refute it at one input. -/
def fnExactHiddenBytesWrong : ChangeSpec := { name := "fnExactHiddenBytes", fn := fun _ => fun
  | [d1, d2] => { results := [.lit (.bool false)], args := [d1, d2] }
  | _ => none }
def FnExactHiddenBytesWrongFalsely : Prop := fnExactHiddenBytesRow.holds Tryd.pinned (OpenSpec.ofChange fnExactHiddenBytesWrong)

/-- 'laws.FnExactMergeSpans': WHATEVER THE INPUT: true; the input reads as it did. -/
def fnExactMergeSpansSpec : ChangeSpec := { name := "fnExactMergeSpans", fn := fun _ => fun
  | [d1, d2] => { results := [.lit (.bool true)], args := [d1, d2] }
  | _ => none }
def fnExactMergeSpansRow : OpenClaim := { program := "ytfbcdjggnoidbaadoor", sum := "374a9c2cac5960294672f05585f8160956d0e3945b520c792fdc5abf6b25e20d", func := "loop.example/g01035/laws.FnExactMergeSpans", spec := "fnExactMergeSpans", inPlace := ["internal/bytealg.IndexByteString", "internal/bytealg.IndexString"], named := ["unicode/utf8.first", "unicode/utf8.acceptRanges", "internal/bytealg.MaxLen"], apart := false, laid := [("unicode/utf8.acceptRanges", laid_unicode_utf8_acceptRanges), ("unicode/utf8.first", laid_unicode_utf8_first)] }
def FnExactMergeSpansSaid : Prop := fnExactMergeSpansRow.holds Tryd.pinned (OpenSpec.ofChange fnExactMergeSpansSpec)

/-- ITS FALSE NEIGHBOUR: 'it returns false'. Refute it at one input. -/
def fnExactMergeSpansWrong : ChangeSpec := { name := "fnExactMergeSpans", fn := fun _ => fun
  | [d1, d2] => { results := [.lit (.bool false)], args := [d1, d2] }
  | _ => none }
def FnExactMergeSpansWrongFalsely : Prop := fnExactMergeSpansRow.holds Tryd.pinned (OpenSpec.ofChange fnExactMergeSpansWrong)

/-- 'laws.FnExactReasonCounts': WHATEVER THE INPUT: true; the input reads as it did. -/
def fnExactReasonCountsSpec : ChangeSpec := { name := "fnExactReasonCounts", fn := fun _ => fun
  | [d1, d2] => { results := [.lit (.bool true)], args := [d1, d2] }
  | _ => none }
def fnExactReasonCountsRow : OpenClaim := { program := "ytfbcdjggnoidbaadoor", sum := "374a9c2cac5960294672f05585f8160956d0e3945b520c792fdc5abf6b25e20d", func := "loop.example/g01035/laws.FnExactReasonCounts", spec := "fnExactReasonCounts", inPlace := ["internal/bytealg.IndexByteString", "internal/bytealg.IndexString"], named := ["unicode/utf8.first", "unicode/utf8.acceptRanges", "internal/bytealg.MaxLen"], apart := false, laid := [("unicode/utf8.acceptRanges", laid_unicode_utf8_acceptRanges), ("unicode/utf8.first", laid_unicode_utf8_first)] }
def FnExactReasonCountsSaid : Prop := fnExactReasonCountsRow.holds Tryd.pinned (OpenSpec.ofChange fnExactReasonCountsSpec)

/-- ITS FALSE NEIGHBOUR: 'it returns false'. Refute it at one input. -/
def fnExactReasonCountsWrong : ChangeSpec := { name := "fnExactReasonCounts", fn := fun _ => fun
  | [d1, d2] => { results := [.lit (.bool false)], args := [d1, d2] }
  | _ => none }
def FnExactReasonCountsWrongFalsely : Prop := fnExactReasonCountsRow.holds Tryd.pinned (OpenSpec.ofChange fnExactReasonCountsWrong)

/-- 'laws.FnExactWithoutReason': WHATEVER THE INPUT: true; the input reads as it did. -/
def fnExactWithoutReasonSpec : ChangeSpec := { name := "fnExactWithoutReason", fn := fun _ => fun
  | [d1, d2, d3] => { results := [.lit (.bool true)], args := [d1, d2, d3] }
  | _ => none }
def fnExactWithoutReasonRow : OpenClaim := { program := "ytfbcdjggnoidbaadoor", sum := "374a9c2cac5960294672f05585f8160956d0e3945b520c792fdc5abf6b25e20d", func := "loop.example/g01035/laws.FnExactWithoutReason", spec := "fnExactWithoutReason", inPlace := ["internal/bytealg.IndexByteString", "internal/bytealg.IndexString"], unfollowed := true, recurses := true, named := ["unicode/utf8.first", "unicode/utf8.acceptRanges", "internal/bytealg.MaxLen"], apart := false, laid := [("unicode/utf8.acceptRanges", laid_unicode_utf8_acceptRanges), ("unicode/utf8.first", laid_unicode_utf8_first)] }
def FnExactWithoutReasonSaid : Prop := fnExactWithoutReasonRow.holds Tryd.pinned (OpenSpec.ofChange fnExactWithoutReasonSpec)

/-- ITS FALSE NEIGHBOUR: 'it returns false'. Refute it at one input. -/
def fnExactWithoutReasonWrong : ChangeSpec := { name := "fnExactWithoutReason", fn := fun _ => fun
  | [d1, d2, d3] => { results := [.lit (.bool false)], args := [d1, d2, d3] }
  | _ => none }
def FnExactWithoutReasonWrongFalsely : Prop := fnExactWithoutReasonRow.holds Tryd.pinned (OpenSpec.ofChange fnExactWithoutReasonWrong)

/-- 'laws.FnExactPlacesOfWord': WHATEVER THE INPUT: true; the input reads as it did. -/
def fnExactPlacesOfWordSpec : ChangeSpec := { name := "fnExactPlacesOfWord", fn := fun _ => fun
  | [d1, d2] => { results := [.lit (.bool true)], args := [d1, d2] }
  | _ => none }
def fnExactPlacesOfWordRow : OpenClaim := { program := "ytfbcdjggnoidbaadoor", sum := "374a9c2cac5960294672f05585f8160956d0e3945b520c792fdc5abf6b25e20d", func := "loop.example/g01035/laws.FnExactPlacesOfWord", spec := "fnExactPlacesOfWord", inPlace := ["internal/bytealg.IndexByteString", "internal/bytealg.IndexString"], unfollowed := true, recurses := true, named := ["unicode/utf8.first", "unicode/utf8.acceptRanges", "internal/bytealg.MaxLen"], apart := false, laid := [("unicode/utf8.acceptRanges", laid_unicode_utf8_acceptRanges), ("unicode/utf8.first", laid_unicode_utf8_first)] }
def FnExactPlacesOfWordSaid : Prop := fnExactPlacesOfWordRow.holds Tryd.pinned (OpenSpec.ofChange fnExactPlacesOfWordSpec)

/-- ITS FALSE NEIGHBOUR: 'it returns false'. Refute it at one input. -/
def fnExactPlacesOfWordWrong : ChangeSpec := { name := "fnExactPlacesOfWord", fn := fun _ => fun
  | [d1, d2] => { results := [.lit (.bool false)], args := [d1, d2] }
  | _ => none }
def FnExactPlacesOfWordWrongFalsely : Prop := fnExactPlacesOfWordRow.holds Tryd.pinned (OpenSpec.ofChange fnExactPlacesOfWordWrong)

/-- 'laws.FnExactIsHidden': WHATEVER THE INPUT: true; the input reads as it did. -/
def fnExactIsHiddenSpec : ChangeSpec := { name := "fnExactIsHidden", fn := fun _ => fun
  | [d1, d2, d3] => { results := [.lit (.bool true)], args := [d1, d2, d3] }
  | _ => none }
def fnExactIsHiddenRow : OpenClaim := { program := "ytfbcdjggnoidbaadoor", sum := "374a9c2cac5960294672f05585f8160956d0e3945b520c792fdc5abf6b25e20d", func := "loop.example/g01035/laws.FnExactIsHidden", spec := "fnExactIsHidden", inPlace := ["internal/bytealg.IndexByteString", "internal/bytealg.IndexString"], unfollowed := true, recurses := true, named := ["unicode/utf8.first", "unicode/utf8.acceptRanges", "internal/bytealg.MaxLen"], apart := false, laid := [("unicode/utf8.acceptRanges", laid_unicode_utf8_acceptRanges), ("unicode/utf8.first", laid_unicode_utf8_first)] }
def FnExactIsHiddenSaid : Prop := fnExactIsHiddenRow.holds Tryd.pinned (OpenSpec.ofChange fnExactIsHiddenSpec)

/-- ITS FALSE NEIGHBOUR: 'it returns false'. Refute it at one input. -/
def fnExactIsHiddenWrong : ChangeSpec := { name := "fnExactIsHidden", fn := fun _ => fun
  | [d1, d2, d3] => { results := [.lit (.bool false)], args := [d1, d2, d3] }
  | _ => none }
def FnExactIsHiddenWrongFalsely : Prop := fnExactIsHiddenRow.holds Tryd.pinned (OpenSpec.ofChange fnExactIsHiddenWrong)

/-- 'laws.FnExactRedacted': WHATEVER THE INPUT: true; the input reads as it did. -/
def fnExactRedactedSpec : ChangeSpec := { name := "fnExactRedacted", fn := fun _ => fun
  | [d1, d2] => { results := [.lit (.bool true)], args := [d1, d2] }
  | _ => none }
def fnExactRedactedRow : OpenClaim := { program := "ytfbcdjggnoidbaadoor", sum := "374a9c2cac5960294672f05585f8160956d0e3945b520c792fdc5abf6b25e20d", func := "loop.example/g01035/laws.FnExactRedacted", spec := "fnExactRedacted", inPlace := ["internal/bytealg.IndexByteString", "internal/bytealg.IndexString"], recurses := true, named := ["unicode/utf8.first", "unicode/utf8.acceptRanges", "internal/strconv.uint64pow10", "math/bits.deBruijn32tab", "math/bits.deBruijn64tab", "internal/bytealg.MaxLen"], apart := false, laid := [("math/bits.deBruijn32tab", laid_math_bits_deBruijn32tab), ("math/bits.deBruijn64tab", laid_math_bits_deBruijn64tab), ("internal/strconv.uint64pow10", laid_internal_strconv_uint64pow10), ("unicode/utf8.acceptRanges", laid_unicode_utf8_acceptRanges), ("unicode/utf8.first", laid_unicode_utf8_first)] }
def FnExactRedactedSaid : Prop := fnExactRedactedRow.holds Tryd.pinned (OpenSpec.ofChange fnExactRedactedSpec)

/-- ITS FALSE NEIGHBOUR: 'it returns false'. Refute it at one input. -/
def fnExactRedactedWrong : ChangeSpec := { name := "fnExactRedacted", fn := fun _ => fun
  | [d1, d2] => { results := [.lit (.bool false)], args := [d1, d2] }
  | _ => none }
def FnExactRedactedWrongFalsely : Prop := fnExactRedactedRow.holds Tryd.pinned (OpenSpec.ofChange fnExactRedactedWrong)

/-- 'laws.FnExactHideWord': WHATEVER THE INPUT: true; the input reads as it did. -/
def fnExactHideWordSpec : ChangeSpec := { name := "fnExactHideWord", fn := fun _ => fun
  | [d1, d2, d3, d4] => { results := [.lit (.bool true)], args := [d1, d2, d3, d4] }
  | _ => none }
def fnExactHideWordRow : OpenClaim := { program := "ytfbcdjggnoidbaadoor", sum := "374a9c2cac5960294672f05585f8160956d0e3945b520c792fdc5abf6b25e20d", func := "loop.example/g01035/laws.FnExactHideWord", spec := "fnExactHideWord", inPlace := ["internal/bytealg.IndexByteString", "internal/bytealg.IndexString"], unfollowed := true, recurses := true, named := ["unicode/utf8.first", "unicode/utf8.acceptRanges", "internal/bytealg.MaxLen"], apart := false, laid := [("unicode/utf8.acceptRanges", laid_unicode_utf8_acceptRanges), ("unicode/utf8.first", laid_unicode_utf8_first)] }
def FnExactHideWordSaid : Prop := fnExactHideWordRow.holds Tryd.pinned (OpenSpec.ofChange fnExactHideWordSpec)

/-- ITS FALSE NEIGHBOUR: 'it returns false'. Refute it at one input. -/
def fnExactHideWordWrong : ChangeSpec := { name := "fnExactHideWord", fn := fun _ => fun
  | [d1, d2, d3, d4] => { results := [.lit (.bool false)], args := [d1, d2, d3, d4] }
  | _ => none }
def FnExactHideWordWrongFalsely : Prop := fnExactHideWordRow.holds Tryd.pinned (OpenSpec.ofChange fnExactHideWordWrong)

/- THE SECOND FORM. 'bulk': how many values and letters a reading holds, each counted each time it is reached (what is shared counts as often as it is met; a slice's spare places count too). A statement '..UptoSaid' is the law's where the arguments, and the package variables that the reading takes, are together of bulk at most 1048576: NARROWER than '..Said'. Prove '..Said' where nothing that the law and all that it calls make is longer than what came in: it says more and counts as full. Else prove '..UptoSaid'. A law counts once. -/
mutual
def uptoBulk {H : Type} : DataW H → Nat
  | .lit (.string bytes) => bytes.length + 1
  | .lit _ => 1
  | .nil => 1
  | .ptr d => uptoBulk d + 1
  | .slice elems spare => uptoBulkAll elems + uptoBulkAll spare + 1
  | .agg parts => uptoBulkAll parts + 1
  | .iface _ d => uptoBulk d + 1
  | .map entries => uptoBulkEntries entries + 1
  | .held _ => 1
def uptoBulkAll {H : Type} : List (DataW H) → Nat
  | [] => 0
  | d :: r => uptoBulk d + uptoBulkAll r
def uptoBulkEntries {H : Type} : List (Lit × DataW H) → Nat
  | [] => 0
  | x :: r => uptoBulkEntry x + uptoBulkEntries r
def uptoBulkEntry {H : Type} : Lit × DataW H → Nat
  | (.string bytes, d) => bytes.length + uptoBulk d + 1
  | (_, d) => uptoBulk d + 1
 end
def uptoSmall : (H : Type) → List (DataW H) → Bool := fun _ ds => decide (uptoBulkAll ds ≤ 1048576)
def OpenSpec.upto (s : _root_.Go.ChangeSpec) : _root_.Go.OpenSpec := { _root_.Go.OpenSpec.ofChange s with cond := some uptoSmall }

/-- 'laws.FnExactIsText', WHERE WHAT IT READS IS OF BULK AT MOST 1048576: true; the input reads as it did. -/
def fnExactIsTextUptoRow : OpenClaim := { program := "ytfbcdjggnoidbaadoor", sum := "374a9c2cac5960294672f05585f8160956d0e3945b520c792fdc5abf6b25e20d", func := "loop.example/g01035/laws.FnExactIsText", spec := "fnExactIsText", inPlace := ["internal/bytealg.IndexByteString", "internal/bytealg.IndexString"], named := ["unicode/utf8.first", "unicode/utf8.acceptRanges", "internal/bytealg.MaxLen"], apart := false, laid := [("unicode/utf8.acceptRanges", laid_unicode_utf8_acceptRanges), ("unicode/utf8.first", laid_unicode_utf8_first)], narrowed := true }
def FnExactIsTextUptoSaid : Prop := fnExactIsTextUptoRow.holds Tryd.pinned (OpenSpec.upto fnExactIsTextSpec)

/-- 'laws.FnExactAreSpans', WHERE WHAT IT READS IS OF BULK AT MOST 1048576: true; the input reads as it did. -/
def fnExactAreSpansUptoRow : OpenClaim := { program := "ytfbcdjggnoidbaadoor", sum := "374a9c2cac5960294672f05585f8160956d0e3945b520c792fdc5abf6b25e20d", func := "loop.example/g01035/laws.FnExactAreSpans", spec := "fnExactAreSpans", inPlace := ["internal/bytealg.IndexByteString", "internal/bytealg.IndexString"], named := ["unicode/utf8.first", "unicode/utf8.acceptRanges", "internal/bytealg.MaxLen"], apart := false, laid := [("unicode/utf8.acceptRanges", laid_unicode_utf8_acceptRanges), ("unicode/utf8.first", laid_unicode_utf8_first)], narrowed := true }
def FnExactAreSpansUptoSaid : Prop := fnExactAreSpansUptoRow.holds Tryd.pinned (OpenSpec.upto fnExactAreSpansSpec)

/-- 'laws.FnExactHiddenBytes', WHERE WHAT IT READS IS OF BULK AT MOST 1048576: true; the input reads as it did. -/
def fnExactHiddenBytesUptoRow : OpenClaim := { program := "ytfbcdjggnoidbaadoor", sum := "374a9c2cac5960294672f05585f8160956d0e3945b520c792fdc5abf6b25e20d", func := "loop.example/g01035/laws.FnExactHiddenBytes", spec := "fnExactHiddenBytes", inPlace := ["internal/bytealg.IndexByteString", "internal/bytealg.IndexString"], named := ["unicode/utf8.first", "unicode/utf8.acceptRanges", "internal/bytealg.MaxLen"], apart := false, laid := [("unicode/utf8.acceptRanges", laid_unicode_utf8_acceptRanges), ("unicode/utf8.first", laid_unicode_utf8_first)], narrowed := true }
def FnExactHiddenBytesUptoSaid : Prop := fnExactHiddenBytesUptoRow.holds Tryd.pinned (OpenSpec.upto fnExactHiddenBytesSpec)

/-- 'laws.FnExactMergeSpans', WHERE WHAT IT READS IS OF BULK AT MOST 1048576: true; the input reads as it did. -/
def fnExactMergeSpansUptoRow : OpenClaim := { program := "ytfbcdjggnoidbaadoor", sum := "374a9c2cac5960294672f05585f8160956d0e3945b520c792fdc5abf6b25e20d", func := "loop.example/g01035/laws.FnExactMergeSpans", spec := "fnExactMergeSpans", inPlace := ["internal/bytealg.IndexByteString", "internal/bytealg.IndexString"], named := ["unicode/utf8.first", "unicode/utf8.acceptRanges", "internal/bytealg.MaxLen"], apart := false, laid := [("unicode/utf8.acceptRanges", laid_unicode_utf8_acceptRanges), ("unicode/utf8.first", laid_unicode_utf8_first)], narrowed := true }
def FnExactMergeSpansUptoSaid : Prop := fnExactMergeSpansUptoRow.holds Tryd.pinned (OpenSpec.upto fnExactMergeSpansSpec)

/-- 'laws.FnExactReasonCounts', WHERE WHAT IT READS IS OF BULK AT MOST 1048576: true; the input reads as it did. -/
def fnExactReasonCountsUptoRow : OpenClaim := { program := "ytfbcdjggnoidbaadoor", sum := "374a9c2cac5960294672f05585f8160956d0e3945b520c792fdc5abf6b25e20d", func := "loop.example/g01035/laws.FnExactReasonCounts", spec := "fnExactReasonCounts", inPlace := ["internal/bytealg.IndexByteString", "internal/bytealg.IndexString"], named := ["unicode/utf8.first", "unicode/utf8.acceptRanges", "internal/bytealg.MaxLen"], apart := false, laid := [("unicode/utf8.acceptRanges", laid_unicode_utf8_acceptRanges), ("unicode/utf8.first", laid_unicode_utf8_first)], narrowed := true }
def FnExactReasonCountsUptoSaid : Prop := fnExactReasonCountsUptoRow.holds Tryd.pinned (OpenSpec.upto fnExactReasonCountsSpec)

/-- 'laws.FnExactWithoutReason', WHERE WHAT IT READS IS OF BULK AT MOST 1048576: true; the input reads as it did. -/
def fnExactWithoutReasonUptoRow : OpenClaim := { program := "ytfbcdjggnoidbaadoor", sum := "374a9c2cac5960294672f05585f8160956d0e3945b520c792fdc5abf6b25e20d", func := "loop.example/g01035/laws.FnExactWithoutReason", spec := "fnExactWithoutReason", inPlace := ["internal/bytealg.IndexByteString", "internal/bytealg.IndexString"], unfollowed := true, recurses := true, named := ["unicode/utf8.first", "unicode/utf8.acceptRanges", "internal/bytealg.MaxLen"], apart := false, laid := [("unicode/utf8.acceptRanges", laid_unicode_utf8_acceptRanges), ("unicode/utf8.first", laid_unicode_utf8_first)], narrowed := true }
def FnExactWithoutReasonUptoSaid : Prop := fnExactWithoutReasonUptoRow.holds Tryd.pinned (OpenSpec.upto fnExactWithoutReasonSpec)

/-- 'laws.FnExactPlacesOfWord', WHERE WHAT IT READS IS OF BULK AT MOST 1048576: true; the input reads as it did. -/
def fnExactPlacesOfWordUptoRow : OpenClaim := { program := "ytfbcdjggnoidbaadoor", sum := "374a9c2cac5960294672f05585f8160956d0e3945b520c792fdc5abf6b25e20d", func := "loop.example/g01035/laws.FnExactPlacesOfWord", spec := "fnExactPlacesOfWord", inPlace := ["internal/bytealg.IndexByteString", "internal/bytealg.IndexString"], unfollowed := true, recurses := true, named := ["unicode/utf8.first", "unicode/utf8.acceptRanges", "internal/bytealg.MaxLen"], apart := false, laid := [("unicode/utf8.acceptRanges", laid_unicode_utf8_acceptRanges), ("unicode/utf8.first", laid_unicode_utf8_first)], narrowed := true }
def FnExactPlacesOfWordUptoSaid : Prop := fnExactPlacesOfWordUptoRow.holds Tryd.pinned (OpenSpec.upto fnExactPlacesOfWordSpec)

/-- 'laws.FnExactIsHidden', WHERE WHAT IT READS IS OF BULK AT MOST 1048576: true; the input reads as it did. -/
def fnExactIsHiddenUptoRow : OpenClaim := { program := "ytfbcdjggnoidbaadoor", sum := "374a9c2cac5960294672f05585f8160956d0e3945b520c792fdc5abf6b25e20d", func := "loop.example/g01035/laws.FnExactIsHidden", spec := "fnExactIsHidden", inPlace := ["internal/bytealg.IndexByteString", "internal/bytealg.IndexString"], unfollowed := true, recurses := true, named := ["unicode/utf8.first", "unicode/utf8.acceptRanges", "internal/bytealg.MaxLen"], apart := false, laid := [("unicode/utf8.acceptRanges", laid_unicode_utf8_acceptRanges), ("unicode/utf8.first", laid_unicode_utf8_first)], narrowed := true }
def FnExactIsHiddenUptoSaid : Prop := fnExactIsHiddenUptoRow.holds Tryd.pinned (OpenSpec.upto fnExactIsHiddenSpec)

/-- 'laws.FnExactRedacted', WHERE WHAT IT READS IS OF BULK AT MOST 1048576: true; the input reads as it did. -/
def fnExactRedactedUptoRow : OpenClaim := { program := "ytfbcdjggnoidbaadoor", sum := "374a9c2cac5960294672f05585f8160956d0e3945b520c792fdc5abf6b25e20d", func := "loop.example/g01035/laws.FnExactRedacted", spec := "fnExactRedacted", inPlace := ["internal/bytealg.IndexByteString", "internal/bytealg.IndexString"], recurses := true, named := ["unicode/utf8.first", "unicode/utf8.acceptRanges", "internal/strconv.uint64pow10", "math/bits.deBruijn32tab", "math/bits.deBruijn64tab", "internal/bytealg.MaxLen"], apart := false, laid := [("math/bits.deBruijn32tab", laid_math_bits_deBruijn32tab), ("math/bits.deBruijn64tab", laid_math_bits_deBruijn64tab), ("internal/strconv.uint64pow10", laid_internal_strconv_uint64pow10), ("unicode/utf8.acceptRanges", laid_unicode_utf8_acceptRanges), ("unicode/utf8.first", laid_unicode_utf8_first)], narrowed := true }
def FnExactRedactedUptoSaid : Prop := fnExactRedactedUptoRow.holds Tryd.pinned (OpenSpec.upto fnExactRedactedSpec)

/-- 'laws.FnExactHideWord', WHERE WHAT IT READS IS OF BULK AT MOST 1048576: true; the input reads as it did. -/
def fnExactHideWordUptoRow : OpenClaim := { program := "ytfbcdjggnoidbaadoor", sum := "374a9c2cac5960294672f05585f8160956d0e3945b520c792fdc5abf6b25e20d", func := "loop.example/g01035/laws.FnExactHideWord", spec := "fnExactHideWord", inPlace := ["internal/bytealg.IndexByteString", "internal/bytealg.IndexString"], unfollowed := true, recurses := true, named := ["unicode/utf8.first", "unicode/utf8.acceptRanges", "internal/bytealg.MaxLen"], apart := false, laid := [("unicode/utf8.acceptRanges", laid_unicode_utf8_acceptRanges), ("unicode/utf8.first", laid_unicode_utf8_first)], narrowed := true }
def FnExactHideWordUptoSaid : Prop := fnExactHideWordUptoRow.holds Tryd.pinned (OpenSpec.upto fnExactHideWordSpec)

end Rows
end Go.Proofs.YtfbcdjggnoidbaaDoor
