/-
  DERIVED. GIVEN WITH THE SEED: THE CARDS: each row of YtfbcdjggnoidbaaDoorRows.lean that lists a variable, with what it lists TIED to the program's text (the seventh form; the later family's looks); each row that meets fmt, with fmt's text TOLD by the authors' own Lean function (tested against real Go, not proved from fmt's source: count such statements apart). THE CARD IS WHAT COUNTS. Prove the row's statement (the work); the ties are given (YtfbcdjggnoidbaaDoorTie.lean); close each card by the builder's one call (the guide's Derived/Test/ToyasCard.lean, 'card_holds'). Laid BY PROGRAM, IN A SANDBOX (cutbox-door.mjs). By AI agents, Wed Nov 11 2026. No macro, syntax, notation, axiom, sorry.
-/
import Derived.Test.YtfbcdjggnoidbaaDoorRows
import GoSem.ClaimSeven
namespace Go.Proofs.YtfbcdjggnoidbaaDoor
namespace Rows

/-- THE TIED CARD OF 'laws.FnExactIsText'. -/
def fnExactIsTextCard : Claim7 := { stood := { row := fnExactIsTextRow, standIns := [], harness := (true, "672bb61b87f386fdffc2f3ae97a08e5443763154e4edd071288dcecd22f9e224"), looks := false }, kinds := [], alts := [], laidByText := true, laidKinds := [.data, .pinned], laidTests := true, laidLooks := .later }
def FnExactIsTextCardSaid : Prop := Claim7.holds Tryd.pinned (.plain (OpenSpec.ofChange fnExactIsTextSpec)) fnExactIsTextCard

/-- THE TIED CARD OF 'laws.FnExactAreSpans'. -/
def fnExactAreSpansCard : Claim7 := { stood := { row := fnExactAreSpansRow, standIns := [], harness := (true, "672bb61b87f386fdffc2f3ae97a08e5443763154e4edd071288dcecd22f9e224"), looks := false }, kinds := [], alts := [], laidByText := true, laidKinds := [.data, .pinned], laidTests := true, laidLooks := .later }
def FnExactAreSpansCardSaid : Prop := Claim7.holds Tryd.pinned (.plain (OpenSpec.ofChange fnExactAreSpansSpec)) fnExactAreSpansCard

/-- THE TIED CARD OF 'laws.FnExactHiddenBytes'. -/
def fnExactHiddenBytesCard : Claim7 := { stood := { row := fnExactHiddenBytesRow, standIns := [], harness := (true, "672bb61b87f386fdffc2f3ae97a08e5443763154e4edd071288dcecd22f9e224"), looks := false }, kinds := [], alts := [], laidByText := true, laidKinds := [.data, .pinned], laidTests := true, laidLooks := .later }
def FnExactHiddenBytesCardSaid : Prop := Claim7.holds Tryd.pinned (.plain (OpenSpec.ofChange fnExactHiddenBytesSpec)) fnExactHiddenBytesCard

/-- THE TIED CARD OF 'laws.FnExactMergeSpans'. -/
def fnExactMergeSpansCard : Claim7 := { stood := { row := fnExactMergeSpansRow, standIns := [], harness := (true, "672bb61b87f386fdffc2f3ae97a08e5443763154e4edd071288dcecd22f9e224"), looks := false }, kinds := [], alts := [], laidByText := true, laidKinds := [.data, .pinned], laidTests := true, laidLooks := .later }
def FnExactMergeSpansCardSaid : Prop := Claim7.holds Tryd.pinned (.plain (OpenSpec.ofChange fnExactMergeSpansSpec)) fnExactMergeSpansCard

/-- THE TIED CARD OF 'laws.FnExactReasonCounts'. -/
def fnExactReasonCountsCard : Claim7 := { stood := { row := fnExactReasonCountsRow, standIns := [], harness := (true, "672bb61b87f386fdffc2f3ae97a08e5443763154e4edd071288dcecd22f9e224"), looks := false }, kinds := [], alts := [], laidByText := true, laidKinds := [.data, .pinned], laidTests := true, laidLooks := .later }
def FnExactReasonCountsCardSaid : Prop := Claim7.holds Tryd.pinned (.plain (OpenSpec.ofChange fnExactReasonCountsSpec)) fnExactReasonCountsCard

/-- THE TIED CARD OF 'laws.FnExactWithoutReason'. -/
def fnExactWithoutReasonCard : Claim7 := { stood := { row := fnExactWithoutReasonRow, standIns := [], harness := (true, "672bb61b87f386fdffc2f3ae97a08e5443763154e4edd071288dcecd22f9e224"), looks := false }, kinds := [], alts := [], laidByText := true, laidKinds := [.data, .pinned], laidTests := true, laidLooks := .later }
def FnExactWithoutReasonCardSaid : Prop := Claim7.holds Tryd.pinned (.plain (OpenSpec.ofChange fnExactWithoutReasonSpec)) fnExactWithoutReasonCard

/-- THE TIED CARD OF 'laws.FnExactPlacesOfWord'. -/
def fnExactPlacesOfWordCard : Claim7 := { stood := { row := fnExactPlacesOfWordRow, standIns := [], harness := (true, "672bb61b87f386fdffc2f3ae97a08e5443763154e4edd071288dcecd22f9e224"), looks := false }, kinds := [], alts := [], laidByText := true, laidKinds := [.data, .pinned], laidTests := true, laidLooks := .later }
def FnExactPlacesOfWordCardSaid : Prop := Claim7.holds Tryd.pinned (.plain (OpenSpec.ofChange fnExactPlacesOfWordSpec)) fnExactPlacesOfWordCard

/-- THE TIED CARD OF 'laws.FnExactIsHidden'. -/
def fnExactIsHiddenCard : Claim7 := { stood := { row := fnExactIsHiddenRow, standIns := [], harness := (true, "672bb61b87f386fdffc2f3ae97a08e5443763154e4edd071288dcecd22f9e224"), looks := false }, kinds := [], alts := [], laidByText := true, laidKinds := [.data, .pinned], laidTests := true, laidLooks := .later }
def FnExactIsHiddenCardSaid : Prop := Claim7.holds Tryd.pinned (.plain (OpenSpec.ofChange fnExactIsHiddenSpec)) fnExactIsHiddenCard

/-- THE TIED CARD OF 'laws.FnExactRedacted'. -/
def fnExactRedactedCard : Claim7 := { stood := { row := fnExactRedactedRow, standIns := [], harness := (true, "672bb61b87f386fdffc2f3ae97a08e5443763154e4edd071288dcecd22f9e224"), looks := false }, kinds := [], alts := [], laidByText := true, laidKinds := [.data, .data, .data, .data, .pinned], laidTests := true, laidLooks := .later }
def FnExactRedactedCardSaid : Prop := Claim7.holds Tryd.pinned (.plain (OpenSpec.ofChange fnExactRedactedSpec)) fnExactRedactedCard

/-- THE TIED CARD OF 'laws.FnExactHideWord'. -/
def fnExactHideWordCard : Claim7 := { stood := { row := fnExactHideWordRow, standIns := [], harness := (true, "672bb61b87f386fdffc2f3ae97a08e5443763154e4edd071288dcecd22f9e224"), looks := false }, kinds := [], alts := [], laidByText := true, laidKinds := [.data, .pinned], laidTests := true, laidLooks := .later }
def FnExactHideWordCardSaid : Prop := Claim7.holds Tryd.pinned (.plain (OpenSpec.ofChange fnExactHideWordSpec)) fnExactHideWordCard

/-- THE SECOND FORM's CARD OF 'laws.FnExactIsText'. -/
def fnExactIsTextUptoCard : Claim7 := { stood := { row := fnExactIsTextUptoRow, standIns := [], harness := (true, "672bb61b87f386fdffc2f3ae97a08e5443763154e4edd071288dcecd22f9e224"), looks := false }, kinds := [], alts := [], laidByText := true, laidKinds := [.data, .pinned], laidTests := true, laidLooks := .later }
def FnExactIsTextUptoCardSaid : Prop := Claim7.holds Tryd.pinned (.plain (OpenSpec.upto fnExactIsTextSpec)) fnExactIsTextUptoCard

/-- THE SECOND FORM's CARD OF 'laws.FnExactAreSpans'. -/
def fnExactAreSpansUptoCard : Claim7 := { stood := { row := fnExactAreSpansUptoRow, standIns := [], harness := (true, "672bb61b87f386fdffc2f3ae97a08e5443763154e4edd071288dcecd22f9e224"), looks := false }, kinds := [], alts := [], laidByText := true, laidKinds := [.data, .pinned], laidTests := true, laidLooks := .later }
def FnExactAreSpansUptoCardSaid : Prop := Claim7.holds Tryd.pinned (.plain (OpenSpec.upto fnExactAreSpansSpec)) fnExactAreSpansUptoCard

/-- THE SECOND FORM's CARD OF 'laws.FnExactHiddenBytes'. -/
def fnExactHiddenBytesUptoCard : Claim7 := { stood := { row := fnExactHiddenBytesUptoRow, standIns := [], harness := (true, "672bb61b87f386fdffc2f3ae97a08e5443763154e4edd071288dcecd22f9e224"), looks := false }, kinds := [], alts := [], laidByText := true, laidKinds := [.data, .pinned], laidTests := true, laidLooks := .later }
def FnExactHiddenBytesUptoCardSaid : Prop := Claim7.holds Tryd.pinned (.plain (OpenSpec.upto fnExactHiddenBytesSpec)) fnExactHiddenBytesUptoCard

/-- THE SECOND FORM's CARD OF 'laws.FnExactMergeSpans'. -/
def fnExactMergeSpansUptoCard : Claim7 := { stood := { row := fnExactMergeSpansUptoRow, standIns := [], harness := (true, "672bb61b87f386fdffc2f3ae97a08e5443763154e4edd071288dcecd22f9e224"), looks := false }, kinds := [], alts := [], laidByText := true, laidKinds := [.data, .pinned], laidTests := true, laidLooks := .later }
def FnExactMergeSpansUptoCardSaid : Prop := Claim7.holds Tryd.pinned (.plain (OpenSpec.upto fnExactMergeSpansSpec)) fnExactMergeSpansUptoCard

/-- THE SECOND FORM's CARD OF 'laws.FnExactReasonCounts'. -/
def fnExactReasonCountsUptoCard : Claim7 := { stood := { row := fnExactReasonCountsUptoRow, standIns := [], harness := (true, "672bb61b87f386fdffc2f3ae97a08e5443763154e4edd071288dcecd22f9e224"), looks := false }, kinds := [], alts := [], laidByText := true, laidKinds := [.data, .pinned], laidTests := true, laidLooks := .later }
def FnExactReasonCountsUptoCardSaid : Prop := Claim7.holds Tryd.pinned (.plain (OpenSpec.upto fnExactReasonCountsSpec)) fnExactReasonCountsUptoCard

/-- THE SECOND FORM's CARD OF 'laws.FnExactWithoutReason'. -/
def fnExactWithoutReasonUptoCard : Claim7 := { stood := { row := fnExactWithoutReasonUptoRow, standIns := [], harness := (true, "672bb61b87f386fdffc2f3ae97a08e5443763154e4edd071288dcecd22f9e224"), looks := false }, kinds := [], alts := [], laidByText := true, laidKinds := [.data, .pinned], laidTests := true, laidLooks := .later }
def FnExactWithoutReasonUptoCardSaid : Prop := Claim7.holds Tryd.pinned (.plain (OpenSpec.upto fnExactWithoutReasonSpec)) fnExactWithoutReasonUptoCard

/-- THE SECOND FORM's CARD OF 'laws.FnExactPlacesOfWord'. -/
def fnExactPlacesOfWordUptoCard : Claim7 := { stood := { row := fnExactPlacesOfWordUptoRow, standIns := [], harness := (true, "672bb61b87f386fdffc2f3ae97a08e5443763154e4edd071288dcecd22f9e224"), looks := false }, kinds := [], alts := [], laidByText := true, laidKinds := [.data, .pinned], laidTests := true, laidLooks := .later }
def FnExactPlacesOfWordUptoCardSaid : Prop := Claim7.holds Tryd.pinned (.plain (OpenSpec.upto fnExactPlacesOfWordSpec)) fnExactPlacesOfWordUptoCard

/-- THE SECOND FORM's CARD OF 'laws.FnExactIsHidden'. -/
def fnExactIsHiddenUptoCard : Claim7 := { stood := { row := fnExactIsHiddenUptoRow, standIns := [], harness := (true, "672bb61b87f386fdffc2f3ae97a08e5443763154e4edd071288dcecd22f9e224"), looks := false }, kinds := [], alts := [], laidByText := true, laidKinds := [.data, .pinned], laidTests := true, laidLooks := .later }
def FnExactIsHiddenUptoCardSaid : Prop := Claim7.holds Tryd.pinned (.plain (OpenSpec.upto fnExactIsHiddenSpec)) fnExactIsHiddenUptoCard

/-- THE SECOND FORM's CARD OF 'laws.FnExactRedacted'. -/
def fnExactRedactedUptoCard : Claim7 := { stood := { row := fnExactRedactedUptoRow, standIns := [], harness := (true, "672bb61b87f386fdffc2f3ae97a08e5443763154e4edd071288dcecd22f9e224"), looks := false }, kinds := [], alts := [], laidByText := true, laidKinds := [.data, .data, .data, .data, .pinned], laidTests := true, laidLooks := .later }
def FnExactRedactedUptoCardSaid : Prop := Claim7.holds Tryd.pinned (.plain (OpenSpec.upto fnExactRedactedSpec)) fnExactRedactedUptoCard

/-- THE SECOND FORM's CARD OF 'laws.FnExactHideWord'. -/
def fnExactHideWordUptoCard : Claim7 := { stood := { row := fnExactHideWordUptoRow, standIns := [], harness := (true, "672bb61b87f386fdffc2f3ae97a08e5443763154e4edd071288dcecd22f9e224"), looks := false }, kinds := [], alts := [], laidByText := true, laidKinds := [.data, .pinned], laidTests := true, laidLooks := .later }
def FnExactHideWordUptoCardSaid : Prop := Claim7.holds Tryd.pinned (.plain (OpenSpec.upto fnExactHideWordSpec)) fnExactHideWordUptoCard
end Rows
end Go.Proofs.YtfbcdjggnoidbaaDoor
