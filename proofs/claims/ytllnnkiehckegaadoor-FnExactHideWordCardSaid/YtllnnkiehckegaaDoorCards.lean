/-
  DERIVED. GIVEN WITH THE SEED: THE CARDS: each row of YtllnnkiehckegaaDoorRows.lean that lists a variable, with what it lists TIED to the program's text (the seventh form; the later family's looks); each row that meets fmt, with fmt's text TOLD by the authors' own Lean function (tested against real Go, not proved from fmt's source: count such statements apart). THE CARD IS WHAT COUNTS. Prove the row's statement (the work); the ties are given (YtllnnkiehckegaaDoorTie.lean); close each card by the builder's one call (the guide's Derived/Test/ToyasCard.lean, 'card_holds'). Laid BY PROGRAM, IN A SANDBOX (cutbox-door.mjs). By AI agents, Wed Nov 11 2026. No macro, syntax, notation, axiom, sorry.
-/
import Derived.Test.YtllnnkiehckegaaDoorRows
import GoSem.ClaimSeven
namespace Go.Proofs.YtllnnkiehckegaaDoor
namespace Rows

/-- THE TIED CARD OF 'laws.FnExactWithoutReason'. -/
def fnExactWithoutReasonCard : Claim7 := { stood := { row := fnExactWithoutReasonRow, standIns := [], harness := (true, "8aba605d2fcd3929b5eb0636a31fba5a10610ac9d46f852c241e87c13d944c2d"), looks := false }, kinds := [], alts := [], laidByText := true, laidKinds := [.data, .pinned], laidTests := true, laidLooks := .later }
def FnExactWithoutReasonCardSaid : Prop := Claim7.holds Tryd.pinned (.plain (OpenSpec.ofChange fnExactWithoutReasonSpec)) fnExactWithoutReasonCard

/-- THE TIED CARD OF 'laws.FnExactPlacesOfWord'. -/
def fnExactPlacesOfWordCard : Claim7 := { stood := { row := fnExactPlacesOfWordRow, standIns := [], harness := (true, "8aba605d2fcd3929b5eb0636a31fba5a10610ac9d46f852c241e87c13d944c2d"), looks := false }, kinds := [], alts := [], laidByText := true, laidKinds := [.data, .pinned], laidTests := true, laidLooks := .later }
def FnExactPlacesOfWordCardSaid : Prop := Claim7.holds Tryd.pinned (.plain (OpenSpec.ofChange fnExactPlacesOfWordSpec)) fnExactPlacesOfWordCard

/-- THE TIED CARD OF 'laws.FnExactIsHidden'. -/
def fnExactIsHiddenCard : Claim7 := { stood := { row := fnExactIsHiddenRow, standIns := [], harness := (true, "8aba605d2fcd3929b5eb0636a31fba5a10610ac9d46f852c241e87c13d944c2d"), looks := false }, kinds := [], alts := [], laidByText := true, laidKinds := [.data, .pinned], laidTests := true, laidLooks := .later }
def FnExactIsHiddenCardSaid : Prop := Claim7.holds Tryd.pinned (.plain (OpenSpec.ofChange fnExactIsHiddenSpec)) fnExactIsHiddenCard

/-- THE TIED CARD OF 'laws.FnExactHideWord'. -/
def fnExactHideWordCard : Claim7 := { stood := { row := fnExactHideWordRow, standIns := [], harness := (true, "8aba605d2fcd3929b5eb0636a31fba5a10610ac9d46f852c241e87c13d944c2d"), looks := false }, kinds := [], alts := [], laidByText := true, laidKinds := [.data, .pinned], laidTests := true, laidLooks := .later }
def FnExactHideWordCardSaid : Prop := Claim7.holds Tryd.pinned (.plain (OpenSpec.ofChange fnExactHideWordSpec)) fnExactHideWordCard

/-- THE SECOND FORM's CARD OF 'laws.FnExactWithoutReason'. -/
def fnExactWithoutReasonUptoCard : Claim7 := { stood := { row := fnExactWithoutReasonUptoRow, standIns := [], harness := (true, "8aba605d2fcd3929b5eb0636a31fba5a10610ac9d46f852c241e87c13d944c2d"), looks := false }, kinds := [], alts := [], laidByText := true, laidKinds := [.data, .pinned], laidTests := true, laidLooks := .later }
def FnExactWithoutReasonUptoCardSaid : Prop := Claim7.holds Tryd.pinned (.plain (OpenSpec.upto fnExactWithoutReasonSpec)) fnExactWithoutReasonUptoCard

/-- THE SECOND FORM's CARD OF 'laws.FnExactPlacesOfWord'. -/
def fnExactPlacesOfWordUptoCard : Claim7 := { stood := { row := fnExactPlacesOfWordUptoRow, standIns := [], harness := (true, "8aba605d2fcd3929b5eb0636a31fba5a10610ac9d46f852c241e87c13d944c2d"), looks := false }, kinds := [], alts := [], laidByText := true, laidKinds := [.data, .pinned], laidTests := true, laidLooks := .later }
def FnExactPlacesOfWordUptoCardSaid : Prop := Claim7.holds Tryd.pinned (.plain (OpenSpec.upto fnExactPlacesOfWordSpec)) fnExactPlacesOfWordUptoCard

/-- THE SECOND FORM's CARD OF 'laws.FnExactIsHidden'. -/
def fnExactIsHiddenUptoCard : Claim7 := { stood := { row := fnExactIsHiddenUptoRow, standIns := [], harness := (true, "8aba605d2fcd3929b5eb0636a31fba5a10610ac9d46f852c241e87c13d944c2d"), looks := false }, kinds := [], alts := [], laidByText := true, laidKinds := [.data, .pinned], laidTests := true, laidLooks := .later }
def FnExactIsHiddenUptoCardSaid : Prop := Claim7.holds Tryd.pinned (.plain (OpenSpec.upto fnExactIsHiddenSpec)) fnExactIsHiddenUptoCard

/-- THE SECOND FORM's CARD OF 'laws.FnExactHideWord'. -/
def fnExactHideWordUptoCard : Claim7 := { stood := { row := fnExactHideWordUptoRow, standIns := [], harness := (true, "8aba605d2fcd3929b5eb0636a31fba5a10610ac9d46f852c241e87c13d944c2d"), looks := false }, kinds := [], alts := [], laidByText := true, laidKinds := [.data, .pinned], laidTests := true, laidLooks := .later }
def FnExactHideWordUptoCardSaid : Prop := Claim7.holds Tryd.pinned (.plain (OpenSpec.upto fnExactHideWordSpec)) fnExactHideWordUptoCard
end Rows
end Go.Proofs.YtllnnkiehckegaaDoor
