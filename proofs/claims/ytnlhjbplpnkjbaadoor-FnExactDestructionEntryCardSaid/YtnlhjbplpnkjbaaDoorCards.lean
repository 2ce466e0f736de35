/-
  DERIVED. GIVEN WITH THE SEED: THE CARDS: each row of YtnlhjbplpnkjbaaDoorRows.lean that lists a variable, with what it lists TIED to the program's text (the seventh form; the later family's looks); each row that meets fmt, with fmt's text TOLD by the authors' own Lean function (tested against real Go, not proved from fmt's source: count such statements apart). THE CARD IS WHAT COUNTS. Prove the row's statement (the work); the ties are given (YtnlhjbplpnkjbaaDoorTie.lean); close each card by the builder's one call (the guide's Derived/Test/ToyasCard.lean, 'card_holds'). Laid BY PROGRAM, IN A SANDBOX (cutbox-door.mjs). By AI agents, Wed Nov 11 2026. No macro, syntax, notation, axiom, sorry.
-/
import Derived.Test.YtnlhjbplpnkjbaaDoorRows
import GoSem.ClaimSeven
namespace Go.Proofs.YtnlhjbplpnkjbaaDoor
namespace Rows

/-- THE TIED CARD OF 'laws.FnExactPairHash'. -/
def fnExactPairHashCard : Claim7 := { stood := { row := fnExactPairHashRow, standIns := [], harness := (true, "5d929da8dde5759f76a6c5df994477e162f5fbe6ae3a0b8d77bf4166d61c3e63"), looks := false }, kinds := [], alts := [], laidByText := true, laidKinds := [.data, .data, .data], laidTests := true, laidLooks := .later }
def FnExactPairHashCardSaid : Prop := Claim7.holds Tryd.pinned (.plain (OpenSpec.ofChange fnExactPairHashSpec)) fnExactPairHashCard

/-- THE TIED CARD OF 'laws.FnExactEntryHash'. -/
def fnExactEntryHashCard : Claim7 := { stood := { row := fnExactEntryHashRow, standIns := [], harness := (true, "5d929da8dde5759f76a6c5df994477e162f5fbe6ae3a0b8d77bf4166d61c3e63"), looks := false }, kinds := [], alts := [], laidByText := true, laidKinds := [.data, .pinned], laidTests := true, laidLooks := .later }
def FnExactEntryHashCardSaid : Prop := Claim7.holds Tryd.pinned (.plain (OpenSpec.ofChange fnExactEntryHashSpec)) fnExactEntryHashCard

/-- THE TIED CARD OF 'laws.FnExactDestructionEntry'. -/
def fnExactDestructionEntryCard : Claim7 := { stood := { row := fnExactDestructionEntryRow, standIns := [], harness := (true, "5d929da8dde5759f76a6c5df994477e162f5fbe6ae3a0b8d77bf4166d61c3e63"), looks := false }, kinds := [], alts := [], laidByText := true, laidKinds := [.data, .data, .data], laidTests := true, laidLooks := .later }
def FnExactDestructionEntryCardSaid : Prop := Claim7.holds Tryd.pinned (.plain (OpenSpec.ofChange fnExactDestructionEntrySpec)) fnExactDestructionEntryCard

/-- THE TIED CARD OF 'laws.FnExactIsLedger'. -/
def fnExactIsLedgerCard : Claim7 := { stood := { row := fnExactIsLedgerRow, standIns := [], harness := (true, "5d929da8dde5759f76a6c5df994477e162f5fbe6ae3a0b8d77bf4166d61c3e63"), looks := false }, kinds := [], alts := [], laidByText := true, laidKinds := [.data, .pinned], laidTests := true, laidLooks := .later }
def FnExactIsLedgerCardSaid : Prop := Claim7.holds Tryd.pinned (.plain (OpenSpec.ofChange fnExactIsLedgerSpec)) fnExactIsLedgerCard

/-- THE TIED CARD OF 'laws.FnExactAppendEntry'. -/
def fnExactAppendEntryCard : Claim7 := { stood := { row := fnExactAppendEntryRow, standIns := [], harness := (true, "5d929da8dde5759f76a6c5df994477e162f5fbe6ae3a0b8d77bf4166d61c3e63"), looks := false }, kinds := [], alts := [], laidByText := true, laidKinds := [.data, .pinned], laidTests := true, laidLooks := .later }
def FnExactAppendEntryCardSaid : Prop := Claim7.holds Tryd.pinned (.plain (OpenSpec.ofChange fnExactAppendEntrySpec)) fnExactAppendEntryCard

/-- THE TIED CARD OF 'laws.FnExactRootFrom'. -/
def fnExactRootFromCard : Claim7 := { stood := { row := fnExactRootFromRow, standIns := [], harness := (true, "5d929da8dde5759f76a6c5df994477e162f5fbe6ae3a0b8d77bf4166d61c3e63"), looks := false }, kinds := [], alts := [], laidByText := true, laidKinds := [.data, .data, .data, .data, .pinned], laidTests := true, laidLooks := .later }
def FnExactRootFromCardSaid : Prop := Claim7.holds Tryd.pinned (.plain (OpenSpec.ofChange fnExactRootFromSpec)) fnExactRootFromCard

/-- THE TIED CARD OF 'laws.FnExactIsCertified'. -/
def fnExactIsCertifiedCard : Claim7 := { stood := { row := fnExactIsCertifiedRow, standIns := [], harness := (true, "5d929da8dde5759f76a6c5df994477e162f5fbe6ae3a0b8d77bf4166d61c3e63"), looks := false }, kinds := [], alts := [], laidByText := true, laidKinds := [.data, .data, .data, .data, .pinned], laidTests := true, laidLooks := .later }
def FnExactIsCertifiedCardSaid : Prop := Claim7.holds Tryd.pinned (.plain (OpenSpec.ofChange fnExactIsCertifiedSpec)) fnExactIsCertifiedCard

/-- THE TIED CARD OF 'laws.FnExactRootOf'. -/
def fnExactRootOfCard : Claim7 := { stood := { row := fnExactRootOfRow, standIns := [], harness := (true, "5d929da8dde5759f76a6c5df994477e162f5fbe6ae3a0b8d77bf4166d61c3e63"), looks := false }, kinds := [], alts := [], laidByText := true, laidKinds := [.data, .data, .data, .data, .pinned], laidTests := true, laidLooks := .later }
def FnExactRootOfCardSaid : Prop := Claim7.holds Tryd.pinned (.plain (OpenSpec.ofChange fnExactRootOfSpec)) fnExactRootOfCard

/-- THE TIED CARD OF 'laws.FnExactPathOf'. -/
def fnExactPathOfCard : Claim7 := { stood := { row := fnExactPathOfRow, standIns := [], harness := (true, "5d929da8dde5759f76a6c5df994477e162f5fbe6ae3a0b8d77bf4166d61c3e63"), looks := false }, kinds := [], alts := [], laidByText := true, laidKinds := [.data, .data, .data, .data, .pinned], laidTests := true, laidLooks := .later }
def FnExactPathOfCardSaid : Prop := Claim7.holds Tryd.pinned (.plain (OpenSpec.ofChange fnExactPathOfSpec)) fnExactPathOfCard

/-- THE SECOND FORM's CARD OF 'laws.FnExactPairHash'. -/
def fnExactPairHashUptoCard : Claim7 := { stood := { row := fnExactPairHashUptoRow, standIns := [], harness := (true, "5d929da8dde5759f76a6c5df994477e162f5fbe6ae3a0b8d77bf4166d61c3e63"), looks := false }, kinds := [], alts := [], laidByText := true, laidKinds := [.data, .data, .data], laidTests := true, laidLooks := .later }
def FnExactPairHashUptoCardSaid : Prop := Claim7.holds Tryd.pinned (.plain (OpenSpec.upto fnExactPairHashSpec)) fnExactPairHashUptoCard

/-- THE SECOND FORM's CARD OF 'laws.FnExactEntryHash'. -/
def fnExactEntryHashUptoCard : Claim7 := { stood := { row := fnExactEntryHashUptoRow, standIns := [], harness := (true, "5d929da8dde5759f76a6c5df994477e162f5fbe6ae3a0b8d77bf4166d61c3e63"), looks := false }, kinds := [], alts := [], laidByText := true, laidKinds := [.data, .pinned], laidTests := true, laidLooks := .later }
def FnExactEntryHashUptoCardSaid : Prop := Claim7.holds Tryd.pinned (.plain (OpenSpec.upto fnExactEntryHashSpec)) fnExactEntryHashUptoCard

/-- THE SECOND FORM's CARD OF 'laws.FnExactDestructionEntry'. -/
def fnExactDestructionEntryUptoCard : Claim7 := { stood := { row := fnExactDestructionEntryUptoRow, standIns := [], harness := (true, "5d929da8dde5759f76a6c5df994477e162f5fbe6ae3a0b8d77bf4166d61c3e63"), looks := false }, kinds := [], alts := [], laidByText := true, laidKinds := [.data, .data, .data], laidTests := true, laidLooks := .later }
def FnExactDestructionEntryUptoCardSaid : Prop := Claim7.holds Tryd.pinned (.plain (OpenSpec.upto fnExactDestructionEntrySpec)) fnExactDestructionEntryUptoCard

/-- THE SECOND FORM's CARD OF 'laws.FnExactIsLedger'. -/
def fnExactIsLedgerUptoCard : Claim7 := { stood := { row := fnExactIsLedgerUptoRow, standIns := [], harness := (true, "5d929da8dde5759f76a6c5df994477e162f5fbe6ae3a0b8d77bf4166d61c3e63"), looks := false }, kinds := [], alts := [], laidByText := true, laidKinds := [.data, .pinned], laidTests := true, laidLooks := .later }
def FnExactIsLedgerUptoCardSaid : Prop := Claim7.holds Tryd.pinned (.plain (OpenSpec.upto fnExactIsLedgerSpec)) fnExactIsLedgerUptoCard

/-- THE SECOND FORM's CARD OF 'laws.FnExactAppendEntry'. -/
def fnExactAppendEntryUptoCard : Claim7 := { stood := { row := fnExactAppendEntryUptoRow, standIns := [], harness := (true, "5d929da8dde5759f76a6c5df994477e162f5fbe6ae3a0b8d77bf4166d61c3e63"), looks := false }, kinds := [], alts := [], laidByText := true, laidKinds := [.data, .pinned], laidTests := true, laidLooks := .later }
def FnExactAppendEntryUptoCardSaid : Prop := Claim7.holds Tryd.pinned (.plain (OpenSpec.upto fnExactAppendEntrySpec)) fnExactAppendEntryUptoCard

/-- THE SECOND FORM's CARD OF 'laws.FnExactRootFrom'. -/
def fnExactRootFromUptoCard : Claim7 := { stood := { row := fnExactRootFromUptoRow, standIns := [], harness := (true, "5d929da8dde5759f76a6c5df994477e162f5fbe6ae3a0b8d77bf4166d61c3e63"), looks := false }, kinds := [], alts := [], laidByText := true, laidKinds := [.data, .data, .data, .data, .pinned], laidTests := true, laidLooks := .later }
def FnExactRootFromUptoCardSaid : Prop := Claim7.holds Tryd.pinned (.plain (OpenSpec.upto fnExactRootFromSpec)) fnExactRootFromUptoCard

/-- THE SECOND FORM's CARD OF 'laws.FnExactIsCertified'. -/
def fnExactIsCertifiedUptoCard : Claim7 := { stood := { row := fnExactIsCertifiedUptoRow, standIns := [], harness := (true, "5d929da8dde5759f76a6c5df994477e162f5fbe6ae3a0b8d77bf4166d61c3e63"), looks := false }, kinds := [], alts := [], laidByText := true, laidKinds := [.data, .data, .data, .data, .pinned], laidTests := true, laidLooks := .later }
def FnExactIsCertifiedUptoCardSaid : Prop := Claim7.holds Tryd.pinned (.plain (OpenSpec.upto fnExactIsCertifiedSpec)) fnExactIsCertifiedUptoCard

/-- THE SECOND FORM's CARD OF 'laws.FnExactRootOf'. -/
def fnExactRootOfUptoCard : Claim7 := { stood := { row := fnExactRootOfUptoRow, standIns := [], harness := (true, "5d929da8dde5759f76a6c5df994477e162f5fbe6ae3a0b8d77bf4166d61c3e63"), looks := false }, kinds := [], alts := [], laidByText := true, laidKinds := [.data, .data, .data, .data, .pinned], laidTests := true, laidLooks := .later }
def FnExactRootOfUptoCardSaid : Prop := Claim7.holds Tryd.pinned (.plain (OpenSpec.upto fnExactRootOfSpec)) fnExactRootOfUptoCard

/-- THE SECOND FORM's CARD OF 'laws.FnExactPathOf'. -/
def fnExactPathOfUptoCard : Claim7 := { stood := { row := fnExactPathOfUptoRow, standIns := [], harness := (true, "5d929da8dde5759f76a6c5df994477e162f5fbe6ae3a0b8d77bf4166d61c3e63"), looks := false }, kinds := [], alts := [], laidByText := true, laidKinds := [.data, .data, .data, .data, .pinned], laidTests := true, laidLooks := .later }
def FnExactPathOfUptoCardSaid : Prop := Claim7.holds Tryd.pinned (.plain (OpenSpec.upto fnExactPathOfSpec)) fnExactPathOfUptoCard
end Rows
end Go.Proofs.YtnlhjbplpnkjbaaDoor
