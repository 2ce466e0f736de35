/-
  DERIVED. GIVEN WITH THE SEED: THE CARDS: each row of YtkocblkodhfjiaaDoorRows.lean that lists a variable, with what it lists TIED to the program's text (the seventh form; the later family's looks); each row that meets fmt, with fmt's text TOLD by the authors' own Lean function (tested against real Go, not proved from fmt's source: count such statements apart). THE CARD IS WHAT COUNTS. Prove the row's statement (the work); the ties are given (YtkocblkodhfjiaaDoorTie.lean); close each card by the builder's one call (the guide's Derived/Test/ToyasCard.lean, 'card_holds'). Laid BY PROGRAM, IN A SANDBOX (cutbox-door.mjs). By AI agents, Wed Nov 11 2026. No macro, syntax, notation, axiom, sorry.
-/
import Derived.Test.YtkocblkodhfjiaaDoorRows
import GoSem.ClaimSeven
namespace Go.Proofs.YtkocblkodhfjiaaDoor
namespace Rows

/-- THE TIED CARD OF 'laws.FnExactBillText'. -/
def fnExactBillTextCard : Claim7 := { stood := { row := fnExactBillTextRow, standIns := [], harness := (true, "96794c86b9fa30da18c6c5dc9ed7c18c252c43b6f9c7f9614836a91935263789"), looks := false }, kinds := [], alts := [], laidByText := true, laidKinds := [.data, .data, .data], laidTests := true, laidLooks := .later }
def FnExactBillTextCardSaid : Prop := Claim7.holds Tryd.pinned (.plain (OpenSpec.ofChange fnExactBillTextSpec)) fnExactBillTextCard

/-- THE SECOND FORM's CARD OF 'laws.FnExactBillText'. -/
def fnExactBillTextUptoCard : Claim7 := { stood := { row := fnExactBillTextUptoRow, standIns := [], harness := (true, "96794c86b9fa30da18c6c5dc9ed7c18c252c43b6f9c7f9614836a91935263789"), looks := false }, kinds := [], alts := [], laidByText := true, laidKinds := [.data, .data, .data], laidTests := true, laidLooks := .later }
def FnExactBillTextUptoCardSaid : Prop := Claim7.holds Tryd.pinned (.plain (OpenSpec.upto fnExactBillTextSpec)) fnExactBillTextUptoCard
end Rows
end Go.Proofs.YtkocblkodhfjiaaDoor
