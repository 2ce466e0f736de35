/-
  DERIVED. GIVEN WITH THE SEED: THE CARDS: each row of YtcajnbjonilljaaDoorRows.lean that lists a variable, with what it lists TIED to the program's text (the seventh form; the later family's looks); each row that meets fmt, with fmt's text TOLD by the authors' own Lean function (tested against real Go, not proved from fmt's source: count such statements apart). THE CARD IS WHAT COUNTS. Prove the row's statement (the work); the ties are given (YtcajnbjonilljaaDoorTie.lean); close each card by the builder's one call (the guide's Derived/Test/ToyasCard.lean, 'card_holds'). Laid BY PROGRAM, IN A SANDBOX (cutbox-door.mjs). By AI agents, Wed Nov 11 2026. No macro, syntax, notation, axiom, sorry.
-/
import Derived.Test.YtcajnbjonilljaaDoorRows
import GoSem.ClaimSeven
namespace Go.Proofs.YtcajnbjonilljaaDoor
namespace Rows

/-- THE TIED CARD OF 'laws.FnExactRootOf'. -/
def fnExactRootOfCard : Claim7 := { stood := { row := fnExactRootOfRow, standIns := [], harness := (true, "769fac8988d419e58c78bfaece7d3c49d1c7aeeba7856d644c7a70e66e37c9f0"), looks := false }, kinds := [], alts := [], laidByText := true, laidKinds := [.data, .data, .data, .data, .pinned], laidTests := true, laidLooks := .later }
def FnExactRootOfCardSaid : Prop := Claim7.holds Tryd.pinned (.plain (OpenSpec.ofChange fnExactRootOfSpec)) fnExactRootOfCard

/-- THE TIED CARD OF 'laws.FnExactPathOf'. -/
def fnExactPathOfCard : Claim7 := { stood := { row := fnExactPathOfRow, standIns := [], harness := (true, "769fac8988d419e58c78bfaece7d3c49d1c7aeeba7856d644c7a70e66e37c9f0"), looks := false }, kinds := [], alts := [], laidByText := true, laidKinds := [.data, .data, .data, .data, .pinned], laidTests := true, laidLooks := .later }
def FnExactPathOfCardSaid : Prop := Claim7.holds Tryd.pinned (.plain (OpenSpec.ofChange fnExactPathOfSpec)) fnExactPathOfCard

/-- THE SECOND FORM's CARD OF 'laws.FnExactRootOf'. -/
def fnExactRootOfUptoCard : Claim7 := { stood := { row := fnExactRootOfUptoRow, standIns := [], harness := (true, "769fac8988d419e58c78bfaece7d3c49d1c7aeeba7856d644c7a70e66e37c9f0"), looks := false }, kinds := [], alts := [], laidByText := true, laidKinds := [.data, .data, .data, .data, .pinned], laidTests := true, laidLooks := .later }
def FnExactRootOfUptoCardSaid : Prop := Claim7.holds Tryd.pinned (.plain (OpenSpec.upto fnExactRootOfSpec)) fnExactRootOfUptoCard

/-- THE SECOND FORM's CARD OF 'laws.FnExactPathOf'. -/
def fnExactPathOfUptoCard : Claim7 := { stood := { row := fnExactPathOfUptoRow, standIns := [], harness := (true, "769fac8988d419e58c78bfaece7d3c49d1c7aeeba7856d644c7a70e66e37c9f0"), looks := false }, kinds := [], alts := [], laidByText := true, laidKinds := [.data, .data, .data, .data, .pinned], laidTests := true, laidLooks := .later }
def FnExactPathOfUptoCardSaid : Prop := Claim7.holds Tryd.pinned (.plain (OpenSpec.upto fnExactPathOfSpec)) fnExactPathOfUptoCard
end Rows
end Go.Proofs.YtcajnbjonilljaaDoor
