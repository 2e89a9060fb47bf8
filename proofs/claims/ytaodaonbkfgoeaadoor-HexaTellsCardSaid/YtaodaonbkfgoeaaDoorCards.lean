/-
  DERIVED. GIVEN WITH THE SEED: THE CARDS: each row of YtaodaonbkfgoeaaDoorRows.lean that lists a variable, with what it lists TIED to the program's text (the seventh form; the later family's looks); each row that meets fmt, with fmt's text TOLD by the authors' own Lean function (tested against real Go, not proved from fmt's source: count such statements apart). THE CARD IS WHAT COUNTS. Prove the row's statement (the work); the ties are given (YtaodaonbkfgoeaaDoorTie.lean); close each card by the builder's one call (the guide's Derived/Test/ToyasCard.lean, 'card_holds'). Laid BY PROGRAM, IN A SANDBOX (cutbox-door.mjs). By AI agents, Wed Nov 11 2026. No macro, syntax, notation, axiom, sorry.
-/
import Derived.Test.YtaodaonbkfgoeaaDoorRows
import GoSem.ClaimSeven
namespace Go.Proofs.YtaodaonbkfgoeaaDoor
namespace Rows

/-- THE TIED CARD OF 'sprocketlaw05.HexaTells'. -/
def hexaTellsCard : Claim7 := { stood := { row := hexaTellsRow, standIns := [], harness := (true, "f09714042fd6903766711bf8dbf01d59da1ca9de043470a2f9547c0373897d8e"), looks := false }, kinds := [], alts := [], laidByText := true, laidKinds := [.data], laidTests := true, laidLooks := .later }
def HexaTellsCardSaid : Prop := Claim7.holds Tryd.pinned (.plain (OpenSpec.ofChange hexaTellsSpec)) hexaTellsCard

/-- THE TIED CARD OF 'sprocketlaw05.HexaBack'. -/
def hexaBackCard : Claim7 := { stood := { row := hexaBackRow, standIns := [], harness := (true, "f09714042fd6903766711bf8dbf01d59da1ca9de043470a2f9547c0373897d8e"), looks := false }, kinds := [], alts := [], laidByText := true, laidKinds := [.data], laidTests := true, laidLooks := .later }
def HexaBackCardSaid : Prop := Claim7.holds Tryd.pinned (.plain (OpenSpec.ofChange hexaBackSpec)) hexaBackCard

/-- THE SECOND FORM's CARD OF 'sprocketlaw05.HexaTells'. -/
def hexaTellsUptoCard : Claim7 := { stood := { row := hexaTellsUptoRow, standIns := [], harness := (true, "f09714042fd6903766711bf8dbf01d59da1ca9de043470a2f9547c0373897d8e"), looks := false }, kinds := [], alts := [], laidByText := true, laidKinds := [.data], laidTests := true, laidLooks := .later }
def HexaTellsUptoCardSaid : Prop := Claim7.holds Tryd.pinned (.plain (OpenSpec.upto hexaTellsSpec)) hexaTellsUptoCard

/-- THE SECOND FORM's CARD OF 'sprocketlaw05.HexaBack'. -/
def hexaBackUptoCard : Claim7 := { stood := { row := hexaBackUptoRow, standIns := [], harness := (true, "f09714042fd6903766711bf8dbf01d59da1ca9de043470a2f9547c0373897d8e"), looks := false }, kinds := [], alts := [], laidByText := true, laidKinds := [.data], laidTests := true, laidLooks := .later }
def HexaBackUptoCardSaid : Prop := Claim7.holds Tryd.pinned (.plain (OpenSpec.upto hexaBackSpec)) hexaBackUptoCard
end Rows
end Go.Proofs.YtaodaonbkfgoeaaDoor
