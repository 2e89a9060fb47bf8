/-
  DERIVED. GIVEN WITH THE SEED: THE CARDS: each row of YtdibkhddhgaghaaDoorRows.lean that lists a variable, with what it lists TIED to the program's text (the seventh form; the later family's looks); each row that meets fmt, with fmt's text TOLD by the authors' own Lean function (tested against real Go, not proved from fmt's source: count such statements apart). THE CARD IS WHAT COUNTS. Prove the row's statement (the work); the ties are given (YtdibkhddhgaghaaDoorTie.lean); close each card by the builder's one call (the guide's Derived/Test/ToyasCard.lean, 'card_holds'). Laid BY PROGRAM, IN A SANDBOX (cutbox-door.mjs). By AI agents, Wed Nov 11 2026. No macro, syntax, notation, axiom, sorry.
-/
import Derived.Test.YtdibkhddhgaghaaDoorRows
import GoSem.ClaimSeven
namespace Go.Proofs.YtdibkhddhgaghaaDoor
namespace Rows

/-- THE TIED CARD OF 'sprocketlaw09.ActTexts'. -/
def actTextsCard : Claim7 := { stood := { row := actTextsRow, standIns := [], harness := (true, "d1b15c4eed7d8c7af2a06801299d6bde2c6883d18b7bf307c077726f13445f9f"), looks := true }, kinds := [], alts := [], laidByText := true, laidKinds := [.data, .data, .data, .data, .sentinel, .sentinel, .data, .pinned], laidTests := true, laidLooks := .later }
def ActTextsCardSaid : Prop := Claim7.holds Tryd.pinned (.plain (OpenSpec.ofChange actTextsSpec)) actTextsCard

/-- THE TIED CARD OF 'sprocketlaw41.HistTexts'. -/
def histTextsCard : Claim7 := { stood := { row := histTextsRow, standIns := [], harness := (true, "d1b15c4eed7d8c7af2a06801299d6bde2c6883d18b7bf307c077726f13445f9f"), looks := true }, kinds := [], alts := [], laidByText := true, laidKinds := [.data, .data, .data, .data, .data, .sentinel, .sentinel, .pinned], laidTests := true, laidLooks := .later }
def HistTextsCardSaid : Prop := Claim7.holds Tryd.pinned (.plain (OpenSpec.ofChange histTextsSpec)) histTextsCard

/-- THE TIED CARD OF 'sprocketlaw41.HistOrder'. -/
def histOrderCard : Claim7 := { stood := { row := histOrderRow, standIns := [], harness := (true, "d1b15c4eed7d8c7af2a06801299d6bde2c6883d18b7bf307c077726f13445f9f"), looks := true }, kinds := [], alts := [], laidByText := true, laidKinds := [.data, .data, .data, .data, .data, .sentinel, .sentinel, .pinned], laidTests := true, laidLooks := .later }
def HistOrderCardSaid : Prop := Claim7.holds Tryd.pinned (.plain (OpenSpec.ofChange histOrderSpec)) histOrderCard

/-- THE TIED CARD OF 'sprocketlaw41.HistLooks'. -/
def histLooksCard : Claim7 := { stood := { row := histLooksRow, standIns := [], harness := (true, "d1b15c4eed7d8c7af2a06801299d6bde2c6883d18b7bf307c077726f13445f9f"), looks := true }, kinds := [], alts := [], laidByText := true, laidKinds := [.data, .data, .data, .data, .data, .sentinel, .sentinel, .pinned], laidTests := true, laidLooks := .later }
def HistLooksCardSaid : Prop := Claim7.holds Tryd.pinned (.plain (OpenSpec.ofChange histLooksSpec)) histLooksCard

/-- THE TIED CARD OF 'sprocketlaw39.ScriptBack'. -/
def scriptBackCard : Claim7 := { stood := { row := scriptBackRow, standIns := [], harness := (true, "d1b15c4eed7d8c7af2a06801299d6bde2c6883d18b7bf307c077726f13445f9f"), looks := true }, kinds := [], alts := [], laidByText := true, laidKinds := [.data, .data, .data, .data, .data, .data, .sentinel, .sentinel, .pinned], laidTests := true, laidLooks := .later }
def ScriptBackCardSaid : Prop := Claim7.holds Tryd.pinned (.plain (OpenSpec.ofChange scriptBackSpec)) scriptBackCard

/-- THE SECOND FORM's CARD OF 'sprocketlaw09.ActTexts'. -/
def actTextsUptoCard : Claim7 := { stood := { row := actTextsUptoRow, standIns := [], harness := (true, "d1b15c4eed7d8c7af2a06801299d6bde2c6883d18b7bf307c077726f13445f9f"), looks := true }, kinds := [], alts := [], laidByText := true, laidKinds := [.data, .data, .data, .data, .sentinel, .sentinel, .data, .pinned], laidTests := true, laidLooks := .later }
def ActTextsUptoCardSaid : Prop := Claim7.holds Tryd.pinned (.plain (OpenSpec.upto actTextsSpec)) actTextsUptoCard

/-- THE SECOND FORM's CARD OF 'sprocketlaw41.HistTexts'. -/
def histTextsUptoCard : Claim7 := { stood := { row := histTextsUptoRow, standIns := [], harness := (true, "d1b15c4eed7d8c7af2a06801299d6bde2c6883d18b7bf307c077726f13445f9f"), looks := true }, kinds := [], alts := [], laidByText := true, laidKinds := [.data, .data, .data, .data, .data, .sentinel, .sentinel, .pinned], laidTests := true, laidLooks := .later }
def HistTextsUptoCardSaid : Prop := Claim7.holds Tryd.pinned (.plain (OpenSpec.upto histTextsSpec)) histTextsUptoCard

/-- THE SECOND FORM's CARD OF 'sprocketlaw41.HistOrder'. -/
def histOrderUptoCard : Claim7 := { stood := { row := histOrderUptoRow, standIns := [], harness := (true, "d1b15c4eed7d8c7af2a06801299d6bde2c6883d18b7bf307c077726f13445f9f"), looks := true }, kinds := [], alts := [], laidByText := true, laidKinds := [.data, .data, .data, .data, .data, .sentinel, .sentinel, .pinned], laidTests := true, laidLooks := .later }
def HistOrderUptoCardSaid : Prop := Claim7.holds Tryd.pinned (.plain (OpenSpec.upto histOrderSpec)) histOrderUptoCard

/-- THE SECOND FORM's CARD OF 'sprocketlaw41.HistLooks'. -/
def histLooksUptoCard : Claim7 := { stood := { row := histLooksUptoRow, standIns := [], harness := (true, "d1b15c4eed7d8c7af2a06801299d6bde2c6883d18b7bf307c077726f13445f9f"), looks := true }, kinds := [], alts := [], laidByText := true, laidKinds := [.data, .data, .data, .data, .data, .sentinel, .sentinel, .pinned], laidTests := true, laidLooks := .later }
def HistLooksUptoCardSaid : Prop := Claim7.holds Tryd.pinned (.plain (OpenSpec.upto histLooksSpec)) histLooksUptoCard

/-- THE SECOND FORM's CARD OF 'sprocketlaw39.ScriptBack'. -/
def scriptBackUptoCard : Claim7 := { stood := { row := scriptBackUptoRow, standIns := [], harness := (true, "d1b15c4eed7d8c7af2a06801299d6bde2c6883d18b7bf307c077726f13445f9f"), looks := true }, kinds := [], alts := [], laidByText := true, laidKinds := [.data, .data, .data, .data, .data, .data, .sentinel, .sentinel, .pinned], laidTests := true, laidLooks := .later }
def ScriptBackUptoCardSaid : Prop := Claim7.holds Tryd.pinned (.plain (OpenSpec.upto scriptBackSpec)) scriptBackUptoCard
end Rows
end Go.Proofs.YtdibkhddhgaghaaDoor
