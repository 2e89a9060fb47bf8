/-
  DERIVED. GIVEN WITH THE SEED: THE CARDS: each row of YtkoebhflbhpfnaaDoorRows.lean that lists a variable, with what it lists TIED to the program's text (the seventh form; the later family's looks); each row that meets fmt, with fmt's text TOLD by the authors' own Lean function (tested against real Go, not proved from fmt's source: count such statements apart). THE CARD IS WHAT COUNTS. Prove the row's statement (the work); the ties are given (YtkoebhflbhpfnaaDoorTie.lean); close each card by the builder's one call (the guide's Derived/Test/ToyasCard.lean, 'card_holds'). Laid BY PROGRAM, IN A SANDBOX (cutbox-door.mjs). By AI agents, Wed Nov 11 2026. No macro, syntax, notation, axiom, sorry.
-/
import Derived.Test.YtkoebhflbhpfnaaDoorRows
import GoSem.ClaimSeven
namespace Go.Proofs.YtkoebhflbhpfnaaDoor
namespace Rows

/-- THE TIED CARD OF 'sprocketlaw35.FlushActs'. -/
def flushActsCard : Claim7 := { stood := { row := flushActsRow, standIns := [], harness := (true, "f57390420b9a7dd90acd7611fa9c508c18831f5e8ffe8d232d21832a80b3eb92"), looks := false }, kinds := [], alts := [], laidByText := true, laidKinds := [.data], laidTests := true, laidLooks := .later }
def FlushActsCardSaid : Prop := Claim7.holds Tryd.pinned (.plain (OpenSpec.ofChange flushActsSpec)) flushActsCard

/-- THE SECOND FORM's CARD OF 'sprocketlaw35.FlushActs'. -/
def flushActsUptoCard : Claim7 := { stood := { row := flushActsUptoRow, standIns := [], harness := (true, "f57390420b9a7dd90acd7611fa9c508c18831f5e8ffe8d232d21832a80b3eb92"), looks := false }, kinds := [], alts := [], laidByText := true, laidKinds := [.data], laidTests := true, laidLooks := .later }
def FlushActsUptoCardSaid : Prop := Claim7.holds Tryd.pinned (.plain (OpenSpec.upto flushActsSpec)) flushActsUptoCard
end Rows
end Go.Proofs.YtkoebhflbhpfnaaDoor
