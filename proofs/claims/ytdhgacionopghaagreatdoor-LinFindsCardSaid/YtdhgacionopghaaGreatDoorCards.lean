/-
  DERIVED. GIVEN WITH THE SEED: THE CARDS: each row of YtdhgacionopghaaGreatDoorRows.lean that lists a variable, with what it lists TIED to the program's text (the seventh form; the later family's looks); each row that meets fmt, with fmt's text TOLD by the authors' own Lean function (tested against real Go, not proved from fmt's source: count such statements apart). THE CARD IS WHAT COUNTS. Prove the row's statement (the work); the ties are given (YtdhgacionopghaaGreatDoorTie.lean); close each card by the builder's one call (the guide's Derived/Test/ToyasCard.lean, 'card_holds'). Laid BY PROGRAM, IN A SANDBOX (cutbox-door.mjs). By AI agents, Wed Nov 11 2026. No macro, syntax, notation, axiom, sorry.
-/
import Derived.Test.YtdhgacionopghaaGreatDoorRows
import GoSem.ClaimSeven
namespace Go.Proofs.YtdhgacionopghaaGreatDoor
namespace Rows

/-- THE TIED CARD OF 'sprocketlaw43.LinFinds'. -/
def linFindsCard : Claim7 := { stood := { row := linFindsRow, standIns := [], harness := (true, "c16c137d06f6db753dda7de2af8b6d28c942147c6abd8a1055d2d0fa0a8f8ff5"), looks := false }, kinds := [], alts := [], laidByText := true, laidKinds := [.data, .data, .data], laidTests := true, laidLooks := .later }
def LinFindsCardSaid : Prop := Claim7.holds Tryz.pinned (.plain (OpenSpec.ofChange linFindsSpec)) linFindsCard

/-- THE TIED CARD OF 'sprocketlaw43.LinSound'. -/
def linSoundCard : Claim7 := { stood := { row := linSoundRow, standIns := [], harness := (true, "c16c137d06f6db753dda7de2af8b6d28c942147c6abd8a1055d2d0fa0a8f8ff5"), looks := false }, kinds := [], alts := [], laidByText := true, laidKinds := [.data, .data, .data], laidTests := true, laidLooks := .later }
def LinSoundCardSaid : Prop := Claim7.holds Tryz.pinned (.plain (OpenSpec.ofChange linSoundSpec)) linSoundCard

/-- THE SECOND FORM's CARD OF 'sprocketlaw43.LinFinds'. -/
def linFindsUptoCard : Claim7 := { stood := { row := linFindsUptoRow, standIns := [], harness := (true, "c16c137d06f6db753dda7de2af8b6d28c942147c6abd8a1055d2d0fa0a8f8ff5"), looks := false }, kinds := [], alts := [], laidByText := true, laidKinds := [.data, .data, .data], laidTests := true, laidLooks := .later }
def LinFindsUptoCardSaid : Prop := Claim7.holds Tryz.pinned (.plain (OpenSpec.upto linFindsSpec)) linFindsUptoCard

/-- THE SECOND FORM's CARD OF 'sprocketlaw43.LinSound'. -/
def linSoundUptoCard : Claim7 := { stood := { row := linSoundUptoRow, standIns := [], harness := (true, "c16c137d06f6db753dda7de2af8b6d28c942147c6abd8a1055d2d0fa0a8f8ff5"), looks := false }, kinds := [], alts := [], laidByText := true, laidKinds := [.data, .data, .data], laidTests := true, laidLooks := .later }
def LinSoundUptoCardSaid : Prop := Claim7.holds Tryz.pinned (.plain (OpenSpec.upto linSoundSpec)) linSoundUptoCard
end Rows
end Go.Proofs.YtdhgacionopghaaGreatDoor
