/-
  No cell of these rows narrows 'for every input' (looked for: loops, veiled, ifaces, maps, wideKeys, modest, calm, conditions, laid).
  DERIVED. THE GIVEN ROWS OF THIS SEAT. 6 by the template 'for every input the law returns true; each argument reads behind the call as it read before'; 0 by the template 'total and deterministic' (their statements: YtdhgacionopghaaTotals.lean).
  GIVEN WITH THE SEED: the statements are not yours to turn. If you find one false, say at which input.
  Laid BY PROGRAM, IN A SANDBOX (cutbox-rows.mjs): the forced cells as the released guide's own fill.sh prints them over the translation 1985519ffee64a4b… (all of the seat's roots in one cut). By AI agents, Wed Nov 11 2026. No macro, syntax, notation, axiom, sorry.
-/
import Derived.Test.YtdhgacionopghaaChecked
import GoSem.Claim
import GoSem.ClaimJoined
import GoSem.ClaimMapViews
import Derived.JoinedTies
import Derived.KernelRfl
namespace Go.Proofs.Ytdhgacionopghaa
/- THE CELL 'sum', in the pinned program and in every row, IS THE sha256 OF THE DUMP (.gsa) THAT YtdhgacionopghaaProg.lean LOADS. Nothing in Lean hashes anything: it is a label: what it is worth is what the hold of that sum in a sandbox is worth. -/
noncomputable def Try.pinned : Pinned := { name := "ytdhgacionopghaa", sum := "1985519ffee64a4be5f87c32d893ab4c2032ea4550ba9038b0a7ccef81f232c5", checked := Try.checked }
namespace Rows
def none {H : Type} : Left H := { results := [], args := [] }

/-- 'sprocketlaw07.SpecDoes': WHATEVER THE INPUT: true; the input reads as it did. -/
def specDoesSpec : ChangeSpec := { name := "specDoes", fn := fun _ => fun
  | [d] => { results := [.lit (.bool true)], args := [d] }
  | _ => none }
def specDoesRow : OpenClaim := { program := "ytdhgacionopghaa", sum := "1985519ffee64a4be5f87c32d893ab4c2032ea4550ba9038b0a7ccef81f232c5", func := "sprocket/sprocketlaw07.SpecDoes", spec := "specDoes", inPlace := ["slices.overlaps[string]"], unfollowed := true, recurses := true, apart := false }
def SpecDoesSaid : Prop := specDoesRow.holds Try.pinned (OpenSpec.ofChange specDoesSpec)

/-- ITS FALSE NEIGHBOUR: 'it returns false'. Refute it at one input. -/
def specDoesWrong : ChangeSpec := { name := "specDoes", fn := fun _ => fun
  | [d] => { results := [.lit (.bool false)], args := [d] }
  | _ => none }
def SpecDoesWrongFalsely : Prop := specDoesRow.holds Try.pinned (OpenSpec.ofChange specDoesWrong)

/-- 'sprocketlaw07.SpecAllows': WHATEVER THE INPUT: true; the input reads as it did. -/
def specAllowsSpec : ChangeSpec := { name := "specAllows", fn := fun _ => fun
  | [d1, d2, d3] => { results := [.lit (.bool true)], args := [d1, d2, d3] }
  | _ => none }
def specAllowsRow : OpenClaim := { program := "ytdhgacionopghaa", sum := "1985519ffee64a4be5f87c32d893ab4c2032ea4550ba9038b0a7ccef81f232c5", func := "sprocket/sprocketlaw07.SpecAllows", spec := "specAllows", inPlace := ["slices.overlaps[string]"], unfollowed := true, recurses := true, apart := false }
def SpecAllowsSaid : Prop := specAllowsRow.holds Try.pinned (OpenSpec.ofChange specAllowsSpec)

/-- ITS FALSE NEIGHBOUR: 'it returns false'. Refute it at one input. -/
def specAllowsWrong : ChangeSpec := { name := "specAllows", fn := fun _ => fun
  | [d1, d2, d3] => { results := [.lit (.bool false)], args := [d1, d2, d3] }
  | _ => none }
def SpecAllowsWrongFalsely : Prop := specAllowsRow.holds Try.pinned (OpenSpec.ofChange specAllowsWrong)

/-- 'sprocketlaw07.SpecKeeps': WHATEVER THE INPUT: true; the input reads as it did. -/
def specKeepsSpec : ChangeSpec := { name := "specKeeps", fn := fun _ => fun
  | [d1, d2] => { results := [.lit (.bool true)], args := [d1, d2] }
  | _ => none }
def specKeepsRow : OpenClaim := { program := "ytdhgacionopghaa", sum := "1985519ffee64a4be5f87c32d893ab4c2032ea4550ba9038b0a7ccef81f232c5", func := "sprocket/sprocketlaw07.SpecKeeps", spec := "specKeeps", inPlace := ["slices.overlaps[string]"], unfollowed := true, recurses := true, apart := false }
def SpecKeepsSaid : Prop := specKeepsRow.holds Try.pinned (OpenSpec.ofChange specKeepsSpec)

/-- ITS FALSE NEIGHBOUR: 'it returns false'. Refute it at one input. -/
def specKeepsWrong : ChangeSpec := { name := "specKeeps", fn := fun _ => fun
  | [d1, d2] => { results := [.lit (.bool false)], args := [d1, d2] }
  | _ => none }
def SpecKeepsWrongFalsely : Prop := specKeepsRow.holds Try.pinned (OpenSpec.ofChange specKeepsWrong)

/-- 'sprocketlaw42.OrderChecks': WHATEVER THE INPUT: true; the input reads as it did. -/
def orderChecksSpec : ChangeSpec := { name := "orderChecks", fn := fun _ => fun
  | [d1, d2] => { results := [.lit (.bool true)], args := [d1, d2] }
  | _ => none }
def orderChecksRow : OpenClaim := { program := "ytdhgacionopghaa", sum := "1985519ffee64a4be5f87c32d893ab4c2032ea4550ba9038b0a7ccef81f232c5", func := "sprocket/sprocketlaw42.OrderChecks", spec := "orderChecks", inPlace := ["slices.overlaps[string]"], unfollowed := true, recurses := true, apart := false }
def OrderChecksSaid : Prop := orderChecksRow.holds Try.pinned (OpenSpec.ofChange orderChecksSpec)

/-- ITS FALSE NEIGHBOUR: 'it returns false'. Refute it at one input. -/
def orderChecksWrong : ChangeSpec := { name := "orderChecks", fn := fun _ => fun
  | [d1, d2] => { results := [.lit (.bool false)], args := [d1, d2] }
  | _ => none }
def OrderChecksWrongFalsely : Prop := orderChecksRow.holds Try.pinned (OpenSpec.ofChange orderChecksWrong)

/-- 'sprocketlaw42.OrderSpans': WHATEVER THE INPUT: true; the input reads as it did. -/
def orderSpansSpec : ChangeSpec := { name := "orderSpans", fn := fun _ => fun
  | [d1, d2, d3] => { results := [.lit (.bool true)], args := [d1, d2, d3] }
  | _ => none }
def orderSpansRow : OpenClaim := { program := "ytdhgacionopghaa", sum := "1985519ffee64a4be5f87c32d893ab4c2032ea4550ba9038b0a7ccef81f232c5", func := "sprocket/sprocketlaw42.OrderSpans", spec := "orderSpans", inPlace := ["slices.overlaps[string]"], unfollowed := true, recurses := true, apart := false }
def OrderSpansSaid : Prop := orderSpansRow.holds Try.pinned (OpenSpec.ofChange orderSpansSpec)

/-- ITS FALSE NEIGHBOUR: 'it returns false'. Refute it at one input. -/
def orderSpansWrong : ChangeSpec := { name := "orderSpans", fn := fun _ => fun
  | [d1, d2, d3] => { results := [.lit (.bool false)], args := [d1, d2, d3] }
  | _ => none }
def OrderSpansWrongFalsely : Prop := orderSpansRow.holds Try.pinned (OpenSpec.ofChange orderSpansWrong)

/-- 'sprocketlaw42.OrderSteps': WHATEVER THE INPUT: true; the input reads as it did. -/
def orderStepsSpec : ChangeSpec := { name := "orderSteps", fn := fun _ => fun
  | [d1, d2] => { results := [.lit (.bool true)], args := [d1, d2] }
  | _ => none }
def orderStepsRow : OpenClaim := { program := "ytdhgacionopghaa", sum := "1985519ffee64a4be5f87c32d893ab4c2032ea4550ba9038b0a7ccef81f232c5", func := "sprocket/sprocketlaw42.OrderSteps", spec := "orderSteps", inPlace := ["slices.overlaps[string]"], unfollowed := true, recurses := true, apart := false }
def OrderStepsSaid : Prop := orderStepsRow.holds Try.pinned (OpenSpec.ofChange orderStepsSpec)

/-- ITS FALSE NEIGHBOUR: 'it returns false'. Refute it at one input. -/
def orderStepsWrong : ChangeSpec := { name := "orderSteps", fn := fun _ => fun
  | [d1, d2] => { results := [.lit (.bool false)], args := [d1, d2] }
  | _ => none }
def OrderStepsWrongFalsely : Prop := orderStepsRow.holds Try.pinned (OpenSpec.ofChange orderStepsWrong)

/- THE SECOND FORM. 'bulk': how many values and letters a reading holds, each counted each time it is reached (what is shared counts as often as it is met; a slice's spare places count too). A statement '..UptoSaid' is the law's where the arguments, and the package variables that the reading takes, are together of bulk at most 1048576: NARROWER than '..Said'. Prove '..Said' where nothing that the law and all that it calls make is longer than what came in: it says more and counts as full. Else prove '..UptoSaid'. A law counts once. -/
mutual
def uptoBulk {H : Type} : DataW H → Nat
  | .lit (.string bytes) => bytes.length + 1
  | .lit _ => 1
  | .nil => 1
  | .ptr d => uptoBulk d + 1
  | .slice elems spare => uptoBulkAll elems + uptoBulkAll spare + 1
  | .agg parts => uptoBulkAll parts + 1
  | .iface _ d => uptoBulk d + 1
  | .map entries => uptoBulkEntries entries + 1
  | .held _ => 1
def uptoBulkAll {H : Type} : List (DataW H) → Nat
  | [] => 0
  | d :: r => uptoBulk d + uptoBulkAll r
def uptoBulkEntries {H : Type} : List (Lit × DataW H) → Nat
  | [] => 0
  | x :: r => uptoBulkEntry x + uptoBulkEntries r
def uptoBulkEntry {H : Type} : Lit × DataW H → Nat
  | (.string bytes, d) => bytes.length + uptoBulk d + 1
  | (_, d) => uptoBulk d + 1
 end
def uptoSmall : (H : Type) → List (DataW H) → Bool := fun _ ds => decide (uptoBulkAll ds ≤ 1048576)
def OpenSpec.upto (s : _root_.Go.ChangeSpec) : _root_.Go.OpenSpec := { _root_.Go.OpenSpec.ofChange s with cond := some uptoSmall }

/-- 'sprocketlaw07.SpecDoes', WHERE WHAT IT READS IS OF BULK AT MOST 1048576: true; the input reads as it did. -/
def specDoesUptoRow : OpenClaim := { program := "ytdhgacionopghaa", sum := "1985519ffee64a4be5f87c32d893ab4c2032ea4550ba9038b0a7ccef81f232c5", func := "sprocket/sprocketlaw07.SpecDoes", spec := "specDoes", inPlace := ["slices.overlaps[string]"], unfollowed := true, recurses := true, apart := false, narrowed := true }
def SpecDoesUptoSaid : Prop := specDoesUptoRow.holds Try.pinned (OpenSpec.upto specDoesSpec)

/-- 'sprocketlaw07.SpecAllows', WHERE WHAT IT READS IS OF BULK AT MOST 1048576: true; the input reads as it did. -/
def specAllowsUptoRow : OpenClaim := { program := "ytdhgacionopghaa", sum := "1985519ffee64a4be5f87c32d893ab4c2032ea4550ba9038b0a7ccef81f232c5", func := "sprocket/sprocketlaw07.SpecAllows", spec := "specAllows", inPlace := ["slices.overlaps[string]"], unfollowed := true, recurses := true, apart := false, narrowed := true }
def SpecAllowsUptoSaid : Prop := specAllowsUptoRow.holds Try.pinned (OpenSpec.upto specAllowsSpec)

/-- 'sprocketlaw07.SpecKeeps', WHERE WHAT IT READS IS OF BULK AT MOST 1048576: true; the input reads as it did. -/
def specKeepsUptoRow : OpenClaim := { program := "ytdhgacionopghaa", sum := "1985519ffee64a4be5f87c32d893ab4c2032ea4550ba9038b0a7ccef81f232c5", func := "sprocket/sprocketlaw07.SpecKeeps", spec := "specKeeps", inPlace := ["slices.overlaps[string]"], unfollowed := true, recurses := true, apart := false, narrowed := true }
def SpecKeepsUptoSaid : Prop := specKeepsUptoRow.holds Try.pinned (OpenSpec.upto specKeepsSpec)

/-- 'sprocketlaw42.OrderChecks', WHERE WHAT IT READS IS OF BULK AT MOST 1048576: true; the input reads as it did. -/
def orderChecksUptoRow : OpenClaim := { program := "ytdhgacionopghaa", sum := "1985519ffee64a4be5f87c32d893ab4c2032ea4550ba9038b0a7ccef81f232c5", func := "sprocket/sprocketlaw42.OrderChecks", spec := "orderChecks", inPlace := ["slices.overlaps[string]"], unfollowed := true, recurses := true, apart := false, narrowed := true }
def OrderChecksUptoSaid : Prop := orderChecksUptoRow.holds Try.pinned (OpenSpec.upto orderChecksSpec)

/-- 'sprocketlaw42.OrderSpans', WHERE WHAT IT READS IS OF BULK AT MOST 1048576: true; the input reads as it did. -/
def orderSpansUptoRow : OpenClaim := { program := "ytdhgacionopghaa", sum := "1985519ffee64a4be5f87c32d893ab4c2032ea4550ba9038b0a7ccef81f232c5", func := "sprocket/sprocketlaw42.OrderSpans", spec := "orderSpans", inPlace := ["slices.overlaps[string]"], unfollowed := true, recurses := true, apart := false, narrowed := true }
def OrderSpansUptoSaid : Prop := orderSpansUptoRow.holds Try.pinned (OpenSpec.upto orderSpansSpec)

/-- 'sprocketlaw42.OrderSteps', WHERE WHAT IT READS IS OF BULK AT MOST 1048576: true; the input reads as it did. -/
def orderStepsUptoRow : OpenClaim := { program := "ytdhgacionopghaa", sum := "1985519ffee64a4be5f87c32d893ab4c2032ea4550ba9038b0a7ccef81f232c5", func := "sprocket/sprocketlaw42.OrderSteps", spec := "orderSteps", inPlace := ["slices.overlaps[string]"], unfollowed := true, recurses := true, apart := false, narrowed := true }
def OrderStepsUptoSaid : Prop := orderStepsUptoRow.holds Try.pinned (OpenSpec.upto orderStepsSpec)

end Rows
end Go.Proofs.Ytdhgacionopghaa
