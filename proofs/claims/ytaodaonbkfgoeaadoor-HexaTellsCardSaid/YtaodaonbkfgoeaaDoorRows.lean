/-
  NARROWER THAN 'FOR EVERY INPUT', by the rows' own cells (each row's printed sentence says how): HexaTells: laid · HexaBack: laid.
  DERIVED. THE GIVEN ROWS OF THIS SEAT. 2 by the template 'for every input the law returns true; each argument reads behind the call as it read before'; 0 by the template 'total and deterministic' (their statements: YtaodaonbkfgoeaaDoorTotals.lean).
  GIVEN WITH THE SEED: the statements are not yours to turn. If you find one false, say at which input.
  Laid BY PROGRAM, IN A SANDBOX (cutbox-rows.mjs): the forced cells as the released guide's own fill.sh prints them over the translation 27612ab2209fe18b… (all of the seat's roots in one cut). By AI agents, Wed Nov 11 2026. No macro, syntax, notation, axiom, sorry.
-/
import Derived.Test.YtaodaonbkfgoeaaDoorChecked
import GoSem.Claim
import GoSem.ClaimJoined
import GoSem.ClaimMapViews
import Derived.JoinedTies
import Derived.KernelRfl
namespace Go.Proofs.YtaodaonbkfgoeaaDoor
/- THE CELL 'sum', in the pinned program and in every row, IS THE sha256 OF THE DUMP (.gsa) THAT YtaodaonbkfgoeaaDoorProg.lean LOADS. Nothing in Lean hashes anything: it is a label: what it is worth is what the hold of that sum in a sandbox is worth. -/
noncomputable def Tryd.pinned : Pinned := { name := "ytaodaonbkfgoeaadoor", sum := "27612ab2209fe18bdaec24afc38387433ed0defd5e9eb222d59a82c10482fc9a", checked := Tryd.checked }
namespace Rows
def none {H : Type} : Left H := { results := [], args := [] }

/- WHAT THE LISTED PACKAGE-LEVEL VARIABLES READ AS WHEN THE CALL BEGINS. Each datum BY PROGRAM (the guide's laid-datum.mjs) off the statement by which the dump's own 'gosem.cut.vars' lays the variable. In a bare row this is a premise. The card (YtaodaonbkfgoeaaDoorCards.lean) ties it to the program's text. -/
def laid_sprocket_hexa_digits {H : Type} : DataW H := .agg [.lit (.int .u8 48), .lit (.int .u8 49), .lit (.int .u8 50), .lit (.int .u8 51), .lit (.int .u8 52), .lit (.int .u8 53), .lit (.int .u8 54), .lit (.int .u8 55), .lit (.int .u8 56), .lit (.int .u8 57), .lit (.int .u8 97), .lit (.int .u8 98), .lit (.int .u8 99), .lit (.int .u8 100), .lit (.int .u8 101), .lit (.int .u8 102)]

/-- 'sprocketlaw05.HexaTells': WHATEVER THE INPUT: true; the input reads as it did. -/
def hexaTellsSpec : ChangeSpec := { name := "hexaTells", fn := fun _ => fun
  | [d1, d2] => { results := [.lit (.bool true)], args := [d1, d2] }
  | _ => none }
def hexaTellsRow : OpenClaim := { program := "ytaodaonbkfgoeaadoor", sum := "27612ab2209fe18bdaec24afc38387433ed0defd5e9eb222d59a82c10482fc9a", func := "sprocket/sprocketlaw05.HexaTells", spec := "hexaTells", named := ["sprocket/hexa.digits"], apart := false, laid := [("sprocket/hexa.digits", laid_sprocket_hexa_digits)] }
def HexaTellsSaid : Prop := hexaTellsRow.holds Tryd.pinned (OpenSpec.ofChange hexaTellsSpec)

/-- ITS FALSE NEIGHBOUR: 'it returns false'. Refute it at one input. -/
def hexaTellsWrong : ChangeSpec := { name := "hexaTells", fn := fun _ => fun
  | [d1, d2] => { results := [.lit (.bool false)], args := [d1, d2] }
  | _ => none }
def HexaTellsWrongFalsely : Prop := hexaTellsRow.holds Tryd.pinned (OpenSpec.ofChange hexaTellsWrong)

/-- 'sprocketlaw05.HexaBack': WHATEVER THE INPUT: true; the input reads as it did. -/
def hexaBackSpec : ChangeSpec := { name := "hexaBack", fn := fun _ => fun
  | [d1, d2] => { results := [.lit (.bool true)], args := [d1, d2] }
  | _ => none }
def hexaBackRow : OpenClaim := { program := "ytaodaonbkfgoeaadoor", sum := "27612ab2209fe18bdaec24afc38387433ed0defd5e9eb222d59a82c10482fc9a", func := "sprocket/sprocketlaw05.HexaBack", spec := "hexaBack", named := ["sprocket/hexa.digits"], apart := false, laid := [("sprocket/hexa.digits", laid_sprocket_hexa_digits)] }
def HexaBackSaid : Prop := hexaBackRow.holds Tryd.pinned (OpenSpec.ofChange hexaBackSpec)

/-- ITS FALSE NEIGHBOUR: 'it returns false'. Refute it at one input. -/
def hexaBackWrong : ChangeSpec := { name := "hexaBack", fn := fun _ => fun
  | [d1, d2] => { results := [.lit (.bool false)], args := [d1, d2] }
  | _ => none }
def HexaBackWrongFalsely : Prop := hexaBackRow.holds Tryd.pinned (OpenSpec.ofChange hexaBackWrong)

/- THE SECOND FORM. 'bulk': how many values and letters a reading holds, each counted each time it is reached (what is shared counts as often as it is met; a slice's spare places count too). A statement '..UptoSaid' is the law's where the arguments, and the package variables that the reading takes, are together of bulk at most 1048576: NARROWER than '..Said'. Prove '..Said' where nothing that the law and all that it calls make is longer than what came in: it says more and counts as full. Else prove '..UptoSaid'. A law counts once. -/
mutual
def uptoBulk {H : Type} : DataW H → Nat
  | .lit (.string bytes) => bytes.length + 1
  | .lit _ => 1
  | .nil => 1
  | .ptr d => uptoBulk d + 1
  | .slice elems spare => uptoBulkAll elems + uptoBulkAll spare + 1
  | .agg parts => uptoBulkAll parts + 1
  | .iface _ d => uptoBulk d + 1
  | .map entries => uptoBulkEntries entries + 1
  | .held _ => 1
def uptoBulkAll {H : Type} : List (DataW H) → Nat
  | [] => 0
  | d :: r => uptoBulk d + uptoBulkAll r
def uptoBulkEntries {H : Type} : List (Lit × DataW H) → Nat
  | [] => 0
  | x :: r => uptoBulkEntry x + uptoBulkEntries r
def uptoBulkEntry {H : Type} : Lit × DataW H → Nat
  | (.string bytes, d) => bytes.length + uptoBulk d + 1
  | (_, d) => uptoBulk d + 1
 end
def uptoSmall : (H : Type) → List (DataW H) → Bool := fun _ ds => decide (uptoBulkAll ds ≤ 1048576)
def OpenSpec.upto (s : _root_.Go.ChangeSpec) : _root_.Go.OpenSpec := { _root_.Go.OpenSpec.ofChange s with cond := some uptoSmall }

/-- 'sprocketlaw05.HexaTells', WHERE WHAT IT READS IS OF BULK AT MOST 1048576: true; the input reads as it did. -/
def hexaTellsUptoRow : OpenClaim := { program := "ytaodaonbkfgoeaadoor", sum := "27612ab2209fe18bdaec24afc38387433ed0defd5e9eb222d59a82c10482fc9a", func := "sprocket/sprocketlaw05.HexaTells", spec := "hexaTells", named := ["sprocket/hexa.digits"], apart := false, laid := [("sprocket/hexa.digits", laid_sprocket_hexa_digits)], narrowed := true }
def HexaTellsUptoSaid : Prop := hexaTellsUptoRow.holds Tryd.pinned (OpenSpec.upto hexaTellsSpec)

/-- 'sprocketlaw05.HexaBack', WHERE WHAT IT READS IS OF BULK AT MOST 1048576: true; the input reads as it did. -/
def hexaBackUptoRow : OpenClaim := { program := "ytaodaonbkfgoeaadoor", sum := "27612ab2209fe18bdaec24afc38387433ed0defd5e9eb222d59a82c10482fc9a", func := "sprocket/sprocketlaw05.HexaBack", spec := "hexaBack", named := ["sprocket/hexa.digits"], apart := false, laid := [("sprocket/hexa.digits", laid_sprocket_hexa_digits)], narrowed := true }
def HexaBackUptoSaid : Prop := hexaBackUptoRow.holds Tryd.pinned (OpenSpec.upto hexaBackSpec)

end Rows
end Go.Proofs.YtaodaonbkfgoeaaDoor
