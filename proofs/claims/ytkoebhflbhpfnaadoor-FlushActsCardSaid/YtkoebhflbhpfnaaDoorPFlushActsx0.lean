-- PRINTED BY print.sh 35421559b90ae4d0a3588c463048766b98c2df88dd9212a6774a882060cdf62d: not written by this session
import Derived.Test.YtkoebhflbhpfnaaDoorProg
import Derived.Below
import Derived.Deep.Draws
import Derived.Deep.AppendLies
import Derived.Maps.AppendAt
import Derived.OwnWalk
import Derived.Laws.BytesArg
import Derived.Laws.MakeOwn
import Derived.Laws.OwnMore
import Derived.Deep.OwnRows
import Derived.Tactics
import Derived.Lib.ConvBytes
import Derived.Laws.Slices
import Derived.WalkKit
import Derived.KernelRfl
import Derived.RowKit3
import Derived.Deep.LoopGhost
import Derived.Deep.QuietTactic
import Derived.BigQuiet
import Derived.WideLaws
import Derived.Deep.DeepCutAuto
import Derived.Deep.CutBlock
import Derived.Deep.RegionHeld3
import Derived.Laws.Rows
import Derived.Lib.AppendStr
import Derived.ArgAppend
import Derived.Laws.IdiomCopy
import Derived.OrdersHeld
import Derived.Laws.BitsLemmas
import Derived.RowKit
import Derived.Test.YtkoebhflbhpfnaaDoorWWords
import Derived.Test.YtkoebhflbhpfnaaDoorWLast
import Derived.Test.YtkoebhflbhpfnaaDoorWTab
import Derived.Test.YtkoebhflbhpfnaaDoorWFour
import Derived.Test.YtkoebhflbhpfnaaDoorWQPut
import Derived.Test.YtkoebhflbhpfnaaDoorWApart
import Derived.Test.YtkoebhflbhpfnaaDoorWArr
import Derived.Test.YtkoebhflbhpfnaaDoorWZeros
import Derived.Test.YtkoebhflbhpfnaaDoorWFoot
import Derived.Test.YtkoebhflbhpfnaaDoorWKept
import Derived.Test.YtkoebhflbhpfnaaDoorWShare
import Derived.Test.YtkoebhflbhpfnaaDoorWN
import Derived.Test.YtkoebhflbhpfnaaDoorWFootNe
import Derived.Test.YtkoebhflbhpfnaaDoorWAt
import Derived.Test.YtkoebhflbhpfnaaDoorWEqStruct
import Derived.Test.YtkoebhflbhpfnaaDoorWRepsOne
import Derived.Test.YtkoebhflbhpfnaaDoorWInv
import Derived.Test.YtkoebhflbhpfnaaDoorWInvWords
import Derived.Test.YtkoebhflbhpfnaaDoorWGuard
import Derived.Test.YtkoebhflbhpfnaaDoorWNEv
import Derived.Test.YtkoebhflbhpfnaaDoorWMore
namespace Go.Proofs.YtkoebhflbhpfnaaDoor.PFlushActs
open Go.RowKit Go.Proofs.YtkoebhflbhpfnaaDoorW.PrintWords Go.Proofs.YtkoebhflbhpfnaaDoorW.PrintLast Go.Proofs.YtkoebhflbhpfnaaDoorW.PrintMore
attribute [local go_sem] max2_int min2_int max_two min_two max_three min_three max_four min_four   -- for this text's walks alone
set_option linter.unusedVariables false
set_option linter.unusedSimpArgs false



def errW : Option Int → Value
  | none => .nilIface
  | some c => .iface 0 (.int .i64 c)
theorem errW_none : errW none = .nilIface := rfl
theorem errW_some (c : Int) : errW (some c) = .iface 0 (.int .i64 c) := rfl

theorem info22 : (Tryd.prog.info? 22).map (fun i => (i.zero, i.size, i.bytes)) = some (some (.int .u64 0), 1, 8) := by kernel_rfl
-- the values' own types

end Go.Proofs.YtkoebhflbhpfnaaDoor.PFlushActs
