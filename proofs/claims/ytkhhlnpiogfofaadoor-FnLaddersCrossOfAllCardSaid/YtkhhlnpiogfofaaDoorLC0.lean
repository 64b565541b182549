/- The walks of the functions of FnLaddersCrossOfAll, written by a program over the kit's print program (myprint.py, postprint.py): the texts' callees are told by hand (YtkhhlnpiogfofaaDoorGiven). No condition beyond the premise hR that a contract names. -/
import Derived.Test.YtkhhlnpiogfofaaDoorProg
import Derived.Below
import Derived.Deep.Draws
import Derived.Deep.AppendLies
import Derived.Maps.AppendAt
import Derived.OwnWalk
import Derived.Laws.BytesArg
import Derived.Laws.MakeOwn
import Derived.Laws.OwnMore
import Derived.Deep.OwnRows
import Derived.Tactics
import Derived.Lib.ConvBytes
import Derived.Laws.Slices
import Derived.WalkKit
import Derived.KernelRfl
import Derived.RowKit3
import Derived.Deep.LoopGhost
import Derived.Deep.QuietTactic
import Derived.BigQuiet
import Derived.WideLaws
import Derived.Deep.DeepCutAuto
import Derived.Deep.CutBlock
import Derived.Deep.RegionHeld3
import Derived.Laws.Rows
import Derived.Lib.AppendStr
import Derived.ArgAppend
import Derived.Laws.IdiomCopy
import Derived.OrdersHeld
import Derived.Laws.BitsLemmas
import Derived.RowKit
import Derived.Test.YtkhhlnpiogfofaaDoorWWords
import Derived.Test.YtkhhlnpiogfofaaDoorWLast
import Derived.Test.YtkhhlnpiogfofaaDoorWTab
import Derived.Test.YtkhhlnpiogfofaaDoorWFour
import Derived.Test.YtkhhlnpiogfofaaDoorWQPut
import Derived.Test.YtkhhlnpiogfofaaDoorWApart
import Derived.Test.YtkhhlnpiogfofaaDoorWArr
import Derived.Test.YtkhhlnpiogfofaaDoorWZeros
import Derived.Test.YtkhhlnpiogfofaaDoorWFoot
import Derived.Test.YtkhhlnpiogfofaaDoorWKept
import Derived.Test.YtkhhlnpiogfofaaDoorWShare
import Derived.Test.YtkhhlnpiogfofaaDoorWN
import Derived.Test.YtkhhlnpiogfofaaDoorWFootNe
import Derived.Test.YtkhhlnpiogfofaaDoorWAt
import Derived.Test.YtkhhlnpiogfofaaDoorWEqStruct
import Derived.Test.YtkhhlnpiogfofaaDoorWRepsOne
import Derived.Test.YtkhhlnpiogfofaaDoorWInv
import Derived.Test.YtkhhlnpiogfofaaDoorWInvWords
import Derived.Test.YtkhhlnpiogfofaaDoorWGuard
import Derived.Test.YtkhhlnpiogfofaaDoorWNEv
import Derived.Test.YtkhhlnpiogfofaaDoorWMore
namespace Go.Proofs.YtkhhlnpiogfofaaDoor.PFnLaddersCrossOfAll
open Go.RowKit Go.Proofs.YtkhhlnpiogfofaaDoorW.PrintWords Go.Proofs.YtkhhlnpiogfofaaDoorW.PrintLast Go.Proofs.YtkhhlnpiogfofaaDoorW.PrintMore
attribute [local go_sem] max2_int min2_int max_two min_two max_three min_three max_four min_four   -- for this text's walks alone
set_option linter.unusedVariables false
set_option linter.unusedSimpArgs false



def errW : Option Int → Value
  | none => .nilIface
  | some c => .iface 0 (.int .i64 c)
theorem errW_none : errW none = .nilIface := rfl
theorem errW_some (c : Int) : errW (some c) = .iface 0 (.int .i64 c) := rfl

theorem info5 : (Tryd.prog.info? 5).map (fun i => (i.zero, i.size, i.bytes)) = some (some (.int .u8 0), 1, 1) := by kernel_rfl
-- the values' own types

end Go.Proofs.YtkhhlnpiogfofaaDoor.PFnLaddersCrossOfAll
