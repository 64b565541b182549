-- PRINTED BY print.sh 35421559b90ae4d0a3588c463048766b98c2df88dd9212a6774a882060cdf62d: not written by this session
import Derived.Test.YtheeghlfckhdeaaProg
import Derived.Below
import Derived.Deep.Draws
import Derived.Deep.AppendLies
import Derived.Maps.AppendAt
import Derived.OwnWalk
import Derived.Laws.BytesArg
import Derived.Laws.MakeOwn
import Derived.Laws.OwnMore
import Derived.Deep.OwnRows
import Derived.Tactics
import Derived.Lib.ConvBytes
import Derived.Laws.Slices
import Derived.WalkKit
import Derived.KernelRfl
import Derived.RowKit3
import Derived.Deep.LoopGhost
import Derived.Deep.QuietTactic
import Derived.BigQuiet
import Derived.WideLaws
import Derived.Deep.DeepCutAuto
import Derived.Deep.CutBlock
import Derived.Deep.RegionHeld3
import Derived.Laws.Rows
import Derived.Lib.AppendStr
import Derived.ArgAppend
import Derived.Laws.IdiomCopy
import Derived.OrdersHeld
import Derived.Laws.BitsLemmas
import Derived.RowKit
import Derived.Test.YtheeghlfckhdeaaWWords
import Derived.Test.YtheeghlfckhdeaaWLast
import Derived.Test.YtheeghlfckhdeaaWTab
import Derived.Test.YtheeghlfckhdeaaWFour
import Derived.Test.YtheeghlfckhdeaaWQPut
import Derived.Test.YtheeghlfckhdeaaWApart
import Derived.Test.YtheeghlfckhdeaaWArr
import Derived.Test.YtheeghlfckhdeaaWZeros
import Derived.Test.YtheeghlfckhdeaaWFoot
import Derived.Test.YtheeghlfckhdeaaWKept
import Derived.Test.YtheeghlfckhdeaaWShare
import Derived.Test.YtheeghlfckhdeaaWN
import Derived.Test.YtheeghlfckhdeaaWFootNe
import Derived.Test.YtheeghlfckhdeaaWAt
import Derived.Test.YtheeghlfckhdeaaWEqStruct
import Derived.Test.YtheeghlfckhdeaaWRepsOne
import Derived.Test.YtheeghlfckhdeaaWInv
import Derived.Test.YtheeghlfckhdeaaWInvWords
import Derived.Test.YtheeghlfckhdeaaWGuard
import Derived.Test.YtheeghlfckhdeaaWNEv
import Derived.Test.YtheeghlfckhdeaaWMore
namespace Go.Proofs.Ytheeghlfckhdeaa.PFnExactBackBeam
open Go.RowKit Go.Proofs.YtheeghlfckhdeaaW.PrintWords Go.Proofs.YtheeghlfckhdeaaW.PrintLast Go.Proofs.YtheeghlfckhdeaaW.PrintMore
attribute [local go_sem] max2_int min2_int max_two min_two max_three min_three max_four min_four   -- for this text's walks alone
set_option linter.unusedVariables false
set_option linter.unusedSimpArgs false



def errW : Option Int → Value
  | none => .nilIface
  | some c => .iface 0 (.int .i64 c)
theorem errW_none : errW none = .nilIface := rfl
theorem errW_some (c : Int) : errW (some c) = .iface 0 (.int .i64 c) := rfl

-- the values' own types

end Go.Proofs.Ytheeghlfckhdeaa.PFnExactBackBeam
