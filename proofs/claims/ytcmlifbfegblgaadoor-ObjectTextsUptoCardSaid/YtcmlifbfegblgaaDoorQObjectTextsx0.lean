-- Written by a program of this session (wip/tools/qprint.py) for the claim ObjectTexts.
import Derived.Test.YtcmlifbfegblgaaDoorProg
import Derived.Test.YtcmlifbfegblgaaDoorQw
import Derived.Below
import Derived.Deep.Draws
import Derived.Deep.AppendLies
import Derived.Maps.AppendAt
import Derived.OwnWalk
import Derived.Laws.BytesArg
import Derived.Laws.MakeOwn
import Derived.Laws.OwnMore
import Derived.Deep.OwnRows
import Derived.Tactics
import Derived.Lib.ConvBytes
import Derived.Laws.Slices
import Derived.WalkKit
import Derived.KernelRfl
import Derived.RowKit3
import Derived.Deep.LoopGhost
import Derived.Deep.QuietTactic
import Derived.BigQuiet
import Derived.WideLaws
import Derived.Deep.DeepCutAuto
import Derived.Deep.CutBlock
import Derived.Deep.RegionHeld3
import Derived.Laws.Rows
import Derived.Lib.AppendStr
import Derived.ArgAppend
import Derived.Laws.IdiomCopy
import Derived.OrdersHeld
import Derived.Laws.BitsLemmas
import Derived.RowKit
import Derived.Test.YtcmlifbfegblgaaDoorWWords
import Derived.Test.YtcmlifbfegblgaaDoorWLast
import Derived.Test.YtcmlifbfegblgaaDoorWTab
import Derived.Test.YtcmlifbfegblgaaDoorWQPut
import Derived.Test.YtcmlifbfegblgaaDoorWApart
import Derived.Test.YtcmlifbfegblgaaDoorWArr
import Derived.Test.YtcmlifbfegblgaaDoorWZeros
import Derived.Test.YtcmlifbfegblgaaDoorWFoot
import Derived.Test.YtcmlifbfegblgaaDoorWKept
import Derived.Test.YtcmlifbfegblgaaDoorWShare
import Derived.Test.YtcmlifbfegblgaaDoorWN
import Derived.Test.YtcmlifbfegblgaaDoorWRepsOne
import Derived.Test.YtcmlifbfegblgaaDoorWGuard
import Derived.Test.YtcmlifbfegblgaaDoorWNEv
import Derived.Test.YtcmlifbfegblgaaDoorWMore
namespace Go.Proofs.YtcmlifbfegblgaaDoor.QObjectTexts
open Go.RowKit Go.Proofs.YtcmlifbfegblgaaDoorW.PrintWords Go.Proofs.YtcmlifbfegblgaaDoorW.PrintLast Go.Proofs.YtcmlifbfegblgaaDoorW.PrintMore
attribute [local go_sem] max2_int min2_int max_two min_two max_three min_three max_four min_four   -- for this text's walks alone
attribute [local go_sem] Go.Proofs.YtcmlifbfegblgaaDoor.str_leq Go.Proofs.YtcmlifbfegblgaaDoor.str_gtr Go.Proofs.YtcmlifbfegblgaaDoor.str_geq
set_option linter.unusedVariables false
set_option linter.unusedSimpArgs false



def errW : Option Int → Value
  | none => .nilIface
  | some c => .iface 0 (.int .i64 c)
theorem errW_none : errW none = .nilIface := rfl
theorem errW_some (c : Int) : errW (some c) = .iface 0 (.int .i64 c) := rfl

theorem info5 : (Tryd.prog.info? 5).map (fun i => (i.zero, i.size, i.bytes)) = some (some (.int .u8 0), 1, 1) := by kernel_rfl
-- the values' own types

end Go.Proofs.YtcmlifbfegblgaaDoor.QObjectTexts
