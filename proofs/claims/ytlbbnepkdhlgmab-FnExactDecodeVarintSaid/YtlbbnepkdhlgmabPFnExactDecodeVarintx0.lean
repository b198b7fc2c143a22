-- PRINTED BY print.sh 35421559b90ae4d0a3588c463048766b98c2df88dd9212a6774a882060cdf62d: not written by this session
import Derived.Test.YtlbbnepkdhlgmabProg
import Derived.Below
import Derived.Deep.Draws
import Derived.Deep.AppendLies
import Derived.Maps.AppendAt
import Derived.OwnWalk
import Derived.Laws.BytesArg
import Derived.Laws.MakeOwn
import Derived.Laws.OwnMore
import Derived.Deep.OwnRows
import Derived.Tactics
import Derived.Lib.ConvBytes
import Derived.Laws.Slices
import Derived.WalkKit
import Derived.KernelRfl
import Derived.RowKit3
import Derived.Deep.LoopGhost
import Derived.Deep.QuietTactic
import Derived.BigQuiet
import Derived.WideLaws
import Derived.Deep.DeepCutAuto
import Derived.Deep.CutBlock
import Derived.Deep.RegionHeld3
import Derived.Laws.Rows
import Derived.Lib.AppendStr
import Derived.ArgAppend
import Derived.Laws.IdiomCopy
import Derived.OrdersHeld
import Derived.Laws.BitsLemmas
import Derived.RowKit
import Derived.Test.YtlbbnepkdhlgmabWWords
import Derived.Test.YtlbbnepkdhlgmabWLast
import Derived.Test.YtlbbnepkdhlgmabWTab
import Derived.Test.YtlbbnepkdhlgmabWFour
import Derived.Test.YtlbbnepkdhlgmabWQPut
import Derived.Test.YtlbbnepkdhlgmabWApart
import Derived.Test.YtlbbnepkdhlgmabWArr
import Derived.Test.YtlbbnepkdhlgmabWZeros
import Derived.Test.YtlbbnepkdhlgmabWFoot
import Derived.Test.YtlbbnepkdhlgmabWKept
import Derived.Test.YtlbbnepkdhlgmabWShare
import Derived.Test.YtlbbnepkdhlgmabWN
import Derived.Test.YtlbbnepkdhlgmabWFootNe
import Derived.Test.YtlbbnepkdhlgmabWAt
import Derived.Test.YtlbbnepkdhlgmabWEqStruct
import Derived.Test.YtlbbnepkdhlgmabWRepsOne
import Derived.Test.YtlbbnepkdhlgmabWInv
import Derived.Test.YtlbbnepkdhlgmabWInvWords
import Derived.Test.YtlbbnepkdhlgmabWGuard
import Derived.Test.YtlbbnepkdhlgmabWNEv
import Derived.Test.YtlbbnepkdhlgmabWMore
namespace Go.Proofs.Ytlbbnepkdhlgmab.PFnExactDecodeVarint
open Go.RowKit Go.Proofs.YtlbbnepkdhlgmabW.PrintWords Go.Proofs.YtlbbnepkdhlgmabW.PrintLast Go.Proofs.YtlbbnepkdhlgmabW.PrintMore
attribute [local go_sem] max2_int min2_int max_two min_two max_three min_three max_four min_four   -- for this text's walks alone
set_option linter.unusedVariables false
set_option linter.unusedSimpArgs false



def errW : Option Int → Value
  | none => .nilIface
  | some c => .iface 0 (.int .i64 c)
theorem errW_none : errW none = .nilIface := rfl
theorem errW_some (c : Int) : errW (some c) = .iface 0 (.int .i64 c) := rfl

theorem info5 : (Try.prog.info? 5).map (fun i => (i.zero, i.size, i.bytes)) = some (some (.int .u8 0), 1, 1) := by kernel_rfl
-- the values' own types

end Go.Proofs.Ytlbbnepkdhlgmab.PFnExactDecodeVarint
