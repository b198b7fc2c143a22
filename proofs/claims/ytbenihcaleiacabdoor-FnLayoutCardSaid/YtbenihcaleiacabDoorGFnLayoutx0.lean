/- Of each Go function that the law FnLayout reaches: a Lean function, and the proof that the call comes to just its answer; written by a turned copy of the kit's printer, with contracts typed by hand for functions that it does not take. No condition. -/
import Derived.Test.YtbenihcaleiacabDoorProg
import Derived.Below
import Derived.Deep.Draws
import Derived.Deep.AppendLies
import Derived.Maps.AppendAt
import Derived.OwnWalk
import Derived.Laws.BytesArg
import Derived.Laws.MakeOwn
import Derived.Laws.OwnMore
import Derived.Deep.OwnRows
import Derived.Tactics
import Derived.Lib.ConvBytes
import Derived.Laws.Slices
import Derived.WalkKit
import Derived.KernelRfl
import Derived.RowKit3
import Derived.Deep.LoopGhost
import Derived.Deep.QuietTactic
import Derived.BigQuiet
import Derived.WideLaws
import Derived.Deep.DeepCutAuto
import Derived.Deep.CutBlock
import Derived.Deep.RegionHeld3
import Derived.Laws.Rows
import Derived.Lib.AppendStr
import Derived.ArgAppend
import Derived.Laws.IdiomCopy
import Derived.OrdersHeld
import Derived.Laws.BitsLemmas
import Derived.RowKit
import Derived.Lib.AppendIntMem
import Derived.Lib.AtoiErrMem
import Derived.Lib.SmallJoins
import Derived.Test.YtbenihcaleiacabDoorVFnLayoutShelf
import Derived.Test.YtbenihcaleiacabDoorVFnLayoutWords
import Derived.Test.YtbenihcaleiacabDoorVFnLayoutLast
import Derived.Test.YtbenihcaleiacabDoorVFnLayoutTab
import Derived.Test.YtbenihcaleiacabDoorVFnLayoutFour
import Derived.Test.YtbenihcaleiacabDoorVFnLayoutQPut
import Derived.Test.YtbenihcaleiacabDoorVFnLayoutApart
import Derived.Test.YtbenihcaleiacabDoorVFnLayoutArr
import Derived.Test.YtbenihcaleiacabDoorVFnLayoutZeros
import Derived.Test.YtbenihcaleiacabDoorVFnLayoutFoot
import Derived.Test.YtbenihcaleiacabDoorVFnLayoutKept
import Derived.Test.YtbenihcaleiacabDoorVFnLayoutShare
import Derived.Test.YtbenihcaleiacabDoorVFnLayoutN
import Derived.Test.YtbenihcaleiacabDoorVFnLayoutFootNe
import Derived.Test.YtbenihcaleiacabDoorVFnLayoutAt
import Derived.Test.YtbenihcaleiacabDoorVFnLayoutEqStruct
import Derived.Test.YtbenihcaleiacabDoorVFnLayoutRepsOne
import Derived.Test.YtbenihcaleiacabDoorVFnLayoutInv
import Derived.Test.YtbenihcaleiacabDoorVFnLayoutInvWords
import Derived.Test.YtbenihcaleiacabDoorVFnLayoutGuard
import Derived.Test.YtbenihcaleiacabDoorVFnLayoutNEv
import Derived.Test.YtbenihcaleiacabDoorVFnLayoutMore
namespace Go.Proofs.YtbenihcaleiacabDoor.GFnLayout
open Go.RowKit Go.Proofs.YtbenihcaleiacabDoorW.PrintWords Go.Proofs.YtbenihcaleiacabDoorW.PrintLast Go.Proofs.YtbenihcaleiacabDoorW.PrintMore
attribute [local go_sem] max2_int min2_int max_two min_two max_three min_three max_four min_four   -- for this text's walks alone
set_option linter.unusedVariables false
set_option linter.unusedSimpArgs false



def errW : Option Int → Value
  | none => .nilIface
  | some c => .iface 0 (.int .i64 c)
theorem errW_none : errW none = .nilIface := rfl
theorem errW_some (c : Int) : errW (some c) = .iface 0 (.int .i64 c) := rfl

theorem info3 : (Tryd.prog.info? 3).map (fun i => (i.zero, i.size, i.bytes)) = some (some (.int .i64 0), 1, 8) := by kernel_rfl
theorem info5 : (Tryd.prog.info? 5).map (fun i => (i.zero, i.size, i.bytes)) = some (some (.int .u8 0), 1, 1) := by kernel_rfl
theorem info9 : (Tryd.prog.info? 9).map (fun i => (i.zero, i.size, i.bytes)) = some (some (.string ⟨#[]⟩), 1, 16) := by kernel_rfl
-- the values' own types

end Go.Proofs.YtbenihcaleiacabDoor.GFnLayout
