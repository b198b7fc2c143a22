/- Of the words that the printed texts of this seat use: those that this claim's texts name, as the kit's print laid them. No condition. -/
import Derived.Test.YtbenihcaleiacabDoorVFnLayoutInv
import Derived.Test.YtbenihcaleiacabDoorVFnLayoutFootNe
namespace Go.Proofs.YtbenihcaleiacabDoorW.PrintWords
open Go.RowKit
end Go.Proofs.YtbenihcaleiacabDoorW.PrintWords
namespace Go.Proofs.YtbenihcaleiacabDoorW.PrintLast
section
variable {ops : Array Oper} {a : Act} {o og : Oper} {g : Nat} {t : Tmp} {u : Bool}
end
end Go.Proofs.YtbenihcaleiacabDoorW.PrintLast
