/- Of the words that the printed texts of this seat use: those that this claim's texts name, as the kit's print laid them. No condition. -/
import Derived.Test.YtbenihcaleiacaaDoorVFnEntriesInv
import Derived.Test.YtbenihcaleiacaaDoorVFnEntriesFootNe
namespace Go.Proofs.YtbenihcaleiacaaDoorW.PrintWords
open Go.RowKit
end Go.Proofs.YtbenihcaleiacaaDoorW.PrintWords
namespace Go.Proofs.YtbenihcaleiacaaDoorW.PrintLast
section
variable {ops : Array Oper} {a : Act} {o og : Oper} {g : Nat} {t : Tmp} {u : Bool}
end
end Go.Proofs.YtbenihcaleiacaaDoorW.PrintLast
