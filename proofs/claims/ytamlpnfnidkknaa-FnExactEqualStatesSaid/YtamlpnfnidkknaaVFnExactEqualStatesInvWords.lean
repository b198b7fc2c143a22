/- Of the words that the printed texts of this seat use: those that this claim's texts name, as the kit's print laid them. No condition. -/
import Derived.Test.YtamlpnfnidkknaaVFnExactEqualStatesInv
import Derived.Test.YtamlpnfnidkknaaVFnExactEqualStatesFootNe
namespace Go.Proofs.YtamlpnfnidkknaaW.PrintWords
open Go.RowKit
end Go.Proofs.YtamlpnfnidkknaaW.PrintWords
namespace Go.Proofs.YtamlpnfnidkknaaW.PrintLast
section
variable {ops : Array Oper} {a : Act} {o og : Oper} {g : Nat} {t : Tmp} {u : Bool}
end
end Go.Proofs.YtamlpnfnidkknaaW.PrintLast
