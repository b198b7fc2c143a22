/- Of the words that the printed texts of this seat use: those that this claim's texts name, as the kit's print laid them. No condition. -/
import Derived.Test.YtamlpnfnidkknaaVFnExactEqualStatesWords
/-! ### 58. A guarded operation whose guard is known to want it: the same goal without the guard -/
namespace Go.Proofs.YtamlpnfnidkknaaW.PrintWords
open Go.RowKit
section
variable {P : Program} {ops : Array Oper} {rest : List Oper} {o : Oper} {a : Act} {Q : Exit → Act → World → Prop} {W : World}
end
end Go.Proofs.YtamlpnfnidkknaaW.PrintWords
