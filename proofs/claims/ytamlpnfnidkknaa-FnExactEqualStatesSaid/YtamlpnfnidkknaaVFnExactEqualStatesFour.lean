/- Of the words that the printed texts of this seat use: those that this claim's texts name, as the kit's print laid them. No condition. -/
import Derived.Test.YtamlpnfnidkknaaVFnExactEqualStatesTab
/-! ### 56. Four, five, six operations that may come up next, in any order -/
namespace Go.Proofs.YtamlpnfnidkknaaW.PrintLast
section
variable {P : Program} {ops : Array Oper} {Q : Exit → Act → World → Prop} {md : Region.Mode} {S : World → Prop} {ds : List Nat} {T : Bool × List (List Nat × List Nat)}
end
end Go.Proofs.YtamlpnfnidkknaaW.PrintLast
