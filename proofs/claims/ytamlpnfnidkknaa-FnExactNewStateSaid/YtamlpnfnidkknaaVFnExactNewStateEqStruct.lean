/- Of the words that the printed texts of this seat use: those that this claim's texts name, as the kit's print laid them. No condition. -/
import Derived.Test.YtamlpnfnidkknaaVFnExactNewStateWords
import Derived.Laws.StructEq
/-! ### 53. '==' of structs as_ one Bool -/
namespace Go.Proofs.YtamlpnfnidkknaaW.PrintWords
open Go.RowKit
section
variable {P : Program} {d : Nat} {xs ys : Array Value} {f : Field} {fs : List Field} {a b : Value} {r s : Bool} {w : World}
end
end Go.Proofs.YtamlpnfnidkknaaW.PrintWords
