/- The program's Op and Result compared: as one Bool each. No condition. -/
import Derived.Test.YtamlpnfnidkknaaGFnExactEqualStatesx1
import Derived.Test.YtamlpnfnidkknaaGFnExactEqualStatesx2

namespace Go.Proofs.Ytamlpnfnidkknaa.GFnExactEqualStates
open Go.RowKit Go.Proofs.YtamlpnfnidkknaaW.PrintWords Go.Proofs.YtamlpnfnidkknaaW.PrintLast Go.Proofs.YtamlpnfnidkknaaW.PrintMore
set_option linter.unusedVariables false
set_option linter.unusedSimpArgs false
def opB (a1 a2 a3 b1 b2 b3 : Int) : Bool := a1 == b1 && (a2 == b2 && (a3 == b3))
def resB (a4 a5 b4 b5 : Int) : Bool := a4 == b4 && (a5 == b5)
theorem eqC32 (d : Nat) (w : World) (a1 b1 a2 b2 a3 b3 : Int) : (Op.equalIn (d + 2) 32 (.agg #[.int .i64 a1, .int .i64 a2, .int .i64 a3]) (.agg #[.int .i64 b1, .int .i64 b2, .int .i64 b3])).run Try.prog w = .ok (opB a1 a2 a3 b1 b2 b3) w := eqA32 d w a1 b1 a2 b2 a3 b3
theorem eqC33 (d : Nat) (w : World) (a4 b4 a5 b5 : Int) : (Op.equalIn (d + 2) 33 (.agg #[.int .i64 a4, .int .i64 a5]) (.agg #[.int .i64 b4, .int .i64 b5])).run Try.prog w = .ok (resB a4 a5 b4 b5) w := eqA33 d w a4 b4 a5 b5
end Go.Proofs.Ytamlpnfnidkknaa.GFnExactEqualStates
