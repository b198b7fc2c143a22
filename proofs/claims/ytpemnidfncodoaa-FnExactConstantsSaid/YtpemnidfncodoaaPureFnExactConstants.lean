/- The pure side of FnExactConstants: the program's constants are the reference's; the law answers true. No condition. -/
import Derived.Test.YtpemnidfncodoaaPFnExactConstantsx1
import Derived.OpenShut
import Derived.Laws.BitsLemmas
set_option linter.unusedVariables false
set_option linter.unusedSimpArgs false
namespace Go.Proofs.Ytpemnidfncodoaa.Pure
open Go.RowKit Go.Proofs.Ytpemnidfncodoaa.PFnExactConstants Go.Proofs.YtpemnidfncodoaaW.PrintWords Go.Proofs.YtpemnidfncodoaaW.PrintLast

theorem FnExactConstants : laws_FnExactConstants.Pure := rfl

end Go.Proofs.Ytpemnidfncodoaa.Pure
