/- The pure side of FnExactArenaCell: the program's ArenaCell is the reference's. No condition. -/
import Derived.Test.YtpemnidfncodoaaPFnExactArenaCellx1
import Derived.OpenShut
import Derived.Laws.BitsLemmas
set_option linter.unusedVariables false
set_option linter.unusedSimpArgs false
namespace Go.Proofs.Ytpemnidfncodoaa.Pure
open Go.RowKit Go.Proofs.Ytpemnidfncodoaa.PFnExactArenaCell Go.Proofs.YtpemnidfncodoaaW.PrintWords Go.Proofs.YtpemnidfncodoaaW.PrintLast

theorem FnExactArenaCell : laws_FnExactArenaCell.Pure := by
  unfold laws_FnExactArenaCell.Pure laws_FnExactArenaCell.f spec_ArenaCell.f impl_ArenaCell.f
  rfl

end Go.Proofs.Ytpemnidfncodoaa.Pure
