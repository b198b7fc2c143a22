/- Of the words that the printed texts of this seat use: those that this claim's texts name, as the kit's print laid them. No condition. -/
-- PRINTED WORDS (module Derived/Print/Sized.lean): go-gate-2's, for the rows of laws over slices: an AI agent of Go's test side, Tue Nov 17 2026; no person has read it. Lean checks it.
import Derived.SizedLaws
import Derived.ChangeSlices
namespace Go.Proofs.YtamlpnfnidkknaaW.PrintWords
open Go.ChangeShapes Go.WideShapes
end Go.Proofs.YtamlpnfnidkknaaW.PrintWords
