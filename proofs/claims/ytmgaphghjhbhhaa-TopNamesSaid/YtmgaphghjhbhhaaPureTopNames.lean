/- TopNames: the program's numbers in package api are the ones that the document names (a closed sentence). No condition. -/
import Derived.Test.YtmgaphghjhbhhaaPTopNamesx1
namespace Go.Proofs.Ytmgaphghjhbhhaa.Pure
open Go.RowKit Go.Proofs.Ytmgaphghjhbhhaa.PTopNames Go.Proofs.YtmgaphghjhbhhaaW.PrintWords Go.Proofs.YtmgaphghjhbhhaaW.PrintLast

theorem TopNames : tandemtop_TopNames.Pure := by
  unfold tandemtop_TopNames.Pure
  rfl

end Go.Proofs.Ytmgaphghjhbhhaa.Pure
