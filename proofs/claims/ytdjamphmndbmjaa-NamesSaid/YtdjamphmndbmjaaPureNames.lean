/- The law Names holds: the numbers and the errors' names of package api are the document's; no condition. -/
import Derived.Test.YtdjamphmndbmjaaMNmx1
import Derived.KernelRfl
namespace Go.Proofs.Ytdjamphmndbmjaa.Pure
open Go.RowKit Go.Proofs.Ytdjamphmndbmjaa.MNm Go.Proofs.YtdjamphmndbmjaaW.PrintWords Go.Proofs.YtdjamphmndbmjaaW.PrintLast

/-- YOURS: ∃ k, stratalaw1_Names.f k  = some true
What it reaches (each with k first where it has rounds; `.mono`: more rounds tell the same; `.l0`, ..: its loops, with `.mono_l`): api_Errno_Error.f, stratalaw1_Names.f -/
theorem Names : stratalaw1_Names.Pure := by
  exact ⟨20, by kernel_rfl⟩

end Go.Proofs.Ytdjamphmndbmjaa.Pure
