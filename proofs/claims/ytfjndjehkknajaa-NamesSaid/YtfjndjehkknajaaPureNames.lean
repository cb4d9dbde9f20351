/- The law reredoslaw.Names answers true: each error number, kind and limit of package api is the document's; no conditions. -/
import Derived.Test.YtfjndjehkknajaaPNamesx1
namespace Go.Proofs.Ytfjndjehkknajaa.Pure
open Go.RowKit Go.Proofs.Ytfjndjehkknajaa.PNames Go.Proofs.YtfjndjehkknajaaW.PrintWords Go.Proofs.YtfjndjehkknajaaW.PrintLast

/-- YOURS: ∃ k, reredoslaw_Names.f k  = some true
What it reaches (each with k first where it has rounds; `.mono`: more rounds tell the same; `.l0`, ..: its loops, with `.mono_l`): reredoslaw_Names.f -/
theorem Names : reredoslaw_Names.Pure := by
  exact ⟨100, by decide +kernel⟩

end Go.Proofs.Ytfjndjehkknajaa.Pure
