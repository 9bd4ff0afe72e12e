/- ValidWants, of both. -/
import Derived.Test.YtbglfbmnibhgeaaWantsV
import Derived.Test.YtbglfbmnibhgeaaPx8
import Derived.Test.YtbglfbmnibhgeaaPx9
namespace Go.Proofs.YtbglfbmnibhgeaaB
open Go.RowKit Go.Proofs.YtbglfbmnibhgeaaW.PrintWords Go.Proofs.YtbglfbmnibhgeaaW.PrintLast Go.Proofs.Ytbglfbmnibhgeaa.P

theorem ValidWants_both (l : List W') (h : GoodWants l) : Both (fun _ => True) (fun k => spec_ValidWants.f k l) (fun k => impl_ValidWants.f k l) := by
  unfold spec_ValidWants.f
  exact ⟨okWants l, Ev.bind (spec_wants l h.1 (good_wsizes h)) (Ev.now _), impl_wants l h.1 (good_wsizes h), trivial⟩

end Go.Proofs.YtbglfbmnibhgeaaB
