/- ValidStockCoils, of both. -/
import Derived.Test.YtbglfbmnibhgeaaCoilV
import Derived.Test.YtbglfbmnibhgeaaPx5
import Derived.Test.YtbglfbmnibhgeaaPx6
namespace Go.Proofs.YtbglfbmnibhgeaaB
open Go.RowKit Go.Proofs.YtbglfbmnibhgeaaW.PrintWords Go.Proofs.YtbglfbmnibhgeaaW.PrintLast Go.Proofs.Ytbglfbmnibhgeaa.P

theorem ValidStockCoils_both (l : List C) (h : GoodCoils l) : Both (fun _ => True) (fun k => spec_ValidStockCoils.f k l) (fun k => impl_ValidStockCoils.f k l) := by
  unfold spec_ValidStockCoils.f
  exact ⟨okCoils l, Ev.bind (spec_ok l h.1 (good_sizes h)) (Ev.now _), impl_ok l h.1 (good_sizes h), trivial⟩

end Go.Proofs.YtbglfbmnibhgeaaB
