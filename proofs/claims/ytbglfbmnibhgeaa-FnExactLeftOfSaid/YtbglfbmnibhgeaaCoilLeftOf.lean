/- LeftOf, of both. -/
import Derived.Test.YtbglfbmnibhgeaaCoilLeft
import Derived.Test.YtbglfbmnibhgeaaPx11
namespace Go.Proofs.YtbglfbmnibhgeaaB
open Go.RowKit Go.Proofs.YtbglfbmnibhgeaaW.PrintWords Go.Proofs.YtbglfbmnibhgeaaW.PrintLast Go.Proofs.Ytbglfbmnibhgeaa.P

theorem LeftOf_both (l : List C) (a : ByteArray) (h : GoodCoils l) (ha : a.size ≤ 1048576) : Both (fun _ => True) (fun k => spec_LeftOf.f k l a) (fun k => impl_LeftOf.f k l a) := by
  unfold spec_LeftOf.f impl_LeftOf.f
  refine both_bindL (spec_ok l h.1 (good_sizes h)) (both_bindR (impl_ok l h.1 (good_sizes h)) (both_ite (fun _ => ?_) (fun _ => both_now _ trivial)))
  refine both_bindL (spec_name a (max_of ha)) (both_bindR (impl_name a (max_of ha)) (both_ite (fun _ => ?_) (fun _ => both_now _ trivial)))
  exact both_bind (left_both l a h.1) (fun r _ => both_now _ trivial)

end Go.Proofs.YtbglfbmnibhgeaaB
