/- A piece: whether it is valid. -/
import Derived.Test.YtbglfbmnibhgeaaNames
import Derived.Test.YtbglfbmnibhgeaaTyWant
import Derived.Test.YtbglfbmnibhgeaaPx0
import Derived.Test.YtbglfbmnibhgeaaPx7
namespace Go.Proofs.YtbglfbmnibhgeaaB
open Go.RowKit Go.Proofs.YtbglfbmnibhgeaaW.PrintWords Go.Proofs.YtbglfbmnibhgeaaW.PrintLast Go.Proofs.Ytbglfbmnibhgeaa.P

theorem spec_want (s : ByteArray) (n : Int) (hs : s.size ≤ maxLen) : Ev (fun k => spec_l23Want.f k s n) (nameB s && rangeB n) := by
  unfold spec_l23Want.f
  refine Ev.bind (spec_name s hs) ?_
  cases nameB s with
  | true => exact ev_pos rfl (ev_bind0 (in_some _ _ _) (Ev.now _))
  | false => exact ev_neg (by simp) (Ev.now _)
theorem impl_want (s : ByteArray) (n : Int) (hs : s.size ≤ maxLen) : Ev (fun k => impl_validWant.f k s n) (nameB s && rangeB n) := by
  unfold impl_validWant.f
  refine Ev.bind (impl_name s hs) ?_
  cases nameB s with
  | true => exact ev_pos rfl (ev_bind0 (within_some _ _ _) (Ev.now _))
  | false => exact ev_neg (by simp) (Ev.now _)

abbrev W' := S55
def wantB (x : W') : Bool := nameB x.f0 && rangeB x.f1
def okWants (l : List W') : Bool := l.all wantB && decide ((l.length : Int) ≤ 30)
end Go.Proofs.YtbglfbmnibhgeaaB
