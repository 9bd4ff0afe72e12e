/- RenewGear, of both. -/
import Derived.Test.YtdbigcfpinpnpaaGearV
import Derived.Test.YtdbigcfpinpnpaaPx9
namespace Go.Proofs.YtdbigcfpinpnpaaB
open Go.RowKit Go.Proofs.YtdbigcfpinpnpaaW.PrintWords Go.Proofs.YtdbigcfpinpnpaaW.PrintLast Go.Proofs.Ytdbigcfpinpnpaa.P

theorem RenewGear_both (l : List G) (a : ByteArray) (d : Int) (h : GoodGears l) (_ha : a.size ≤ 1048576) (_hd : I64 d) : Both (fun r => r.1.length ≤ 1048576) (fun k => spec_RenewGear.f k l a d) (fun k => impl_RenewGear.f k l a d) := by
  unfold spec_RenewGear.f impl_RenewGear.f
  refine both_bind (gears_both l h) (fun r _ => both_ite (fun _ => ?_) (fun _ => both_now _ (by simp)))
  refine both_bind0L (day_some d) (both_bind0R (within_some _ _ _) (both_ite (fun _ => ?_) (fun _ => both_now _ (by simp))))
  refine both_bindL (spec_find l a h.1) (both_bind0R (impl_find l a) (both_ite (fun _ => both_now _ (by simp)) (fun hn => ?_)))
  have hr := goG_range l a 0
  have hl := h.1
  refine both_posL (by omega) (both_posR (by omega) (both_posL (by omega) (both_posR (by omega) (both_ite (fun _ => both_now _ (by simp)) (fun _ => ?_)))))
  simp only [Option.bind_some, List.nil_append, List.length_nil]
  exact both_posL (by omega) (both_posR (by omega) (both_posL (by omega) (both_posR (by omega) (both_now _ (by simp; omega)))))
end Go.Proofs.YtdbigcfpinpnpaaB
