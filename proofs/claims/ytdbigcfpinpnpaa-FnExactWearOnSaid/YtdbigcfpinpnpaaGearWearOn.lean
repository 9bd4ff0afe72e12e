/- WearOn, of both. -/
import Derived.Test.YtdbigcfpinpnpaaGearWear
import Derived.Test.YtdbigcfpinpnpaaPx10
import Derived.Test.YtdbigcfpinpnpaaPx13
namespace Go.Proofs.YtdbigcfpinpnpaaB
open Go.RowKit Go.Proofs.YtdbigcfpinpnpaaW.PrintWords Go.Proofs.YtdbigcfpinpnpaaW.PrintLast Go.Proofs.Ytdbigcfpinpnpaa.P

theorem WearOn_both (g : List G) (l : List K) (a : ByteArray) (d : Int) (hg : GoodGears g) (hl : GoodChecks l) (_ha : a.size ≤ 1048576) (_hd : I64 d) :
    Both (fun _ => True) (fun k => spec_WearOn.f k g l a d) (fun k => impl_WearOn.f k g l a d) := by
  obtain ⟨r, h1, h2, _⟩ := code_both g l hg hl
  unfold spec_WearOn.f impl_WearOn.f
  refine both_bindL h1 (both_bindR (h2 d) ?_)
  cases r with
  | false => exact both_negL (by simp) (both_negR (by simp [codeOf]) (both_now _ trivial))
  | true =>
    refine both_posL rfl (both_bind0L (day_some d) ?_)
    by_cases hd : dayB d = true
    · refine both_posL hd (both_posR (by simp [codeOf, hd]) ?_)
      unfold spec_l21Named.f
      have hr := goG_range g a 0
      by_cases hn : goG g a 0 < 0
      · refine both_bindL (a := (0, 3)) (Ev.bind h1 (ev_pos rfl (Ev.bind (spec_find g a hg.1) (ev_pos hn (Ev.now _))))) ?_
        exact both_negL (by simp) (both_bind0R (impl_find g a) (both_posR hn (both_now _ trivial)))
      · refine both_bindL (a := (goG g a 0, 0)) (Ev.bind h1 (ev_pos rfl (Ev.bind (spec_find g a hg.1) (ev_neg hn (Ev.now _))))) ?_
        refine both_posL rfl (both_posL (by show 0 ≤ goG g a 0; omega) (both_posL (by show goG g a 0 < _; omega) (both_bind0R (impl_find g a) (both_negR hn (both_posR (by omega) (both_posR (by omega) ?_))))))
        exact both_bindL (spec_wear _ l d hl.1) (both_bindR (impl_wear _ l d hl.1) (both_now _ trivial))
    · exact both_negL hd (both_negR (by simp [codeOf, hd]) (both_of (r := (0, 2)) (Ev.now _) (ev_of (Ev.now _) (by simp [codeOf, hd])) trivial))
end Go.Proofs.YtdbigcfpinpnpaaB
