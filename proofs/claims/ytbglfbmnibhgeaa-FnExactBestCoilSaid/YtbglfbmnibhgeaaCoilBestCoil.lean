/- BestCoil, of both. -/
import Derived.Test.YtbglfbmnibhgeaaCoilBest
import Derived.Test.YtbglfbmnibhgeaaPx16
import Derived.Test.YtbglfbmnibhgeaaPx17
namespace Go.Proofs.YtbglfbmnibhgeaaB
open Go.RowKit Go.Proofs.YtbglfbmnibhgeaaW.PrintWords Go.Proofs.YtbglfbmnibhgeaaW.PrintLast Go.Proofs.Ytbglfbmnibhgeaa.P

theorem BestCoil_both (l : List C) (x : W') (h : GoodCoils l) (hx : GoodWant x) : Both (fun r => r.2 = 0 → 0 ≤ r.1 ∧ BestOf l x.f1 r.1) (fun k => spec_BestCoil.f k l x.f0 x.f1) (fun k => impl_BestCoil.f k l x.f0 x.f1) := by
  unfold spec_BestCoil.f impl_BestCoil.f
  refine both_bindL (code_ev l x.f0 x.f1 h hx.1) (both_bindR (impl_ok l h.1 (good_sizes h)) ?_)
  by_cases h1 : okCoils l = true
  · rw [if_pos h1]
    refine both_posR h1 (both_bindR (impl_want x.f0 x.f1 (max_of hx.1)) ?_)
    by_cases h2 : (nameB x.f0 && rangeB x.f1) = true
    · rw [if_pos h2]
      refine both_posL rfl (both_posR h2 (both_bind (best_both l x.f0 x.f1 h.1) (fun r hr => ?_)))
      exact both_ite (fun _ => both_now _ (fun h => absurd h (by simp))) (fun hn => both_now _ (fun _ => ⟨by omega, hr⟩))
    · rw [if_neg h2]
      exact both_negL (by decide) (both_negR h2 (both_now _ (fun h => absurd h (by simp))))
  · rw [if_neg h1]
    exact both_negL (by decide) (both_negR h1 (both_now _ (fun h => absurd h (by simp))))
end Go.Proofs.YtbglfbmnibhgeaaB
