/- AddCoil, of both. -/
import Derived.Test.YtbglfbmnibhgeaaCoilV
import Derived.Test.YtbglfbmnibhgeaaPx12
namespace Go.Proofs.YtbglfbmnibhgeaaB
open Go.RowKit Go.Proofs.YtbglfbmnibhgeaaW.PrintWords Go.Proofs.YtbglfbmnibhgeaaW.PrintLast Go.Proofs.Ytbglfbmnibhgeaa.P

theorem AddCoil_both (l : List C) (x : C) (h : GoodCoils l) (hx : GoodCoil x) : Both (fun r => r.1.length ≤ 1048576) (fun k => spec_AddCoil.f k l x.f0 x.f1) (fun k => impl_AddCoil.f k l x.f0 x.f1) := by
  unfold spec_AddCoil.f impl_AddCoil.f
  have ho : okCoils l = true → (l.length : Int) ≤ 40 := fun h => by simp [okCoils] at h; omega
  refine both_bindL (spec_ok l h.1 (good_sizes h)) (both_bindR (impl_ok l h.1 (good_sizes h)) (both_ite (fun hok => ?_) (fun _ => both_now _ (by simp))))
  have hl := ho hok
  refine both_bindL (spec_one x.f0 x.f1 (max_of hx.1)) (both_bindR (impl_one x.f0 x.f1 (max_of hx.1)) (both_ite (fun _ => ?_) (fun _ => both_now _ (by simp))))
  by_cases he : (l.length : Int) = 40
  · exact both_posL (by omega) (both_posR he (both_now _ (by simp)))
  · refine both_negL (by omega) (both_negR he ?_)
    simp only [Option.bind_some, List.nil_append, List.length_nil, List.length_cons]
    refine both_posL (by omega) (both_posR (by omega) (both_posL (by omega) (both_posR (by omega) (both_now _ ?_))))
    simp
    omega

end Go.Proofs.YtbglfbmnibhgeaaB
