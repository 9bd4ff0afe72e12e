/- ThrowShort, of both. -/
import Derived.Test.YtbglfbmnibhgeaaCoilV
import Derived.Test.YtbglfbmnibhgeaaPx15
namespace Go.Proofs.YtbglfbmnibhgeaaB
open Go.RowKit Go.Proofs.YtbglfbmnibhgeaaW.PrintWords Go.Proofs.YtbglfbmnibhgeaaW.PrintLast Go.Proofs.Ytbglfbmnibhgeaa.P

theorem throw_loop (n : Int) : ∀ (xs p acc : List C), p.length + xs.length ≤ 1048576 → acc.length ≤ p.length → Both (fun r => r.1.length ≤ 1048576) (fun k => spec_ThrowShort.l0 k (p ++ xs) n acc (p.length : Int)) (fun k => impl_ThrowShort.l0 k n acc (p ++ xs) ((p ++ xs).length : Int) (p.length : Int)) := by
  intro xs
  induction xs with
  | nil =>
    intro p acc hm ha
    exact both_step (fun k => by rw [spec_ThrowShort.l0]) (fun k => by rw [impl_ThrowShort.l0]) (both_negL (not_lt_end p) (both_negR (not_lt_end p) (both_now _ (by show acc.length ≤ _; omega))))
  | cons x xs ih =>
    intro p acc hm ha
    rw [List.length_cons] at hm
    have hw : wrap64 ((p.length : Int) + 1) = ((p ++ [x]).length : Int) := wrap_next p x (by omega)
    have hi := fun acc (h : acc.length ≤ p.length + 1) => ih (p ++ [x]) acc (by rw [List.length_append]; simp; omega) (by simpa using h)
    refine both_step (fun k => by rw [spec_ThrowShort.l0]) (fun k => by rw [impl_ThrowShort.l0]) ?_
    refine both_posL (lt_mid p x xs) (both_posL (Int.natCast_nonneg _) (both_posR (lt_mid p x xs) (both_posR (Int.natCast_nonneg _) (both_posR (lt_mid p x xs) ?_))))
    rw [rd45_mid, hw, push_mid p x xs]
    refine both_ite (fun _ => ?_) (fun _ => hi _ (by omega))
    exact both_posL (by omega) (both_posR (by omega) (hi _ (by simp; omega)))
theorem ThrowShort_both (l : List C) (n : Int) (h : GoodCoils l) (_hn : I64 n) : Both (fun r => r.1.length ≤ 1048576) (fun k => spec_ThrowShort.f k l n) (fun k => impl_ThrowShort.f k l n) := by
  unfold spec_ThrowShort.f impl_ThrowShort.f
  refine both_bindL (spec_ok l h.1 (good_sizes h)) (both_bindR (impl_ok l h.1 (good_sizes h)) (both_ite (fun _ => ?_) (fun _ => both_now _ (by simp))))
  refine both_bind0L (in_some _ _ _) (both_bind0R (within_some _ _ _) (both_ite (fun _ => ?_) (fun _ => both_now _ (by simp))))
  exact throw_loop n l [] [] (by have := h.1; simp; omega) (by simp)

end Go.Proofs.YtbglfbmnibhgeaaB
