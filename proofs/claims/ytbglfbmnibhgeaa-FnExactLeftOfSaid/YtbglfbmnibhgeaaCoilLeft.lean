/- How much of a kind is left, of both. -/
import Derived.Test.YtbglfbmnibhgeaaCoilV
import Derived.Test.YtbglfbmnibhgeaaPx10
namespace Go.Proofs.YtbglfbmnibhgeaaB
open Go.RowKit Go.Proofs.YtbglfbmnibhgeaaW.PrintWords Go.Proofs.YtbglfbmnibhgeaaW.PrintLast Go.Proofs.Ytbglfbmnibhgeaa.P

theorem left_loop (a : ByteArray) : ∀ (xs p : List C) (acc : Int), p.length + xs.length ≤ 1048576 → Both (fun _ => True) (fun k => spec_l23Left.l0 k (p ++ xs) a acc (p.length : Int)) (fun k => impl_leftOf.l0 k a acc (p ++ xs) ((p ++ xs).length : Int) (p.length : Int)) := by
  intro xs
  induction xs with
  | nil =>
    intro p acc _
    exact both_step (fun k => by rw [spec_l23Left.l0]) (fun k => by rw [impl_leftOf.l0]) (both_negL (not_lt_end p) (both_negR (not_lt_end p) (both_now _ trivial)))
  | cons x xs ih =>
    intro p acc hm
    rw [List.length_cons] at hm
    have hw : wrap64 ((p.length : Int) + 1) = ((p ++ [x]).length : Int) := wrap_next p x (by omega)
    have hi := fun acc => ih (p ++ [x]) acc (by rw [List.length_append]; simp; omega)
    refine both_step (fun k => by rw [spec_l23Left.l0]) (fun k => by rw [impl_leftOf.l0]) ?_
    refine both_posL (lt_mid p x xs) (both_posL (Int.natCast_nonneg _) (both_posR (lt_mid p x xs) (both_posR (Int.natCast_nonneg _) (both_posR (lt_mid p x xs) ?_))))
    rw [rd45_mid, hw, push_mid p x xs]
    exact both_ite (fun _ => hi _) (fun _ => hi _)
theorem left_both (l : List C) (a : ByteArray) (h : l.length ≤ 1048576) : Both (fun _ => True) (fun k => spec_l23Left.f k l a) (fun k => impl_leftOf.f k l a) := by
  unfold spec_l23Left.f impl_leftOf.f
  exact left_loop a l [] 0 (by simp; omega)
end Go.Proofs.YtbglfbmnibhgeaaB
