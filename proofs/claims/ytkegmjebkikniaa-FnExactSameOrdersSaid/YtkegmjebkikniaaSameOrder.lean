/- Two lists: whether they are the same. -/
import Derived.Test.YtkegmjebkikniaaTyOrder
import Derived.Test.YtkegmjebkikniaaPx0
import Derived.Test.YtkegmjebkikniaaPx2
namespace Go.Proofs.YtkegmjebkikniaaB
open Go.RowKit Go.Proofs.YtkegmjebkikniaaW.PrintWords Go.Proofs.YtkegmjebkikniaaW.PrintLast Go.Proofs.Ytkegmjebkikniaa.P

theorem sameOrder_loop : ∀ (xs ys p q : List S62), p.length = q.length → xs.length = ys.length → p.length + xs.length ≤ 1048576 → Both (fun _ => True) (fun k => spec_SameOrders.l0 k (p ++ xs) (q ++ ys) (p.length : Int)) (fun k => impl_Order.l0 k (p ++ xs) (q ++ ys) ((p ++ xs).length : Int) (p.length : Int)) := by
  intro xs
  induction xs with
  | nil =>
    intro ys p q _ _ _
    exact both_step (fun k => by rw [spec_SameOrders.l0]) (fun k => by rw [impl_Order.l0]) (both_negL (not_lt_end p) (both_negR (not_lt_end p) (both_now _ trivial)))
  | cons x xs ih =>
    intro ys p q hpq hl hm
    cases ys with
    | nil => simp at hl
    | cons y ys =>
      rw [List.length_cons] at hm
      have hw : wrap64 ((p.length : Int) + 1) = ((p ++ [x]).length : Int) := wrap_next p x (by omega)
      have hi := ih ys (p ++ [x]) (q ++ [y]) (by simp [hpq]) (by simpa using hl) (by rw [List.length_append]; simp; omega)
      have hq : (p.length : Int) < ((q ++ y :: ys).length : Int) := by rw [hpq]; exact lt_mid q y ys
      have r2 : rd_T62 (q ++ y :: ys) (p.length : Int) = y := by rw [hpq]; exact rd62_mid q y ys
      refine both_step (fun k => by rw [spec_SameOrders.l0]) (fun k => by rw [impl_Order.l0]) ?_
      refine both_posL (lt_mid p x xs) (both_posL (Int.natCast_nonneg _) (both_posL hq (both_posR (lt_mid p x xs) (both_posR (Int.natCast_nonneg _) (both_posR (lt_mid p x xs) (both_posR hq ?_))))))
      rw [rd62_mid, r2, hw, push_mid p x xs, push_mid q y ys]
      exact both_ite (fun _ => both_now _ trivial) (fun _ => hi)
theorem SameOrders_both (a b : List S62) (ha : a.length ≤ 1048576 ∧ ∀ x ∈ a, GoodOrder x) (_hb : b.length ≤ 1048576 ∧ ∀ x ∈ b, GoodOrder x) : Both (fun _ => True) (fun k => spec_SameOrders.f k a b) (fun k => impl_SameOrders.f k a b) := by
  unfold spec_SameOrders.f impl_SameOrders.f impl_Order.f
  by_cases h : (a.length : Int) = (b.length : Int)
  · refine both_posL h ?_
    obtain ⟨r, h1, h2, _⟩ := sameOrder_loop a b [] [] rfl (by omega) (by have := ha.1; simp; omega)
    exact ⟨r, h1, Ev.bind (ev_pos h h2) (Ev.now _), trivial⟩
  · exact both_negL h ⟨false, Ev.now _, Ev.bind (ev_neg h (Ev.now _)) (Ev.now _), trivial⟩

end Go.Proofs.YtkegmjebkikniaaB
