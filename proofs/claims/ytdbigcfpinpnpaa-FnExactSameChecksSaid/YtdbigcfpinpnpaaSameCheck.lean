/- Two lists: whether they are the same. -/
import Derived.Test.YtdbigcfpinpnpaaTyCheck
import Derived.Test.YtdbigcfpinpnpaaPx0
import Derived.Test.YtdbigcfpinpnpaaPx3
namespace Go.Proofs.YtdbigcfpinpnpaaB
open Go.RowKit Go.Proofs.YtdbigcfpinpnpaaW.PrintWords Go.Proofs.YtdbigcfpinpnpaaW.PrintLast Go.Proofs.Ytdbigcfpinpnpaa.P

theorem sameCheck_loop : ∀ (xs ys p q : List S53), p.length = q.length → xs.length = ys.length → p.length + xs.length ≤ 1048576 → Both (fun _ => True) (fun k => spec_SameChecks.l0 k (p ++ xs) (q ++ ys) (p.length : Int)) (fun k => impl_Check.l0 k (p ++ xs) (q ++ ys) ((p ++ xs).length : Int) (p.length : Int)) := by
  intro xs
  induction xs with
  | nil =>
    intro ys p q _ _ _
    exact both_step (fun k => by rw [spec_SameChecks.l0]) (fun k => by rw [impl_Check.l0]) (both_negL (not_lt_end p) (both_negR (not_lt_end p) (both_now _ trivial)))
  | cons x xs ih =>
    intro ys p q hpq hl hm
    cases ys with
    | nil => simp at hl
    | cons y ys =>
      rw [List.length_cons] at hm
      have hw : wrap64 ((p.length : Int) + 1) = ((p ++ [x]).length : Int) := wrap_next p x (by omega)
      have hi := ih ys (p ++ [x]) (q ++ [y]) (by simp [hpq]) (by simpa using hl) (by rw [List.length_append]; simp; omega)
      have hq : (p.length : Int) < ((q ++ y :: ys).length : Int) := by rw [hpq]; exact lt_mid q y ys
      have r2 : rd_T53 (q ++ y :: ys) (p.length : Int) = y := by rw [hpq]; exact rd53_mid q y ys
      refine both_step (fun k => by rw [spec_SameChecks.l0]) (fun k => by rw [impl_Check.l0]) ?_
      refine both_posL (lt_mid p x xs) (both_posL (Int.natCast_nonneg _) (both_posL hq (both_posR (lt_mid p x xs) (both_posR (Int.natCast_nonneg _) (both_posR (lt_mid p x xs) (both_posR hq ?_))))))
      rw [rd53_mid, r2, hw, push_mid p x xs, push_mid q y ys]
      exact both_ite (fun _ => both_now _ trivial) (fun _ => hi)
theorem SameChecks_both (a b : List S53) (ha : a.length ≤ 1048576 ∧ ∀ x ∈ a, GoodCheck x) (_hb : b.length ≤ 1048576 ∧ ∀ x ∈ b, GoodCheck x) : Both (fun _ => True) (fun k => spec_SameChecks.f k a b) (fun k => impl_SameChecks.f k a b) := by
  unfold spec_SameChecks.f impl_SameChecks.f impl_Check.f
  by_cases h : (a.length : Int) = (b.length : Int)
  · refine both_posL h ?_
    obtain ⟨r, h1, h2, _⟩ := sameCheck_loop a b [] [] rfl (by omega) (by have := ha.1; simp; omega)
    exact ⟨r, h1, Ev.bind (ev_pos h h2) (Ev.now _), trivial⟩
  · exact both_negL h ⟨false, Ev.now _, Ev.bind (ev_neg h (Ev.now _)) (Ev.now _), trivial⟩

end Go.Proofs.YtdbigcfpinpnpaaB
