/- FnExactOrderByDue: its plain statement, over lists and numbers. -/
import Derived.Test.YtkegmjebkikniaaBase
import Derived.Test.YtkegmjebkikniaaTyRenewal
import Derived.Test.YtkegmjebkikniaaMkRenewal
import Derived.Test.YtkegmjebkikniaaTyInt64
import Derived.Test.YtkegmjebkikniaaToInt64
import Derived.Test.YtkegmjebkikniaaMkInt64
import Derived.Test.YtkegmjebkikniaaRenDue
import Derived.Test.YtkegmjebkikniaaPx33
namespace Go.Proofs.Ytkegmjebkikniaa.Pure
open Go.RowKit Go.Proofs.Ytkegmjebkikniaa.P Go.Proofs.YtkegmjebkikniaaW.PrintWords Go.Proofs.YtkegmjebkikniaaW.PrintLast Go.Proofs.YtkegmjebkikniaaB

theorem FnExactOrderByDue : ∀ (x0 : List (S66)), (x0.length ≤ maxLen ∧ ∀ x_ ∈ x0, (x_.f0.size ≤ maxLen ∧ (Lit.int .i64 x_.f1).wf = true ∧ (Lit.int .i64 x_.f2).wf = true ∧ (Lit.int .i64 x_.f3).wf = true)) → ∃ k, laws_FnExactOrderByDue.f k x0 = some true := by
  intro x0 h0
  refine Ev.rounds (g := fun k => laws_FnExactOrderByDue.f k x0) ?_
  unfold laws_FnExactOrderByDue.f
  obtain ⟨r0, e0, l0, b0⟩ := szRenewalS_ev x0 1048576 (by omega) (by omega) h0
  refine Ev.bind e0 (ev_ite (fun _ => Ev.now _) (fun n0 => ?_))
  have c0 := b0 (by omega)
  have q0 := c0.1
  have t0 := toRenewalS_ev x0 (by omega)
  have g0 := goodRenewalS_of x0 1048576 (by omega) h0 c0
  have m0 := g0.1
  obtain ⟨v, hs, hi, hp⟩ := OrderByDue_both (x0.map toRenewal) g0
  have hpl := hp
  repeat (first | exact Ev.now _ | (refine ev_pos rfl ?_) | (refine Ev.bind hs ?_) | (refine Ev.bind hi ?_) | (refine Ev.bind t0 ?_) | (refine Ev.bind (eqRenewalS_refl _ (by omega)) ?_) | (refine Ev.bind (markRenewalS_ev _ (by omega)) ?_) | (refine Ev.bind (markRenewalS_at _ _ (by first | omega | (dsimp only; omega)) (by first | omega | (dsimp only; omega)) (by omega)) ?_) | (refine Ev.bind (eqInt64S_refl _ (by omega)) ?_) | (refine Ev.bind (markInt64S_ev _ (by omega)) ?_) | (refine Ev.bind (heldInt64S_ev _ (by omega)) ?_) | (refine ev_neg (by first | (simp; done) | (simp; omega)) ?_) | (refine Ev.step (fun k => by first | rw [laws_FnExactOrderByDue.j0] | rw [laws_FnExactOrderByDue.j1] | rw [laws_FnExactOrderByDue.j2]) ?_))

end Go.Proofs.Ytkegmjebkikniaa.Pure
