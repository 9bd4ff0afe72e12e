/- FnExactSameOrders: its plain statement, over lists and numbers. -/
import Derived.Test.YtkegmjebkikniaaBase
import Derived.Test.YtkegmjebkikniaaTyOrder
import Derived.Test.YtkegmjebkikniaaSameOrder
import Derived.Test.YtkegmjebkikniaaPx2
namespace Go.Proofs.Ytkegmjebkikniaa.Pure
open Go.RowKit Go.Proofs.Ytkegmjebkikniaa.P Go.Proofs.YtkegmjebkikniaaW.PrintWords Go.Proofs.YtkegmjebkikniaaW.PrintLast Go.Proofs.YtkegmjebkikniaaB

theorem FnExactSameOrders : ∀ (x0 : List (S61)) (x1 : List (S61)), (x0.length ≤ maxLen ∧ ∀ x_ ∈ x0, ((Lit.int .i64 x_.f0).wf = true ∧ x_.f1.size ≤ maxLen ∧ (Lit.int .i64 x_.f2).wf = true ∧ (Lit.int .i64 x_.f3).wf = true ∧ (Lit.int .i64 x_.f4).wf = true)) → (x1.length ≤ maxLen ∧ ∀ x_ ∈ x1, ((Lit.int .i64 x_.f0).wf = true ∧ x_.f1.size ≤ maxLen ∧ (Lit.int .i64 x_.f2).wf = true ∧ (Lit.int .i64 x_.f3).wf = true ∧ (Lit.int .i64 x_.f4).wf = true)) → ∃ k, laws_FnExactSameOrders.f k x0 x1 = some true := by
  intro x0 x1 h0 h1
  refine Ev.rounds (g := fun k => laws_FnExactSameOrders.f k x0 x1) ?_
  unfold laws_FnExactSameOrders.f
  obtain ⟨r0, e0, l0, b0⟩ := szOrderS_ev x0 1048576 (by omega) (by omega) h0
  refine Ev.bind e0 (ev_ite (fun _ => Ev.now _) (fun n0 => ?_))
  have c0 := b0 (by omega)
  have q0 := c0.1
  have t0 := toOrderS_ev x0 (by omega)
  have g0 := goodOrderS_of x0 1048576 (by omega) h0 c0
  have m0 := g0.1
  obtain ⟨r1, e1, l1, b1⟩ := szOrderS_ev x1 r0 (by omega) (by omega) h1
  refine Ev.bind e1 (ev_ite (fun _ => Ev.now _) (fun n1 => ?_))
  have c1 := b1 (by omega)
  have q1 := c1.1
  have t1 := toOrderS_ev x1 (by omega)
  have g1 := goodOrderS_of x1 r0 (by omega) h1 c1
  have m1 := g1.1
  obtain ⟨v, hs, hi, hp⟩ := SameOrders_both (x0.map toOrder) (x1.map toOrder) g0 g1
  repeat (first | exact Ev.now _ | (refine ev_pos rfl ?_) | (refine Ev.bind hs ?_) | (refine Ev.bind hi ?_) | (refine Ev.bind t0 ?_) | (refine Ev.bind (eqOrderS_refl _ (by omega)) ?_) | (refine Ev.bind t1 ?_) | (refine ev_neg (by first | (simp; done) | (simp; omega)) ?_))

end Go.Proofs.Ytkegmjebkikniaa.Pure
