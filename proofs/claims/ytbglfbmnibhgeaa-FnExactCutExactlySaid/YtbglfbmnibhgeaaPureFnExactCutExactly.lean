/- FnExactCutExactly: its plain statement, over lists and numbers. -/
import Derived.Test.YtbglfbmnibhgeaaBase
import Derived.Test.YtbglfbmnibhgeaaTyCoil
import Derived.Test.YtbglfbmnibhgeaaTyWant
import Derived.Test.YtbglfbmnibhgeaaMkCoil
import Derived.Test.YtbglfbmnibhgeaaMkWant
import Derived.Test.YtbglfbmnibhgeaaTyInt64
import Derived.Test.YtbglfbmnibhgeaaMkInt64
import Derived.Test.YtbglfbmnibhgeaaCoilExact
import Derived.Test.YtbglfbmnibhgeaaPx24
namespace Go.Proofs.Ytbglfbmnibhgeaa.Pure
open Go.RowKit Go.Proofs.Ytbglfbmnibhgeaa.P Go.Proofs.YtbglfbmnibhgeaaW.PrintWords Go.Proofs.YtbglfbmnibhgeaaW.PrintLast Go.Proofs.YtbglfbmnibhgeaaB

theorem FnExactCutExactly : ∀ (x0 : List (S41)) (x1 : List (S52)), (x0.length ≤ maxLen ∧ ∀ x_ ∈ x0, (x_.f0.size ≤ maxLen ∧ (Lit.int .i64 x_.f1).wf = true)) → (x1.length ≤ maxLen ∧ ∀ x_ ∈ x1, (x_.f0.size ≤ maxLen ∧ (Lit.int .i64 x_.f1).wf = true)) → ∃ k, laws_FnExactCutExactly.f k x0 x1 = some true := by
  intro x0 x1 h0 h1
  refine Ev.rounds (g := fun k => laws_FnExactCutExactly.f k x0 x1) ?_
  unfold laws_FnExactCutExactly.f
  obtain ⟨r0, e0, l0, b0⟩ := szCoilS_ev x0 1048576 (by omega) (by omega) h0
  refine Ev.bind e0 (ev_ite (fun _ => Ev.now _) (fun n0 => ?_))
  have c0 := b0 (by omega)
  have q0 := c0.1
  have t0 := toCoilS_ev x0 (by omega)
  have g0 := goodCoilS_of x0 1048576 (by omega) h0 c0
  have m0 := g0.1
  obtain ⟨r1, e1, l1, b1⟩ := szWantS_ev x1 r0 (by omega) (by omega) h1
  refine Ev.bind e1 (ev_ite (fun _ => Ev.now _) (fun n1 => ?_))
  have c1 := b1 (by omega)
  have q1 := c1.1
  have t1 := toWantS_ev x1 (by omega)
  have g1 := goodWantS_of x1 r0 (by omega) h1 c1
  have m1 := g1.1
  obtain ⟨v, hs, hi, hp⟩ := CutExactly_both (x0.map toCoil) (x1.map toWant) g0 g1
  have hpl := hp
  repeat (first | exact Ev.now _ | (refine ev_pos rfl ?_) | (refine Ev.bind hs ?_) | (refine Ev.bind hi ?_) | (refine Ev.bind t0 ?_) | (refine Ev.bind (eqCoilS_refl _ (by omega)) ?_) | (refine Ev.bind (markCoilS_ev _ (by omega)) ?_) | (refine Ev.bind (markCoilS_at _ _ (by first | omega | (dsimp only; omega)) (by first | omega | (dsimp only; omega)) (by omega)) ?_) | (refine Ev.bind t1 ?_) | (refine Ev.bind (eqWantS_refl _ (by omega)) ?_) | (refine Ev.bind (markWantS_ev _ (by omega)) ?_) | (refine Ev.bind (markWantS_at _ _ (by first | omega | (dsimp only; omega)) (by first | omega | (dsimp only; omega)) (by omega)) ?_) | (refine Ev.bind (eqInt64S_refl _ (by omega)) ?_) | (refine Ev.bind (markInt64S_ev _ (by omega)) ?_) | (refine Ev.bind (heldInt64S_ev _ (by omega)) ?_) | (refine ev_neg (by first | (simp; done) | (simp; omega)) ?_) | (refine Ev.step (fun k => by first | rw [laws_FnExactCutExactly.j0] | rw [laws_FnExactCutExactly.j1] | rw [laws_FnExactCutExactly.j2]) ?_))

end Go.Proofs.Ytbglfbmnibhgeaa.Pure
