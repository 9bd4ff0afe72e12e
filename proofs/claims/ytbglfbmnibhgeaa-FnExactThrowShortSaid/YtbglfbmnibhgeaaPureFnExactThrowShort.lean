/- FnExactThrowShort: its plain statement, over lists and numbers. -/
import Derived.Test.YtbglfbmnibhgeaaBase
import Derived.Test.YtbglfbmnibhgeaaTyCoil
import Derived.Test.YtbglfbmnibhgeaaMkCoil
import Derived.Test.YtbglfbmnibhgeaaCoilThrow
import Derived.Test.YtbglfbmnibhgeaaPx15
namespace Go.Proofs.Ytbglfbmnibhgeaa.Pure
open Go.RowKit Go.Proofs.Ytbglfbmnibhgeaa.P Go.Proofs.YtbglfbmnibhgeaaW.PrintWords Go.Proofs.YtbglfbmnibhgeaaW.PrintLast Go.Proofs.YtbglfbmnibhgeaaB

theorem FnExactThrowShort : ∀ (x0 : List (S41)) (x1 : Int), (x0.length ≤ maxLen ∧ ∀ x_ ∈ x0, (x_.f0.size ≤ maxLen ∧ (Lit.int .i64 x_.f1).wf = true)) → (Lit.int .i64 x1).wf = true → ∃ k, laws_FnExactThrowShort.f k x0 x1 = some true := by
  intro x0 x1 h0 h1
  refine Ev.rounds (g := fun k => laws_FnExactThrowShort.f k x0 x1) ?_
  unfold laws_FnExactThrowShort.f
  obtain ⟨r0, e0, l0, b0⟩ := szCoilS_ev x0 1048576 (by omega) (by omega) h0
  refine Ev.bind e0 (ev_ite (fun _ => Ev.now _) (fun n0 => ?_))
  have c0 := b0 (by omega)
  have q0 := c0.1
  have t0 := toCoilS_ev x0 (by omega)
  have g0 := goodCoilS_of x0 1048576 (by omega) h0 c0
  have m0 := g0.1
  obtain ⟨v, hs, hi, hp⟩ := ThrowShort_both (x0.map toCoil) x1 g0 (i64_of_wf h1)
  have hpl := hp
  repeat (first | exact Ev.now _ | (refine ev_pos rfl ?_) | (refine Ev.bind hs ?_) | (refine Ev.bind hi ?_) | (refine Ev.bind t0 ?_) | (refine Ev.bind (eqCoilS_refl _ (by omega)) ?_) | (refine Ev.bind (markCoilS_ev _ (by omega)) ?_) | (refine Ev.bind (heldCoilS_ev _ (by omega)) ?_) | (refine ev_neg (by first | (simp; done) | (simp; omega)) ?_) | (refine Ev.step (fun k => by first | rw [laws_FnExactThrowShort.j0] | rw [laws_FnExactThrowShort.j1] | rw [laws_FnExactThrowShort.j2]) ?_))

end Go.Proofs.Ytbglfbmnibhgeaa.Pure
