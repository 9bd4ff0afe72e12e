/- FnExactWornOn: its plain statement, over lists and numbers. -/
import Derived.Test.YtdbigcfpinpnpaaBase
import Derived.Test.YtdbigcfpinpnpaaTyGear
import Derived.Test.YtdbigcfpinpnpaaTyCheck
import Derived.Test.YtdbigcfpinpnpaaTyString
import Derived.Test.YtdbigcfpinpnpaaMkGear
import Derived.Test.YtdbigcfpinpnpaaMkCheck
import Derived.Test.YtdbigcfpinpnpaaGearWornOn
import Derived.Test.YtdbigcfpinpnpaaPx26
namespace Go.Proofs.Ytdbigcfpinpnpaa.Pure
open Go.RowKit Go.Proofs.Ytdbigcfpinpnpaa.P Go.Proofs.YtdbigcfpinpnpaaW.PrintWords Go.Proofs.YtdbigcfpinpnpaaW.PrintLast Go.Proofs.YtdbigcfpinpnpaaB

theorem FnExactWornOn : ∀ (x0 : List (S72)) (x1 : List (S49)) (x2 : Int), (x0.length ≤ maxLen ∧ ∀ x_ ∈ x0, (x_.f0.size ≤ maxLen ∧ (Lit.int .i64 x_.f1).wf = true ∧ (Lit.int .i64 x_.f2).wf = true ∧ (Lit.int .i64 x_.f3).wf = true)) → (x1.length ≤ maxLen ∧ ∀ x_ ∈ x1, (x_.f0.size ≤ maxLen ∧ (Lit.int .i64 x_.f1).wf = true ∧ (Lit.int .i64 x_.f2).wf = true)) → (Lit.int .i64 x2).wf = true → ∃ k, laws_FnExactWornOn.f k x0 x1 x2 = some true := by
  intro x0 x1 x2 h0 h1 h2
  refine Ev.rounds (g := fun k => laws_FnExactWornOn.f k x0 x1 x2) ?_
  unfold laws_FnExactWornOn.f
  obtain ⟨r0, e0, l0, b0⟩ := szGearS_ev x0 1048576 (by omega) (by omega) h0
  refine Ev.bind e0 (ev_ite (fun _ => Ev.now _) (fun n0 => ?_))
  have c0 := b0 (by omega)
  have q0 := c0.1
  have t0 := toGearS_ev x0 (by omega)
  have g0 := goodGearS_of x0 1048576 (by omega) h0 c0
  have m0 := g0.1
  obtain ⟨r1, e1, l1, b1⟩ := szCheckS_ev x1 r0 (by omega) (by omega) h1
  refine Ev.bind e1 (ev_ite (fun _ => Ev.now _) (fun n1 => ?_))
  have c1 := b1 (by omega)
  have q1 := c1.1
  have t1 := toCheckS_ev x1 (by omega)
  have g1 := goodCheckS_of x1 r0 (by omega) h1 c1
  have m1 := g1.1
  obtain ⟨v, hs, hi, hp⟩ := WornOn_both (x0.map toGear) (x1.map toCheck) x2 g0 g1 (i64_of_wf h2)
  have hpl := hp
  repeat (first | exact Ev.now _ | (refine ev_pos rfl ?_) | (refine Ev.bind hs ?_) | (refine Ev.bind hi ?_) | (refine Ev.bind t0 ?_) | (refine Ev.bind (eqGearS_refl _ (by omega)) ?_) | (refine Ev.bind (markGearS_ev _ (by omega)) ?_) | (refine Ev.bind (markGearS_at _ _ (by first | omega | (dsimp only; omega)) (by first | omega | (dsimp only; omega)) (by omega)) ?_) | (refine Ev.bind t1 ?_) | (refine Ev.bind (eqCheckS_refl _ (by omega)) ?_) | (refine Ev.bind (markCheckS_ev _ (by omega)) ?_) | (refine Ev.bind (markCheckS_at _ _ (by first | omega | (dsimp only; omega)) (by first | omega | (dsimp only; omega)) (by omega)) ?_) | (refine Ev.bind (eqStringS_refl _ (by omega)) ?_) | (refine Ev.bind (markStringS_ev _ (by omega)) ?_) | (refine Ev.bind (heldStringS_ev _ (by omega)) ?_) | (refine ev_neg (by first | (simp; done) | (simp; omega)) ?_) | (refine Ev.step (fun k => by first | rw [laws_FnExactWornOn.j0] | rw [laws_FnExactWornOn.j1] | rw [laws_FnExactWornOn.j2]) ?_))

end Go.Proofs.Ytdbigcfpinpnpaa.Pure
