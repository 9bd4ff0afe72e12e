/- FnExactValidGear: its plain statement, over lists and numbers. -/
import Derived.Test.YtdbigcfpinpnpaaBase
import Derived.Test.YtdbigcfpinpnpaaTyGear
import Derived.Test.YtdbigcfpinpnpaaGearV
import Derived.Test.YtdbigcfpinpnpaaPx5
namespace Go.Proofs.Ytdbigcfpinpnpaa.Pure
open Go.RowKit Go.Proofs.Ytdbigcfpinpnpaa.P Go.Proofs.YtdbigcfpinpnpaaW.PrintWords Go.Proofs.YtdbigcfpinpnpaaW.PrintLast Go.Proofs.YtdbigcfpinpnpaaB

theorem FnExactValidGear : ∀ (x0 : List (S72)), (x0.length ≤ maxLen ∧ ∀ x_ ∈ x0, (x_.f0.size ≤ maxLen ∧ (Lit.int .i64 x_.f1).wf = true ∧ (Lit.int .i64 x_.f2).wf = true ∧ (Lit.int .i64 x_.f3).wf = true)) → ∃ k, laws_FnExactValidGear.f k x0 = some true := by
  intro x0 h0
  refine Ev.rounds (g := fun k => laws_FnExactValidGear.f k x0) ?_
  unfold laws_FnExactValidGear.f
  obtain ⟨r0, e0, l0, b0⟩ := szGearS_ev x0 1048576 (by omega) (by omega) h0
  refine Ev.bind e0 (ev_ite (fun _ => Ev.now _) (fun n0 => ?_))
  have c0 := b0 (by omega)
  have q0 := c0.1
  have t0 := toGearS_ev x0 (by omega)
  have g0 := goodGearS_of x0 1048576 (by omega) h0 c0
  have m0 := g0.1
  obtain ⟨v, hs, hi, hp⟩ := ValidGear_both (x0.map toGear) g0
  repeat (first | exact Ev.now _ | (refine ev_pos rfl ?_) | (refine Ev.bind hs ?_) | (refine Ev.bind hi ?_) | (refine Ev.bind t0 ?_) | (refine Ev.bind (eqGearS_refl _ (by omega)) ?_) | (refine Ev.bind (markGearS_ev _ (by omega)) ?_) | (refine ev_neg (by first | (simp; done) | (simp; omega)) ?_))

end Go.Proofs.Ytdbigcfpinpnpaa.Pure
