/- Check: what a list of them weighs, its copy, its comparison, its marks. -/
import Derived.Test.YtdbigcfpinpnpaaMkCheck
import Derived.Test.YtdbigcfpinpnpaaPx0
import Derived.Test.YtdbigcfpinpnpaaPx19
import Derived.Test.YtdbigcfpinpnpaaPx9
import Derived.Test.YtdbigcfpinpnpaaTyText
namespace Go.Proofs.YtdbigcfpinpnpaaB
open Go.RowKit Go.Proofs.YtdbigcfpinpnpaaW.PrintWords Go.Proofs.YtdbigcfpinpnpaaW.PrintLast Go.Proofs.Ytdbigcfpinpnpaa.P

theorem heldCheckS_loop : ∀ (xs p : List S53) (k : Int), 0 < k → k + 3 * xs.length ≤ 1152921504606846976 → p.length + xs.length ≤ 1152921504606846976 → Ev (fun n => laws_heldCheckS.l0 n (p ++ markCheck k xs) k (p.length : Int)) (k + 3 * xs.length) := by
  intro xs
  induction xs with
  | nil =>
    intro p k h0 h1 _
    refine Ev.step (fun k => by rw [laws_heldCheckS.l0]) ?_
    refine ev_neg (not_lt_end p) (ev_of (Ev.now _) ?_)
    simp
  | cons x xs ih =>
    intro p k h0 h1 hl
    rw [List.length_cons] at hl h1
    have hw : ∀ y : S53, wrap64 ((p.length : Int) + 1) = ((p ++ [y]).length : Int) := fun y => wrap_next p y (by omega)
    have hi := ih (p ++ [⟨mtxt k, (k + 1), (k + 2)⟩]) (k + 3) (by omega) (by omega) (by rw [List.length_append]; simp; omega)
    have w1 : wrap64 (k + 1) = k + 1 := by rw [wrap_small (by omega) (by omega)]
    have w2 : wrap64 (k + 1 + 1) = k + 2 := by rw [wrap_small (by omega) (by omega)]; omega
    have w3 : wrap64 (k + 2 + 1) = k + 3 := by rw [wrap_small (by omega) (by omega)]; omega
    rw [markCheck]
    refine Ev.step (fun k => by rw [laws_heldCheckS.l0]) ?_
    refine ev_pos (lt_mid p _ _) ?_
    have ht : ∀ j : Int, 0 < j → j ≤ 1152921504606846976 → Ev (fun n => laws_markText.f n j) (mtxt j) := mtxt_ev
    simp only [rd53_mid, w1, w2, w3]
    repeat (first | (refine ev_pos (Int.natCast_nonneg _) ?_) | (refine Ev.bind (ht _ (by omega) (by omega)) ?_) | (refine ev_pos rfl ?_))
    rw [hw, push_mid p _ (markCheck _ xs)]
    refine ev_of hi ?_
    rw [List.length_cons]
    push_cast
    omega
theorem heldCheckS_ev (l : List S53) (hl : l.length ≤ 1048576) : Ev (fun n => laws_heldCheckS.f n (markCheck 1 l) 1) (1 + 3 * (l.length : Int)) := by
  unfold laws_heldCheckS.f
  exact heldCheckS_loop l [] 1 (by omega) (by omega) (by simp; omega)
end Go.Proofs.YtdbigcfpinpnpaaB
