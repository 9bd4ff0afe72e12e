/- Coil: what a list of them weighs, its copy, its comparison, its marks. -/
import Derived.Test.YtbglfbmnibhgeaaMkCoil
import Derived.Test.YtbglfbmnibhgeaaPx0
import Derived.Test.YtbglfbmnibhgeaaPx13
import Derived.Test.YtbglfbmnibhgeaaPx14
import Derived.Test.YtbglfbmnibhgeaaTyText
namespace Go.Proofs.YtbglfbmnibhgeaaB
open Go.RowKit Go.Proofs.YtbglfbmnibhgeaaW.PrintWords Go.Proofs.YtbglfbmnibhgeaaW.PrintLast Go.Proofs.Ytbglfbmnibhgeaa.P

theorem heldCoilS_loop : ∀ (xs p : List S45) (k : Int), 0 < k → k + 2 * xs.length ≤ 1152921504606846976 → p.length + xs.length ≤ 1152921504606846976 → Ev (fun n => laws_heldCoilS.l0 n (p ++ markCoil k xs) k (p.length : Int)) (k + 2 * xs.length) := by
  intro xs
  induction xs with
  | nil =>
    intro p k h0 h1 _
    refine Ev.step (fun k => by rw [laws_heldCoilS.l0]) ?_
    refine ev_neg (not_lt_end p) (ev_of (Ev.now _) ?_)
    simp
  | cons x xs ih =>
    intro p k h0 h1 hl
    rw [List.length_cons] at hl h1
    have hw : ∀ y : S45, wrap64 ((p.length : Int) + 1) = ((p ++ [y]).length : Int) := fun y => wrap_next p y (by omega)
    have hi := ih (p ++ [⟨mtxt k, (k + 1)⟩]) (k + 2) (by omega) (by omega) (by rw [List.length_append]; simp; omega)
    have w1 : wrap64 (k + 1) = k + 1 := by rw [wrap_small (by omega) (by omega)]
    have w2 : wrap64 (k + 1 + 1) = k + 2 := by rw [wrap_small (by omega) (by omega)]; omega
    rw [markCoil]
    refine Ev.step (fun k => by rw [laws_heldCoilS.l0]) ?_
    refine ev_pos (lt_mid p _ _) ?_
    have ht : ∀ j : Int, 0 < j → j ≤ 1152921504606846976 → Ev (fun n => laws_markText.f n j) (mtxt j) := mtxt_ev
    simp only [rd45_mid, w1, w2]
    repeat (first | (refine ev_pos (Int.natCast_nonneg _) ?_) | (refine Ev.bind (ht _ (by omega) (by omega)) ?_) | (refine ev_pos rfl ?_))
    rw [hw, push_mid p _ (markCoil _ xs)]
    refine ev_of hi ?_
    rw [List.length_cons]
    push_cast
    omega
theorem heldCoilS_ev (l : List S45) (hl : l.length ≤ 1048576) : Ev (fun n => laws_heldCoilS.f n (markCoil 1 l) 1) (1 + 2 * (l.length : Int)) := by
  unfold laws_heldCoilS.f
  exact heldCoilS_loop l [] 1 (by omega) (by omega) (by simp; omega)
end Go.Proofs.YtbglfbmnibhgeaaB
