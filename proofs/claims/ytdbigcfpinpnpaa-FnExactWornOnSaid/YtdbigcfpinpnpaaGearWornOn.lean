/- WornOn, of both. -/
import Derived.Test.YtdbigcfpinpnpaaGearWear
import Derived.Test.YtdbigcfpinpnpaaPx26
namespace Go.Proofs.YtdbigcfpinpnpaaB
open Go.RowKit Go.Proofs.YtdbigcfpinpnpaaW.PrintWords Go.Proofs.YtdbigcfpinpnpaaW.PrintLast Go.Proofs.Ytdbigcfpinpnpaa.P

theorem worn_loop (l : List K) (d : Int) (hl : l.length ≤ 1048576) : ∀ (xs p : List G) (acc : List ByteArray), p.length + xs.length ≤ 1048576 → acc.length ≤ p.length →
    Both (fun r => r.1.length ≤ 1048576) (fun k => spec_WornOn.l0 k (p ++ xs) l d acc (p.length : Int)) (fun k => impl_WornOn.l0 k l d acc (p ++ xs) ((p ++ xs).length : Int) (p.length : Int)) := by
  intro xs
  induction xs with
  | nil =>
    intro p acc hm ha
    exact both_step (fun k => by rw [spec_WornOn.l0]) (fun k => by rw [impl_WornOn.l0]) (both_negL (not_lt_end p) (both_negR (not_lt_end p) (both_now _ (by show acc.length ≤ _; omega))))
  | cons x xs ih =>
    intro p acc hm ha
    rw [List.length_cons] at hm
    have hw : wrap64 ((p.length : Int) + 1) = ((p ++ [x]).length : Int) := wrap_next p x (by omega)
    have hi := fun acc (h : acc.length ≤ p.length + 1) => ih (p ++ [x]) acc (by rw [List.length_append]; simp; omega) (by simpa using h)
    refine both_step (fun k => by rw [spec_WornOn.l0]) (fun k => by rw [impl_WornOn.l0]) ?_
    refine both_posL (lt_mid p x xs) (both_posL (Int.natCast_nonneg _) (both_posR (lt_mid p x xs) (both_posR (Int.natCast_nonneg _) (both_posR (lt_mid p x xs) ?_))))
    rw [rd73_mid, hw, push_mid p x xs]
    refine both_bindL (spec_wear x l d hl) (both_bindR (impl_wear x l d hl) (both_ite (fun _ => ?_) (fun _ => hi _ (by omega))))
    exact both_posL (by omega) (both_posR (by omega) (hi _ (by simp; omega)))
theorem WornOn_both (g : List G) (l : List K) (d : Int) (hg : GoodGears g) (hl : GoodChecks l) (_hd : I64 d) :
    Both (fun r => r.1.length ≤ 1048576) (fun k => spec_WornOn.f k g l d) (fun k => impl_WornOn.f k g l d) := by
  obtain ⟨r, h1, h2, _⟩ := code_both g l hg hl
  unfold spec_WornOn.f impl_WornOn.f
  refine both_bindL h1 (both_bindR (h2 d) ?_)
  cases r with
  | false => exact both_negL (by simp) (both_negR (by simp [codeOf]) (both_now _ (by simp)))
  | true =>
    refine both_posL rfl (both_bind0L (day_some d) ?_)
    by_cases hd : dayB d = true
    · exact both_posL hd (both_posR (by simp [codeOf, hd]) (worn_loop l d hl.1 g [] [] (by have := hg.1; simp; omega) (by simp)))
    · exact both_negL hd (both_negR (by simp [codeOf, hd]) (both_of (r := ([], 2)) (Ev.now _) (ev_of (Ev.now _) (by simp [codeOf, hd])) (by simp)))
end Go.Proofs.YtdbigcfpinpnpaaB
