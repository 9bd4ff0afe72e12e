/- Gear: what a list of them weighs, its copy, its comparison, its marks. -/
import Derived.Test.YtdbigcfpinpnpaaTyGear
import Derived.Test.YtdbigcfpinpnpaaPx0
import Derived.Test.YtdbigcfpinpnpaaPx9
import Derived.Test.YtdbigcfpinpnpaaTyText
namespace Go.Proofs.YtdbigcfpinpnpaaB
open Go.RowKit Go.Proofs.YtdbigcfpinpnpaaW.PrintWords Go.Proofs.YtdbigcfpinpnpaaW.PrintLast Go.Proofs.Ytdbigcfpinpnpaa.P

noncomputable def markGear (k : Int) : List S73 → List S73
  | [] => []
  | _ :: xs => ⟨mtxt k, (k + 1), (k + 2), (k + 3)⟩ :: markGear (k + 4) xs
theorem markGear_length : ∀ (xs : List S73) (k : Int), (markGear k xs).length = xs.length
  | [], _ => rfl
  | _ :: xs, k => by simp [markGear, markGear_length xs (k + 4)]
theorem markGearS_loop : ∀ (xs p : List S73) (k : Int), 0 < k → k + 4 * xs.length ≤ 1152921504606846976 → p.length + xs.length ≤ 1152921504606846976 → Ev (fun n => laws_markGearS.l0 n (p ++ xs) k (p.length : Int)) (k + 4 * xs.length, p ++ markGear k xs) := by
  intro xs
  induction xs with
  | nil =>
    intro p k h0 h1 _
    refine Ev.step (fun k => by rw [laws_markGearS.l0]) ?_
    refine ev_neg (not_lt_end p) (ev_of (Ev.now _) ?_)
    simp [markGear]
  | cons x xs ih =>
    intro p k h0 h1 hl
    rw [List.length_cons] at hl h1
    have hw : wrap64 ((p.length : Int) + 1) = ((p ++ [x]).length : Int) := wrap_next p x (by omega)
    have hlen : ∀ y : S73, (p ++ [y]).length = (p ++ [x]).length := fun y => by simp
    have hi := ih (p ++ [⟨mtxt k, (k + 1), (k + 2), (k + 3)⟩]) (k + 4) (by omega) (by omega) (by rw [List.length_append]; simp; omega)
    have w1 : wrap64 (k + 1) = k + 1 := by rw [wrap_small (by omega) (by omega)]
    have w2 : wrap64 (k + 1 + 1) = k + 2 := by rw [wrap_small (by omega) (by omega)]; omega
    have w3 : wrap64 (k + 2 + 1) = k + 3 := by rw [wrap_small (by omega) (by omega)]; omega
    have w4 : wrap64 (k + 3 + 1) = k + 4 := by rw [wrap_small (by omega) (by omega)]; omega
    refine Ev.step (fun k => by rw [laws_markGearS.l0]) ?_
    refine ev_pos (lt_mid p x xs) ?_
    have ht : ∀ j : Int, 0 < j → j ≤ 1152921504606846976 → Ev (fun n => laws_markText.f n j) (mtxt j) := mtxt_ev
    repeat (first | (refine Ev.bind (ht _ (by omega) (by omega)) ?_) | (refine ev_pos (Int.natCast_nonneg _) ?_) | (simp only [Option.bind_some, set_mid, rd73_mid, w1, w2, w3, w4]; done) | (simp only [Option.bind_some, set_mid, rd73_mid, w1, w2, w3, w4]))
    rw [hw, push_mid p _ xs, ← hlen]
    refine ev_of hi ?_
    rw [List.length_cons]
    simp [markGear]
    omega
theorem markGearS_at (l : List S73) (k : Int) (h0 : 0 < k) (h1 : k ≤ 1099511627776) (hl : l.length ≤ 1048576) : Ev (fun n => laws_markGearS.f n l k) (k + 4 * (l.length : Int), markGear k l) := by
  unfold laws_markGearS.f
  exact markGearS_loop l [] k h0 (by omega) (by simp; omega)
theorem markGearS_ev (l : List S73) (hl : l.length ≤ 1048576) : Ev (fun n => laws_markGearS.f n l 1) (1 + 4 * (l.length : Int), markGear 1 l) := by
  unfold laws_markGearS.f
  exact markGearS_loop l [] 1 (by omega) (by omega) (by simp; omega)
end Go.Proofs.YtdbigcfpinpnpaaB
