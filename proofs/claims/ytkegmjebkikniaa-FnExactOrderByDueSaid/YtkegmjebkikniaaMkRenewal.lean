/- Renewal: what a list of them weighs, its copy, its comparison, its marks. -/
import Derived.Test.YtkegmjebkikniaaTyRenewal
import Derived.Test.YtkegmjebkikniaaPx0
import Derived.Test.YtkegmjebkikniaaPx23
import Derived.Test.YtkegmjebkikniaaTyText
namespace Go.Proofs.YtkegmjebkikniaaB
open Go.RowKit Go.Proofs.YtkegmjebkikniaaW.PrintWords Go.Proofs.YtkegmjebkikniaaW.PrintLast Go.Proofs.Ytkegmjebkikniaa.P

noncomputable def markRenewal (k : Int) : List S55 → List S55
  | [] => []
  | _ :: xs => ⟨mtxt k, (k + 1), (k + 2), (k + 3)⟩ :: markRenewal (k + 4) xs
theorem markRenewal_length : ∀ (xs : List S55) (k : Int), (markRenewal k xs).length = xs.length
  | [], _ => rfl
  | _ :: xs, k => by simp [markRenewal, markRenewal_length xs (k + 4)]
theorem markRenewalS_loop : ∀ (xs p : List S55) (k : Int), 0 < k → k + 4 * xs.length ≤ 1152921504606846976 → p.length + xs.length ≤ 1152921504606846976 → Ev (fun n => laws_markRenewalS.l0 n (p ++ xs) k (p.length : Int)) (k + 4 * xs.length, p ++ markRenewal k xs) := by
  intro xs
  induction xs with
  | nil =>
    intro p k h0 h1 _
    refine Ev.step (fun k => by rw [laws_markRenewalS.l0]) ?_
    refine ev_neg (not_lt_end p) (ev_of (Ev.now _) ?_)
    simp [markRenewal]
  | cons x xs ih =>
    intro p k h0 h1 hl
    rw [List.length_cons] at hl h1
    have hw : wrap64 ((p.length : Int) + 1) = ((p ++ [x]).length : Int) := wrap_next p x (by omega)
    have hlen : ∀ y : S55, (p ++ [y]).length = (p ++ [x]).length := fun y => by simp
    have hi := ih (p ++ [⟨mtxt k, (k + 1), (k + 2), (k + 3)⟩]) (k + 4) (by omega) (by omega) (by rw [List.length_append]; simp; omega)
    have w1 : wrap64 (k + 1) = k + 1 := by rw [wrap_small (by omega) (by omega)]
    have w2 : wrap64 (k + 1 + 1) = k + 2 := by rw [wrap_small (by omega) (by omega)]; omega
    have w3 : wrap64 (k + 2 + 1) = k + 3 := by rw [wrap_small (by omega) (by omega)]; omega
    have w4 : wrap64 (k + 3 + 1) = k + 4 := by rw [wrap_small (by omega) (by omega)]; omega
    refine Ev.step (fun k => by rw [laws_markRenewalS.l0]) ?_
    refine ev_pos (lt_mid p x xs) ?_
    have ht : ∀ j : Int, 0 < j → j ≤ 1152921504606846976 → Ev (fun n => laws_markText.f n j) (mtxt j) := mtxt_ev
    repeat (first | (refine Ev.bind (ht _ (by omega) (by omega)) ?_) | (refine ev_pos (Int.natCast_nonneg _) ?_) | (simp only [Option.bind_some, set_mid, rd55_mid, w1, w2, w3, w4]; done) | (simp only [Option.bind_some, set_mid, rd55_mid, w1, w2, w3, w4]))
    rw [hw, push_mid p _ xs, ← hlen]
    refine ev_of hi ?_
    rw [List.length_cons]
    simp [markRenewal]
    omega
theorem markRenewalS_at (l : List S55) (k : Int) (h0 : 0 < k) (h1 : k ≤ 1099511627776) (hl : l.length ≤ 1048576) : Ev (fun n => laws_markRenewalS.f n l k) (k + 4 * (l.length : Int), markRenewal k l) := by
  unfold laws_markRenewalS.f
  exact markRenewalS_loop l [] k h0 (by omega) (by simp; omega)
theorem markRenewalS_ev (l : List S55) (hl : l.length ≤ 1048576) : Ev (fun n => laws_markRenewalS.f n l 1) (1 + 4 * (l.length : Int), markRenewal 1 l) := by
  unfold laws_markRenewalS.f
  exact markRenewalS_loop l [] 1 (by omega) (by omega) (by simp; omega)
end Go.Proofs.YtkegmjebkikniaaB
