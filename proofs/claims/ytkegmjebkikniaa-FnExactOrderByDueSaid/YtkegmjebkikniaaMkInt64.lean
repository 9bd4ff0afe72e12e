/- Lists of whole numbers: their marks. -/
import Derived.Test.YtkegmjebkikniaaBase
import Derived.Test.YtkegmjebkikniaaPx23
namespace Go.Proofs.YtkegmjebkikniaaB
open Go.RowKit Go.Proofs.YtkegmjebkikniaaW.PrintWords Go.Proofs.YtkegmjebkikniaaW.PrintLast Go.Proofs.Ytkegmjebkikniaa.P

def markInt64 (k : Int) : List Int → List Int
  | [] => []
  | _ :: xs => k :: markInt64 (k + 1) xs
theorem markInt64S_loop : ∀ (xs p : List Int) (k : Int), 0 < k → k + xs.length ≤ 1152921504606846976 → p.length + xs.length ≤ 1152921504606846976 → Ev (fun n => laws_markInt64S.l0 n (p ++ xs) k (p.length : Int)) (k + xs.length, p ++ markInt64 k xs) := by
  intro xs
  induction xs with
  | nil =>
    intro p k h0 h1 _
    refine Ev.step (fun k => by rw [laws_markInt64S.l0]) ?_
    refine ev_neg (not_lt_end p) (ev_of (Ev.now _) ?_)
    simp [markInt64]
  | cons x xs ih =>
    intro p k h0 h1 hl
    rw [List.length_cons] at hl h1
    have hw : wrap64 ((p.length : Int) + 1) = ((p ++ [k]).length : Int) := wrap_next p k (by omega)
    have hi := ih (p ++ [k]) (k + 1) (by omega) (by omega) (by rw [List.length_append]; simp; omega)
    have w1 : wrap64 (k + 1) = k + 1 := wrap_small (by omega) (by omega)
    refine Ev.step (fun k => by rw [laws_markInt64S.l0]) ?_
    refine ev_pos (lt_mid p x xs) (ev_pos (Int.natCast_nonneg _) ?_)
    rw [set_mid, w1, hw, push_mid p k xs]
    refine ev_of hi ?_
    rw [List.length_cons]
    simp [markInt64]
    omega
theorem markInt64S_at (l : List Int) (k : Int) (h0 : 0 < k) (h1 : k ≤ 1099511627776) (hl : l.length ≤ 1048576) : Ev (fun n => laws_markInt64S.f n l k) (k + (l.length : Int), markInt64 k l) := by
  unfold laws_markInt64S.f
  exact markInt64S_loop l [] k h0 (by omega) (by simp; omega)
theorem markInt64S_ev (l : List Int) (hl : l.length ≤ 1048576) : Ev (fun n => laws_markInt64S.f n l 1) (1 + (l.length : Int), markInt64 1 l) := by
  unfold laws_markInt64S.f
  exact markInt64S_loop l [] 1 (by omega) (by omega) (by simp; omega)
theorem heldInt64S_loop : ∀ (xs p : List Int) (k : Int), 0 < k → k + xs.length ≤ 1152921504606846976 → p.length + xs.length ≤ 1152921504606846976 → Ev (fun n => laws_heldInt64S.l0 n (p ++ markInt64 k xs) k (p.length : Int)) (k + xs.length) := by
  intro xs
  induction xs with
  | nil =>
    intro p k h0 h1 _
    refine Ev.step (fun k => by rw [laws_heldInt64S.l0]) ?_
    refine ev_neg (not_lt_end p) (ev_of (Ev.now _) ?_)
    simp
  | cons x xs ih =>
    intro p k h0 h1 hl
    rw [List.length_cons] at hl h1
    have hw : wrap64 ((p.length : Int) + 1) = ((p ++ [k]).length : Int) := wrap_next p k (by omega)
    have hi := ih (p ++ [k]) (k + 1) (by omega) (by omega) (by rw [List.length_append]; simp; omega)
    have w1 : wrap64 (k + 1) = k + 1 := wrap_small (by omega) (by omega)
    rw [markInt64]
    refine Ev.step (fun k => by rw [laws_heldInt64S.l0]) ?_
    refine ev_pos (lt_mid p _ _) (ev_pos (Int.natCast_nonneg _) ?_)
    rw [rd_mid, w1, hw, push_mid p k (markInt64 (k + 1) xs)]
    refine ev_pos rfl (ev_of hi ?_)
    rw [List.length_cons]
    omega
theorem heldInt64S_ev (l : List Int) (hl : l.length ≤ 1048576) : Ev (fun n => laws_heldInt64S.f n (markInt64 1 l) 1) (1 + (l.length : Int)) := by
  unfold laws_heldInt64S.f
  exact heldInt64S_loop l [] 1 (by omega) (by omega) (by simp; omega)
end Go.Proofs.YtkegmjebkikniaaB
