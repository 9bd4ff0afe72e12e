/- The copy of a list of whole numbers that came in. -/
import Derived.Test.YtkegmjebkikniaaTyInt64
import Derived.Test.YtkegmjebkikniaaPx16
namespace Go.Proofs.YtkegmjebkikniaaB
open Go.RowKit Go.Proofs.YtkegmjebkikniaaW.PrintWords Go.Proofs.YtkegmjebkikniaaW.PrintLast Go.Proofs.Ytkegmjebkikniaa.P

theorem toInt64S_loop : ∀ (xs p : List Int), p.length + xs.length ≤ 1048576 → Ev (fun k => laws_toInt64S.l0 k (p ++ xs) (p ++ List.replicate xs.length 0) (p.length : Int)) (p ++ xs) := by
  intro xs
  induction xs with
  | nil =>
    intro p _
    refine Ev.step (fun k => by rw [laws_toInt64S.l0]) ?_
    exact ev_neg (not_lt_end p) (ev_of (Ev.now _) (by simp))
  | cons x xs ih =>
    intro p hl
    rw [List.length_cons] at hl
    have hw : wrap64 ((p.length : Int) + 1) = ((p ++ [x]).length : Int) := wrap_next p x (by omega)
    have hi := ih (p ++ [x]) (by rw [List.length_append]; simp; omega)
    refine Ev.step (fun k => by rw [laws_toInt64S.l0]) ?_
    refine ev_pos (lt_mid p x xs) (ev_pos (Int.natCast_nonneg _) ?_)
    rw [rd_mid, hw]
    refine ev_pos (by simp; omega) ?_
    rw [List.length_cons, List.replicate_succ, set_mid, push_mid p x xs]
    rw [push_mid p x (List.replicate xs.length 0)]
    exact hi
theorem toInt64S_ev (l : List Int) (hl : l.length ≤ 1048576) : Ev (fun k => laws_toInt64S.f k l) l := by
  have h := toInt64S_loop l [] (by simp; omega)
  unfold laws_toInt64S.f
  refine ev_pos (Int.natCast_nonneg _) (ev_pos (by simp; omega) ?_)
  simpa using h
abbrev GoodInts (l : List Int) : Prop := l.length ≤ 1048576 ∧ ∀ x ∈ l, I64 x
theorem goodInt64S_of (l : List Int) (h : l.length ≤ maxLen ∧ ∀ x ∈ l, (Lit.int .i64 x).wf = true) (hl : (l.length : Int) ≤ 1048576) : GoodInts l := ⟨by omega, fun x hx => i64_of_wf (h.2 x hx)⟩
end Go.Proofs.YtkegmjebkikniaaB
