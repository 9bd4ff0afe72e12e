/- LeastHarm, of both -/
import Derived.Test.YtkegmjebkikniaaRenHarm
import Derived.Test.YtkegmjebkikniaaPx0
import Derived.Test.YtkegmjebkikniaaPx11
import Derived.Test.YtkegmjebkikniaaPx23
import Derived.Test.YtkegmjebkikniaaPx29
import Derived.Test.YtkegmjebkikniaaPx30
import Derived.Test.YtkegmjebkikniaaPx8
import Derived.Test.YtkegmjebkikniaaPx9
namespace Go.Proofs.YtkegmjebkikniaaB
open Go.RowKit Go.Proofs.YtkegmjebkikniaaW.PrintWords Go.Proofs.YtkegmjebkikniaaW.PrintLast Go.Proofs.YtkegmjebkikniaaW.Hand Go.Proofs.Ytkegmjebkikniaa.P

section
variable (l : List R) (hl : l.length ≤ 7)
include hl
theorem late_is (e : List Int) (he : e.length = l.length) : ∀ (xs p : List Int) (acc : List Int), e = p ++ xs → acc.length ≤ p.length →
    ∃ r : List Int, Ev (fun k => spec_l22Late.l0 k l e acc (p.length : Int)) r := by
  intro xs
  induction xs with
  | nil =>
    intro p acc hp ha
    have ee : p = e := by rw [hp]; simp
    exact ⟨acc, Ev.step (fun k => by rw [spec_l22Late.l0]) (ev_neg (by rw [ee]; omega) (Ev.now _))⟩
  | cons x xs ih =>
    intro p acc hp ha
    have hpl : (p.length : Int) + (xs.length + 1) = e.length := by rw [hp]; simp
    have hw : wrap64 ((p.length : Int) + 1) = ((p ++ [x]).length : Int) := wrap_next p x (by omega)
    have hi := fun acc (h : acc.length ≤ p.length + 1) => ih (p ++ [x]) acc (by rw [hp]; simp) (by simpa using h)
    by_cases hg : rd e (p.length : Int) > (rd_T55 l (p.length : Int)).f2
    · obtain ⟨r, r1⟩ := hi (acc ++ [(p.length : Int)]) (by simp; omega)
      refine ⟨r, Ev.step (fun k => by rw [spec_l22Late.l0]) ?_⟩
      · refine ev_pos (by omega) (ev_pos (Int.natCast_nonneg _) (ev_pos (by omega) (ev_pos hg (ev_pos (by omega) ?_))))
        rw [hw]
        exact r1
    · obtain ⟨r, r1⟩ := hi acc (by omega)
      refine ⟨r, Ev.step (fun k => by rw [spec_l22Late.l0]) ?_⟩
      · refine ev_pos (by omega) (ev_pos (Int.natCast_nonneg _) (ev_pos (by omega) (ev_neg hg ?_)))
        rw [hw]
        exact r1
theorem leastH_leaf (o : List Int) (ho : o.length = l.length) (hin : ∀ x ∈ o, 0 ≤ x ∧ x < (l.length : Int)) : ∃ (n : Int) (late : List Int), Ev (fun k => spec_l22Harm.f k l o) n ∧ Ev (fun k => impl_harmOf.f k l o) n ∧ Ev (fun k => spec_l22Late.f k l o) late := by
  obtain ⟨n, n1, n2, _⟩ := harm_both l hl o (by omega) hin
  obtain ⟨e, e1, e2, he⟩ := ends_both l o (by omega) (by omega) hin
  obtain ⟨r, r1⟩ := late_is l hl e he e [] [] rfl (by simp)
  refine ⟨n, r, n1, n2, ?_⟩
  unfold spec_l22Late.f
  exact Ev.bind e1 r1
theorem leastH_fold : ∀ (os : List (List Int)), (∀ o ∈ os, o.length = l.length ∧ ∀ x ∈ o, 0 ≤ x ∧ x < (l.length : Int)) → ∀ (st : List Int × Int × Int), st.1.length ≤ 7 →
    ∃ st', Ev (fun k => os.foldlM (leafW k l) st) st' ∧ Ev (fun k => os.foldlM (leafI k l) (st.1, st.2.1)) (st'.1, st'.2.1) ∧ st'.1.length ≤ 7 := by
  intro os
  induction os with
  | nil => intro _ st hst; exact ⟨st, Ev.now _, Ev.now _, hst⟩
  | cons o os ih =>
    intro hos st hst
    obtain ⟨ho, hin⟩ := hos o (List.mem_cons_self ..)
    obtain ⟨n, late, n1, n2, n3⟩ := leastH_leaf l hl o ho hin
    obtain ⟨st', s1, s2, s4⟩ := ih (fun q hq => hos q (List.mem_cons_of_mem _ hq)) (if st.2.1 < 0 ∨ n < st.2.1 then o else st.1, if st.2.1 < 0 ∨ n < st.2.1 then n else st.2.1, if st.2.2 > (o.length : Int) - (late.length : Int) then st.2.2 else (o.length : Int) - (late.length : Int)) (by dsimp only; split <;> omega)
    refine ⟨st', ?_, ?_, s4⟩
    · simp only [List.foldlM_cons]
      refine Ev.bind (a := _) ?_ s1
      unfold leafW
      exact Ev.bind n1 (Ev.bind n3 (Ev.now _))
    · simp only [List.foldlM_cons]
      refine Ev.bind (a := (if st.2.1 < 0 ∨ n < st.2.1 then o else st.1, if st.2.1 < 0 ∨ n < st.2.1 then n else st.2.1)) ?_ s2
      unfold leafI
      refine Ev.bind n2 (ev_of (Ev.now _) ?_)
      by_cases h : st.2.1 < 0 ∨ n < st.2.1
      · simp only [if_pos h]
      · simp only [if_neg h]
end
theorem LeastHarm_both (l : List R) (h : GoodRenewals l) : Both (fun r => r.1.length ≤ 1048576) (fun k => spec_LeastHarm.f k l) (fun k => impl_LeastHarm.f k l) := by
  unfold spec_LeastHarm.f impl_LeastHarm.f
  obtain ⟨b, b1, b2, b3⟩ := valid_ev l h
  refine both_bindL b1 (both_bindR b2 ?_)
  cases b with
  | false => exact both_negL (by simp) (both_negR (by simp) (both_now _ (by simp)))
  | true =>
    obtain ⟨st', s1, s2, s4⟩ := leastH_fold l (b3 rfl) (ordersFrom l.length l.length []) (fun o ho => by
        obtain ⟨h1, h2⟩ := orders_good l.length l.length [] (by simp) o ho
        exact ⟨by simpa using h1, h2⟩) ([], -1, 0) (by simp)
    exact both_posL rfl (both_posL (b3 rfl) (both_posR rfl (both_posR (b3 rfl) (both_bindL s1 (both_bindR s2 (both_now _ (by dsimp only; omega)))))))
end Go.Proofs.YtkegmjebkikniaaB
