/- LatestDay, HarmOf, EndsOfPlan, LateRenewals, of both. -/
import Derived.Test.YtkegmjebkikniaaRenV
import Derived.Test.YtkegmjebkikniaaToInt64
import Derived.Test.YtkegmjebkikniaaPx0
import Derived.Test.YtkegmjebkikniaaPx12
import Derived.Test.YtkegmjebkikniaaPx14
import Derived.Test.YtkegmjebkikniaaPx17
import Derived.Test.YtkegmjebkikniaaPx18
import Derived.Test.YtkegmjebkikniaaPx19
import Derived.Test.YtkegmjebkikniaaPx20
import Derived.Test.YtkegmjebkikniaaPx21
import Derived.Test.YtkegmjebkikniaaPx22
import Derived.Test.YtkegmjebkikniaaPx6
import Derived.Test.YtkegmjebkikniaaPx8
import Derived.Test.YtkegmjebkikniaaPx9
namespace Go.Proofs.YtkegmjebkikniaaB
open Go.RowKit Go.Proofs.YtkegmjebkikniaaW.PrintWords Go.Proofs.YtkegmjebkikniaaW.PrintLast Go.Proofs.Ytkegmjebkikniaa.P

theorem max_some (a b : Int) : spec_l00Max.f a b = some (mx a b) := by
  unfold spec_l00Max.f mx
  split <;> split <;> first | rfl | (congr 1; omega)
section
variable (l : List R) (e : List Int) (hl : l.length ≤ 1048576) (he : e.length = l.length)
include hl he
theorem latest_loop : ∀ (xs p : List Int) (d : Int), e = p ++ xs →
    Both (fun _ => True) (fun k => spec_LatestDay.l0 k l e d (p.length : Int)) (fun k => impl_LatestDay.l0 k l d e (e.length : Int) (p.length : Int)) := by
  intro xs
  induction xs with
  | nil =>
    intro p d hp
    have ee : p = e := by rw [hp]; simp
    exact both_step (fun k => by rw [spec_LatestDay.l0]) (fun k => by rw [impl_LatestDay.l0]) (both_negL (by rw [ee]; omega) (both_negR (by rw [ee]; omega) (both_now _ trivial)))
  | cons x xs ih =>
    intro p d hp
    have hpl : (p.length : Int) + (xs.length + 1) = e.length := by rw [hp]; simp
    have hw : wrap64 ((p.length : Int) + 1) = ((p ++ [x]).length : Int) := wrap_next p x (by omega)
    refine both_step (fun k => by rw [spec_LatestDay.l0]) (fun k => by rw [impl_LatestDay.l0]) ?_
    refine both_posL (by omega) (both_posL (Int.natCast_nonneg _) (both_posL (by omega) (both_posR (by omega) (both_posR (Int.natCast_nonneg _) (both_posR (by omega) (both_posR (by omega) ?_))))))
    rw [hw]
    exact both_bind0L (max_some _ _) (ih (p ++ [x]) _ (by rw [hp]; simp))
theorem harm_loop : ∀ (xs p : List Int) (d : Int), e = p ++ xs →
    Both (fun _ => True) (fun k => spec_l22Harm.l0 k l e d (p.length : Int)) (fun k => impl_harmOf.l0 k l d e (e.length : Int) (p.length : Int)) := by
  intro xs
  induction xs with
  | nil =>
    intro p d hp
    have ee : p = e := by rw [hp]; simp
    exact both_step (fun k => by rw [spec_l22Harm.l0]) (fun k => by rw [impl_harmOf.l0]) (both_negL (by rw [ee]; omega) (both_negR (by rw [ee]; omega) (both_now _ trivial)))
  | cons x xs ih =>
    intro p d hp
    have hpl : (p.length : Int) + (xs.length + 1) = e.length := by rw [hp]; simp
    have hw : wrap64 ((p.length : Int) + 1) = ((p ++ [x]).length : Int) := wrap_next p x (by omega)
    refine both_step (fun k => by rw [spec_l22Harm.l0]) (fun k => by rw [impl_harmOf.l0]) ?_
    refine both_posL (by omega) (both_posL (Int.natCast_nonneg _) (both_posL (by omega) (both_posR (by omega) (both_posR (Int.natCast_nonneg _) (both_posR (by omega) (both_posR (by omega) ?_))))))
    rw [hw]
    exact both_bind0L (max_some _ _) (ih (p ++ [x]) _ (by rw [hp]; simp))
theorem late_loop : ∀ (xs p : List Int) (acc : List Int), e = p ++ xs → acc.length ≤ p.length →
    ∃ r, Ev (fun k => spec_l22Late.l0 k l e acc (p.length : Int)) r ∧ Ev (fun k => impl_LateRenewals.l0 k l acc e (e.length : Int) (p.length : Int)) (r, 0) ∧ r.length ≤ 1048576 := by
  intro xs
  induction xs with
  | nil =>
    intro p acc hp ha
    have ee : p = e := by rw [hp]; simp
    exact ⟨acc, Ev.step (fun k => by rw [spec_l22Late.l0]) (ev_neg (by rw [ee]; omega) (Ev.now _)), Ev.step (fun k => by rw [impl_LateRenewals.l0]) (ev_neg (by rw [ee]; omega) (Ev.now _)), by rw [ee] at ha; omega⟩
  | cons x xs ih =>
    intro p acc hp ha
    have hpl : (p.length : Int) + (xs.length + 1) = e.length := by rw [hp]; simp
    have hw : wrap64 ((p.length : Int) + 1) = ((p ++ [x]).length : Int) := wrap_next p x (by omega)
    have hi := fun acc (h : acc.length ≤ p.length + 1) => ih (p ++ [x]) acc (by rw [hp]; simp) (by simpa using h)
    by_cases hg : rd e (p.length : Int) > (rd_T55 l (p.length : Int)).f2
    · obtain ⟨r, r1, r2, r3⟩ := hi (acc ++ [(p.length : Int)]) (by simp; omega)
      refine ⟨r, Ev.step (fun k => by rw [spec_l22Late.l0]) ?_, Ev.step (fun k => by rw [impl_LateRenewals.l0]) ?_, r3⟩
      · refine ev_pos (by omega) (ev_pos (Int.natCast_nonneg _) (ev_pos (by omega) (ev_pos hg (ev_pos (by omega) ?_))))
        rw [hw]
        exact r1
      · refine ev_pos (by omega) (ev_pos (Int.natCast_nonneg _) (ev_pos (by omega) (ev_pos (by omega) (ev_pos hg (ev_pos (by omega) ?_)))))
        rw [hw]
        exact r2
    · obtain ⟨r, r1, r2, r3⟩ := hi acc (by omega)
      refine ⟨r, Ev.step (fun k => by rw [spec_l22Late.l0]) ?_, Ev.step (fun k => by rw [impl_LateRenewals.l0]) ?_, r3⟩
      · refine ev_pos (by omega) (ev_pos (Int.natCast_nonneg _) (ev_pos (by omega) (ev_neg hg ?_)))
        rw [hw]
        exact r1
      · refine ev_pos (by omega) (ev_pos (Int.natCast_nonneg _) (ev_pos (by omega) (ev_pos (by omega) (ev_neg hg ?_))))
        rw [hw]
        exact r2
end
theorem LatestDay_both (l : List R) (o : List Int) (h : GoodRenewals l) (ho : GoodInts o) : Both (fun _ => True) (fun k => spec_LatestDay.f k l o) (fun k => impl_LatestDay.f k l o) := by
  unfold spec_LatestDay.f impl_LatestDay.f
  refine both_bindL (spec_code l o h ho.1) (both_bindR (impl_code l o h ho.1) ?_)
  by_cases hc : codeR l o = 0
  · have hi := codeR_in hc
    exact both_posL hc (both_posR hc (both_bind (ends_both l o ho.1 h.1 hi.2.2) (fun e he => latest_loop l e h.1 he e [] 0 rfl)))
  · exact both_negL hc (both_negR hc (both_now _ trivial))
theorem HarmOf_both (l : List R) (o : List Int) (h : GoodRenewals l) (ho : GoodInts o) : Both (fun _ => True) (fun k => spec_HarmOf.f k l o) (fun k => impl_HarmOf.f k l o) := by
  unfold spec_HarmOf.f impl_HarmOf.f
  refine both_bindL (spec_code l o h ho.1) (both_bindR (impl_code l o h ho.1) ?_)
  by_cases hc : codeR l o = 0
  · have hi := codeR_in hc
    refine both_posL hc (both_posR hc ?_)
    unfold spec_l22Harm.f impl_harmOf.f
    exact both_bind (both_bind (ends_both l o ho.1 h.1 hi.2.2) (fun e he => harm_loop l e h.1 he e [] 0 rfl)) (fun _ _ => both_now _ trivial)
  · exact both_negL hc (both_negR hc (both_now _ trivial))
theorem EndsOfPlan_both (l : List R) (o : List Int) (h : GoodRenewals l) (ho : GoodInts o) : Both (fun r => r.1.length ≤ 1048576) (fun k => spec_EndsOfPlan.f k l o) (fun k => impl_EndsOfPlan.f k l o) := by
  unfold spec_EndsOfPlan.f impl_EndsOfPlan.f
  refine both_bindL (spec_code l o h ho.1) (both_bindR (impl_code l o h ho.1) ?_)
  by_cases hc : codeR l o = 0
  · have hi := codeR_in hc
    exact both_posL hc (both_posR hc (both_bind (ends_both l o ho.1 h.1 hi.2.2) (fun e he => both_now _ (by show e.length ≤ _; have := h.1; omega))))
  · exact both_negL hc (both_negR hc (both_now _ (by simp)))
theorem LateRenewals_both (l : List R) (o : List Int) (h : GoodRenewals l) (ho : GoodInts o) : Both (fun r => r.1.length ≤ 1048576) (fun k => spec_LateRenewals.f k l o) (fun k => impl_LateRenewals.f k l o) := by
  unfold spec_LateRenewals.f impl_LateRenewals.f
  refine both_bindL (spec_code l o h ho.1) (both_bindR (impl_code l o h ho.1) ?_)
  by_cases hc : codeR l o = 0
  · have hi := codeR_in hc
    refine both_posL hc (both_posR hc ?_)
    unfold spec_l22Late.f
    obtain ⟨e, e1, e2, he⟩ := ends_both l o ho.1 h.1 hi.2.2
    obtain ⟨r, r1, r2, r3⟩ := late_loop l e h.1 he e [] [] rfl (by simp)
    exact both_bindR e2 (both_of (Ev.bind (Ev.bind e1 r1) (Ev.now _)) r2 r3)
  · exact both_negL hc (both_negR hc (both_now _ (by simp)))
end Go.Proofs.YtkegmjebkikniaaB
