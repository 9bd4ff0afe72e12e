/- harm of an order, of both; the orders -/
import Derived.Test.YtkegmjebkikniaaRenV
import Derived.Test.YtkegmjebkikniaaPx25
import Derived.Test.YtkegmjebkikniaaPx3
import Derived.Test.YtkegmjebkikniaaPx5
import Derived.Test.YtkegmjebkikniaaPx6
import Derived.Test.YtkegmjebkikniaaPx8
namespace Go.Proofs.YtkegmjebkikniaaB
open Go.RowKit Go.Proofs.YtkegmjebkikniaaW.PrintWords Go.Proofs.YtkegmjebkikniaaW.PrintLast Go.Proofs.YtkegmjebkikniaaW.Hand Go.Proofs.Ytkegmjebkikniaa.P

theorem max_someH (a b : Int) : spec_l00Max.f a b = some (mx a b) := by
  unfold spec_l00Max.f mx
  split <;> split <;> first | rfl | (congr 1; omega)
section
variable (l : List R) (e : List Int) (hl : l.length ≤ 1048576) (he : e.length = l.length)
include hl he
theorem harm_loopH : ∀ (xs p : List Int) (d : Int), e = p ++ xs →
    Both (fun _ => True) (fun k => spec_l22Harm.l0 k l e d (p.length : Int)) (fun k => impl_harmOf.l0 k l d e (e.length : Int) (p.length : Int)) := by
  intro xs
  induction xs with
  | nil =>
    intro p d hp
    have ee : p = e := by rw [hp]; simp
    exact both_step (fun k => by rw [spec_l22Harm.l0]) (fun k => by rw [impl_harmOf.l0]) (both_negL (by rw [ee]; omega) (both_negR (by rw [ee]; omega) (both_now _ trivial)))
  | cons x xs ih =>
    intro p d hp
    have hpl : (p.length : Int) + (xs.length + 1) = e.length := by rw [hp]; simp
    have hw : wrap64 ((p.length : Int) + 1) = ((p ++ [x]).length : Int) := wrap_next p x (by omega)
    refine both_step (fun k => by rw [spec_l22Harm.l0]) (fun k => by rw [impl_harmOf.l0]) ?_
    refine both_posL (by omega) (both_posL (Int.natCast_nonneg _) (both_posL (by omega) (both_posR (by omega) (both_posR (Int.natCast_nonneg _) (both_posR (by omega) (both_posR (by omega) ?_))))))
    rw [hw]
    exact both_bind0L (max_someH _ _) (ih (p ++ [x]) _ (by rw [hp]; simp))
end
theorem orders_good (n : Nat) : ∀ (m : Nat) (o : List Int), (∀ x ∈ o, 0 ≤ x ∧ x < (n : Int)) → ∀ q ∈ ordersFrom n m o, q.length = o.length + m ∧ ∀ x ∈ q, 0 ≤ x ∧ x < (n : Int)
  | 0, o, h, q, hq => by
    rw [ordersFrom, List.mem_singleton] at hq
    subst hq
    exact ⟨rfl, h⟩
  | m + 1, o, h, q, hq => by
    rw [ordersFrom] at hq
    obtain ⟨i, hi, hq⟩ := List.mem_flatMap.mp hq
    rw [List.mem_range] at hi
    split at hq
    · exact absurd hq (by simp)
    · obtain ⟨h1, h2⟩ := orders_good n m (o ++ [(i : Int)]) (fun x hx => by
        rcases List.mem_append.mp hx with hx | hx
        · exact h x hx
        · rw [List.mem_singleton] at hx; subst hx; omega) q hq
      refine ⟨?_, h2⟩
      rw [h1, List.length_append, List.length_singleton]
      omega
section
variable (l : List R) (hl : l.length ≤ 7)
include hl
theorem harm_both (o : List Int) (ho : o.length ≤ 1048576) (hin : ∀ x ∈ o, 0 ≤ x ∧ x < (l.length : Int)) : Both (fun _ => True) (fun k => spec_l22Harm.f k l o) (fun k => impl_harmOf.f k l o) := by
  unfold spec_l22Harm.f impl_harmOf.f
  exact both_bind (ends_both l o ho (by omega) hin) (fun e he => harm_loopH l e (by omega) he e [] 0 rfl)
end
theorem valid_ev (l : List R) (h : GoodRenewals l) : ∃ b : Bool, Ev (fun k => spec_l22Ok.f k l) b ∧ Ev (fun k => impl_ValidRenewals.f k l) b ∧ (b = true → l.length ≤ 7) := by
  refine ⟨_, spec_ok l h.1 (good_sizes h), impl_ok l h.1 (good_sizes h), fun hb => ?_⟩
  simp at hb
  omega
end Go.Proofs.YtkegmjebkikniaaB
