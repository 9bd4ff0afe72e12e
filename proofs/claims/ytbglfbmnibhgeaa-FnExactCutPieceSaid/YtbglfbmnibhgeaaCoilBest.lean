/- The best coil, of both. -/
import Derived.Test.YtbglfbmnibhgeaaCoilV
import Derived.Test.YtbglfbmnibhgeaaWantV
import Derived.Test.YtbglfbmnibhgeaaPx0
import Derived.Test.YtbglfbmnibhgeaaPx16
namespace Go.Proofs.YtbglfbmnibhgeaaB
open Go.RowKit Go.Proofs.YtbglfbmnibhgeaaW.PrintWords Go.Proofs.YtbglfbmnibhgeaaW.PrintLast Go.Proofs.Ytbglfbmnibhgeaa.P

theorem code_ev (l : List C) (s : ByteArray) (n : Int) (h : GoodCoils l) (hs : s.size ≤ 1048576) : Ev (fun k => spec_l23Code.f k l s n) (if okCoils l = true then (if (nameB s && rangeB n) = true then 0 else 2) else 1) := by
  unfold spec_l23Code.f
  refine Ev.bind (spec_ok l h.1 (good_sizes h)) ?_
  by_cases h1 : okCoils l = true
  · rw [if_pos h1]
    refine ev_pos h1 (Ev.bind (spec_want s n (max_of hs)) ?_)
    by_cases h2 : (nameB s && rangeB n) = true
    · exact ev_of (ev_pos h2 (Ev.now _)) (if_pos h2).symm
    · exact ev_of (ev_neg h2 (Ev.now _)) (if_neg h2).symm
  · exact ev_of (ev_neg h1 (Ev.now _)) (if_neg h1).symm

/-- A best coil so far: none, or one of those behind, long enough. -/
def BestOf (l : List C) (n b : Int) : Prop := b = -1 ∨ (0 ≤ b ∧ b < (l.length : Int) ∧ n ≤ (rd_T45 l b).f1)
theorem best_loop (s : ByteArray) (n : Int) : ∀ (xs p : List C) (b : Int), p.length + xs.length ≤ 1048576 → BestOf (p ++ xs) n b → b < (p.length : Int) →
    Both (BestOf (p ++ xs) n) (fun k => spec_l23Best.l0 k (p ++ xs) b (p.length : Int) s n) (fun k => impl_bestCoil.l0 k (p ++ xs) b (p ++ xs) ((p ++ xs).length : Int) (p.length : Int) s n) := by
  intro xs
  induction xs with
  | nil =>
    intro p b hm hb hlt
    exact both_step (fun k => by rw [spec_l23Best.l0]) (fun k => by rw [impl_bestCoil.l0]) (both_negL (not_lt_end p) (both_negR (not_lt_end p) (both_now _ hb)))
  | cons x xs ih =>
    intro p b hm hb hlt
    rw [List.length_cons] at hm
    have hw : wrap64 ((p.length : Int) + 1) = ((p ++ [x]).length : Int) := wrap_next p x (by omega)
    have hz : ((p ++ [x]).length : Int) = p.length + 1 := by simp
    have hi := ih (p ++ [x])
    rw [← push_mid p x xs] at hi
    have hi2 := fun b (h : BestOf (p ++ x :: xs) n b) (h2 : b ≤ (p.length : Int)) => hi b (by rw [List.length_append]; simp; omega) h (by omega)
    have keep := hi2 b hb (by omega)
    refine both_step (fun k => by rw [spec_l23Best.l0]) (fun k => by rw [impl_bestCoil.l0]) ?_
    refine both_posL (lt_mid p x xs) (both_posL (Int.natCast_nonneg _) (both_posR (lt_mid p x xs) (both_posR (Int.natCast_nonneg _) (both_posR (lt_mid p x xs) ?_))))
    rw [rd45_mid, hw]
    refine both_ite (fun _ => both_ite (fun hn => ?_) (fun _ => keep)) (fun _ => keep)
    have take := hi2 (p.length : Int) (.inr ⟨Int.natCast_nonneg _, lt_mid p x xs, by rw [rd45_mid]; omega⟩) (by omega)
    refine both_ite (fun _ => take) (fun hnb => ?_)
    have hb2 : b < ((p ++ x :: xs).length : Int) := by have := lt_mid p x xs; omega
    exact both_posL (by omega) (both_posR (by omega) (both_posL hb2 (both_posR hb2 (both_ite (fun _ => take) (fun _ => keep)))))
theorem best_both (l : List C) (s : ByteArray) (n : Int) (h : l.length ≤ 1048576) : Both (BestOf l n) (fun k => spec_l23Best.f k l s n) (fun k => impl_bestCoil.f k l s n) := by
  unfold spec_l23Best.f impl_bestCoil.f
  exact best_loop s n l [] (-1) (by simp; omega) (.inl rfl) (by simp)
end Go.Proofs.YtbglfbmnibhgeaaB
