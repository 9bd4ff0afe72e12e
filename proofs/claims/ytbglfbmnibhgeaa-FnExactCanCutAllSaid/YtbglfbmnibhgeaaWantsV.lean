/- Pieces: whether a list of them is valid. -/
import Derived.Test.YtbglfbmnibhgeaaWantV
import Derived.Test.YtbglfbmnibhgeaaPx8
namespace Go.Proofs.YtbglfbmnibhgeaaB
open Go.RowKit Go.Proofs.YtbglfbmnibhgeaaW.PrintWords Go.Proofs.YtbglfbmnibhgeaaW.PrintLast Go.Proofs.Ytbglfbmnibhgeaa.P

theorem spec_wants_loop : ∀ (xs p : List W'), p.length + xs.length ≤ 1048576 → (∀ x ∈ xs, x.f0.size ≤ maxLen) → Ev (fun k => spec_l23Wants.l0 k (p ++ xs) (p.length : Int)) (xs.all wantB && decide (((p ++ xs).length : Int) ≤ 30)) := by
  intro xs
  induction xs with
  | nil =>
    intro p _ _
    refine Ev.step (fun k => by rw [spec_l23Wants.l0]) ?_
    refine ev_neg (not_lt_end p) (ev_of (Ev.now _) ?_)
    simp
  | cons x xs ih =>
    intro p hl hs
    rw [List.length_cons] at hl
    have hw : wrap64 ((p.length : Int) + 1) = ((p ++ [x]).length : Int) := wrap_next p x (by omega)
    have hi := ih (p ++ [x]) (by rw [List.length_append]; simp; omega) (fun y hy => hs y (List.mem_cons_of_mem _ hy))
    refine Ev.step (fun k => by rw [spec_l23Wants.l0]) ?_
    refine ev_pos (lt_mid p x xs) (ev_pos (Int.natCast_nonneg _) ?_)
    rw [rd55_mid, hw]
    refine Ev.bind (spec_want x.f0 x.f1 (hs x List.mem_cons_self)) (ev_ite (fun h => ?_) (fun h => ?_))
    · rw [push_mid p x xs]
      refine ev_of hi ?_
      simp [wantB, h]
    · refine ev_of (Ev.now _) ?_
      simp only [Bool.not_eq_true] at h
      simp [wantB, h]
theorem spec_wants (l : List W') (hl : l.length ≤ 1048576) (hs : ∀ x ∈ l, x.f0.size ≤ maxLen) : Ev (fun k => spec_l23Wants.f k l) (okWants l) := by
  unfold spec_l23Wants.f
  exact spec_wants_loop l [] (by simp; omega) hs
theorem impl_wants_loop : ∀ (xs p : List W'), p.length + xs.length ≤ 1048576 → (∀ x ∈ xs, x.f0.size ≤ maxLen) → Ev (fun k => impl_ValidWants.l0 k (p ++ xs) ((p ++ xs).length : Int) (p.length : Int)) (xs.all wantB) := by
  intro xs
  induction xs with
  | nil =>
    intro p _ _
    refine Ev.step (fun k => by rw [impl_ValidWants.l0]) ?_
    exact ev_neg (not_lt_end p) (Ev.now _)
  | cons x xs ih =>
    intro p hl hs
    rw [List.length_cons] at hl
    have hw : wrap64 ((p.length : Int) + 1) = ((p ++ [x]).length : Int) := wrap_next p x (by omega)
    have hi := ih (p ++ [x]) (by rw [List.length_append]; simp; omega) (fun y hy => hs y (List.mem_cons_of_mem _ hy))
    refine Ev.step (fun k => by rw [impl_ValidWants.l0]) ?_
    refine ev_pos (lt_mid p x xs) (ev_pos (Int.natCast_nonneg _) (ev_pos (lt_mid p x xs) ?_))
    rw [rd55_mid, hw]
    refine Ev.bind (impl_want x.f0 x.f1 (hs x List.mem_cons_self)) (ev_ite (fun h => ?_) (fun h => ?_))
    · rw [push_mid p x xs]
      refine ev_of hi ?_
      simp [wantB, h]
    · refine ev_of (Ev.now _) ?_
      simp only [Bool.not_eq_true] at h
      simp [wantB, h]
theorem impl_wants (l : List W') (hl : l.length ≤ 1048576) (hs : ∀ x ∈ l, x.f0.size ≤ maxLen) : Ev (fun k => impl_ValidWants.f k l) (okWants l) := by
  unfold impl_ValidWants.f
  refine ev_ite (fun h => ?_) (fun h => ?_)
  · refine ev_of (Ev.now _) ?_
    simp [okWants]
    omega
  · refine ev_of (impl_wants_loop l [] (by simp; omega) hs) ?_
    simp [okWants]
    omega
abbrev GoodWants (l : List W') : Prop := l.length ≤ 1048576 ∧ ∀ x ∈ l, GoodWant x
theorem good_wsizes {l : List W'} (h : GoodWants l) : ∀ x ∈ l, x.f0.size ≤ maxLen := fun x hx => by
  have := (h.2 x hx).1
  unfold maxLen
  omega
end Go.Proofs.YtbglfbmnibhgeaaB
