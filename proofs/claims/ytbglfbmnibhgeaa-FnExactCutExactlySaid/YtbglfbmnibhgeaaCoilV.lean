/- Coils: whether one, and a list of them, is valid. -/
import Derived.Test.YtbglfbmnibhgeaaNames
import Derived.Test.YtbglfbmnibhgeaaTyCoil
import Derived.Test.YtbglfbmnibhgeaaPx0
import Derived.Test.YtbglfbmnibhgeaaPx5
namespace Go.Proofs.YtbglfbmnibhgeaaB
open Go.RowKit Go.Proofs.YtbglfbmnibhgeaaW.PrintWords Go.Proofs.YtbglfbmnibhgeaaW.PrintLast Go.Proofs.Ytbglfbmnibhgeaa.P

theorem spec_one (s : ByteArray) (n : Int) (hs : s.size ≤ maxLen) : Ev (fun k => spec_l23One.f k s n) (nameB s && rangeB n) := by
  unfold spec_l23One.f
  refine Ev.bind (spec_name s hs) ?_
  cases nameB s with
  | true => exact ev_pos rfl (ev_bind0 (in_some _ _ _) (Ev.now _))
  | false => exact ev_neg (by simp) (Ev.now _)
theorem impl_one (s : ByteArray) (n : Int) (hs : s.size ≤ maxLen) : Ev (fun k => impl_validCoil.f k s n) (nameB s && rangeB n) := by
  unfold impl_validCoil.f
  refine Ev.bind (impl_name s hs) ?_
  cases nameB s with
  | true => exact ev_pos rfl (ev_bind0 (within_some _ _ _) (Ev.now _))
  | false => exact ev_neg (by simp) (Ev.now _)
abbrev C := S45
def coilB (x : C) : Bool := nameB x.f0 && rangeB x.f1
def okCoils (l : List C) : Bool := l.all coilB && decide ((l.length : Int) ≤ 40)
theorem spec_ok_loop : ∀ (xs p : List C), p.length + xs.length ≤ 1048576 → (∀ x ∈ xs, x.f0.size ≤ maxLen) → Ev (fun k => spec_l23Ok.l0 k (p ++ xs) (p.length : Int)) (xs.all coilB && decide (((p ++ xs).length : Int) ≤ 40)) := by
  intro xs
  induction xs with
  | nil =>
    intro p _ _
    refine Ev.step (fun k => by rw [spec_l23Ok.l0]) ?_
    refine ev_neg (not_lt_end p) (ev_of (Ev.now _) ?_)
    simp
  | cons x xs ih =>
    intro p hl hs
    rw [List.length_cons] at hl
    have hw : wrap64 ((p.length : Int) + 1) = ((p ++ [x]).length : Int) := wrap_next p x (by omega)
    have hi := ih (p ++ [x]) (by rw [List.length_append]; simp; omega) (fun y hy => hs y (List.mem_cons_of_mem _ hy))
    refine Ev.step (fun k => by rw [spec_l23Ok.l0]) ?_
    refine ev_pos (lt_mid p x xs) (ev_pos (Int.natCast_nonneg _) ?_)
    rw [rd45_mid, hw]
    refine Ev.bind (spec_one x.f0 x.f1 (hs x List.mem_cons_self)) (ev_ite (fun h => ?_) (fun h => ?_))
    · rw [push_mid p x xs]
      refine ev_of hi ?_
      simp [coilB, h]
    · refine ev_of (Ev.now _) ?_
      simp only [Bool.not_eq_true] at h
      simp [coilB, h]
theorem spec_ok (l : List C) (hl : l.length ≤ 1048576) (hs : ∀ x ∈ l, x.f0.size ≤ maxLen) : Ev (fun k => spec_l23Ok.f k l) (okCoils l) := by
  unfold spec_l23Ok.f
  exact spec_ok_loop l [] (by simp; omega) hs
theorem impl_ok_loop : ∀ (xs p : List C), p.length + xs.length ≤ 1048576 → (∀ x ∈ xs, x.f0.size ≤ maxLen) → Ev (fun k => impl_ValidStockCoils.l0 k (p ++ xs) ((p ++ xs).length : Int) (p.length : Int)) (xs.all coilB) := by
  intro xs
  induction xs with
  | nil =>
    intro p _ _
    refine Ev.step (fun k => by rw [impl_ValidStockCoils.l0]) ?_
    exact ev_neg (not_lt_end p) (Ev.now _)
  | cons x xs ih =>
    intro p hl hs
    rw [List.length_cons] at hl
    have hw : wrap64 ((p.length : Int) + 1) = ((p ++ [x]).length : Int) := wrap_next p x (by omega)
    have hi := ih (p ++ [x]) (by rw [List.length_append]; simp; omega) (fun y hy => hs y (List.mem_cons_of_mem _ hy))
    refine Ev.step (fun k => by rw [impl_ValidStockCoils.l0]) ?_
    refine ev_pos (lt_mid p x xs) (ev_pos (Int.natCast_nonneg _) (ev_pos (lt_mid p x xs) ?_))
    rw [rd45_mid, hw]
    refine Ev.bind (impl_one x.f0 x.f1 (hs x List.mem_cons_self)) (ev_ite (fun h => ?_) (fun h => ?_))
    · rw [push_mid p x xs]
      refine ev_of hi ?_
      simp [coilB, h]
    · refine ev_of (Ev.now _) ?_
      simp only [Bool.not_eq_true] at h
      simp [coilB, h]
theorem impl_ok (l : List C) (hl : l.length ≤ 1048576) (hs : ∀ x ∈ l, x.f0.size ≤ maxLen) : Ev (fun k => impl_ValidStockCoils.f k l) (okCoils l) := by
  unfold impl_ValidStockCoils.f
  refine ev_ite (fun h => ?_) (fun h => ?_)
  · refine ev_of (Ev.now _) ?_
    simp [okCoils]
    omega
  · refine ev_of (impl_ok_loop l [] (by simp; omega) hs) ?_
    simp [okCoils]
    omega

abbrev GoodCoils (l : List C) : Prop := l.length ≤ 1048576 ∧ ∀ x ∈ l, GoodCoil x
theorem good_sizes {l : List C} (h : GoodCoils l) : ∀ x ∈ l, x.f0.size ≤ maxLen := fun x hx => by
  have := (h.2 x hx).1
  unfold maxLen
  omega
end Go.Proofs.YtbglfbmnibhgeaaB
