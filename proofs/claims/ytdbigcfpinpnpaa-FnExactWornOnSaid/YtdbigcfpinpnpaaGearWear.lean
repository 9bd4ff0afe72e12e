/- The wear of a part on a day, of both. -/
import Derived.Test.YtdbigcfpinpnpaaGearCode
import Derived.Test.YtdbigcfpinpnpaaPx12
namespace Go.Proofs.YtdbigcfpinpnpaaB
open Go.RowKit Go.Proofs.YtdbigcfpinpnpaaW.PrintWords Go.Proofs.YtdbigcfpinpnpaaW.PrintLast Go.Proofs.Ytdbigcfpinpnpaa.P

theorem max0 (b : Int) : spec_l00Max.f 0 b = some (mx 0 b) := by
  unfold spec_l00Max.f mx
  split <;> split <;> first | rfl | (congr 1; omega)
def wearV (x : G) (d : Int) (o : Option K) : Int := match o with
  | none => wrap64 (x.f2 * mx 0 (wrap64 (d - x.f1)))
  | some c => wrap64 (c.f2 + wrap64 (x.f2 * wrap64 (d - c.f1)))
theorem wear_loop (x : G) (d : Int) : ∀ (xs p : List K) (acc : Int), p.length + xs.length ≤ 1048576 →
    Ev (fun k => impl_wearOn.l0 k d acc (p ++ xs) ((p ++ xs).length : Int) (p.length : Int) x.f0 x.f1 x.f2 x.f3) (match (xs.filter (fun c => decide (c.f1 ≤ d))).getLast? with | none => acc | some c => wrap64 (c.f2 + wrap64 (x.f2 * wrap64 (d - c.f1)))) := by
  intro xs
  induction xs with
  | nil =>
    intro p acc _
    refine Ev.step (fun k => by rw [impl_wearOn.l0]) ?_
    exact ev_neg (not_lt_end p) (Ev.now _)
  | cons c xs ih =>
    intro p acc hl
    rw [List.length_cons] at hl
    have hw : wrap64 ((p.length : Int) + 1) = ((p ++ [c]).length : Int) := wrap_next p c (by omega)
    have hi := fun acc => ih (p ++ [c]) acc (by rw [List.length_append]; simp; omega)
    refine Ev.step (fun k => by rw [impl_wearOn.l0]) ?_
    refine ev_pos (lt_mid p c xs) (ev_pos (Int.natCast_nonneg _) (ev_pos (lt_mid p c xs) ?_))
    rw [rd53_mid, hw, push_mid p c xs]
    refine ev_ite (fun h => ?_) (fun h => ?_)
    · refine ev_of (hi _) ?_
      rw [List.filter_cons_of_pos (by simpa using h), List.getLast?_cons]
      cases (xs.filter (fun c => decide (c.f1 ≤ d))).getLast? with
      | none => rfl
      | some z => rfl
    · refine ev_of (hi acc) ?_
      rw [List.filter_cons_of_neg (by simpa using h)]
theorem spec_wear (x : G) (l : List K) (d : Int) (h : l.length ≤ 1048576) : Ev (fun k => spec_l21Wear.f k x.f0 x.f1 x.f2 x.f3 l d) (wearV x d (lastOf l x.f0 d)) := by
  unfold spec_l21Wear.f
  refine Ev.bind (last_ev l x.f0 d h) ?_
  cases lastOf l x.f0 d with
  | none => exact ev_neg (by simp [lastE]) (ev_bind0 (max0 _) (Ev.now _))
  | some c => exact ev_pos rfl (Ev.now _)
theorem impl_wear (x : G) (l : List K) (d : Int) (h : l.length ≤ 1048576) : Ev (fun k => impl_wearOn.f k x.f0 x.f1 x.f2 x.f3 l d) (wearV x d (lastOf l x.f0 d)) := by
  unfold impl_wearOn.f
  refine Ev.bind (own_ev l x.f0 h) ?_
  have hz := wear_loop x d (ownL l x.f0) [] (wrap64 (x.f2 * mx 0 (wrap64 (d - x.f1)))) (by have := own_length l x.f0; simp; omega)
  refine ev_of hz ?_
  unfold wearV lastOf
  cases ((ownL l x.f0).filter (fun c => decide (c.f1 ≤ d))).getLast? with
  | none => rfl
  | some z => rfl
end Go.Proofs.YtdbigcfpinpnpaaB
