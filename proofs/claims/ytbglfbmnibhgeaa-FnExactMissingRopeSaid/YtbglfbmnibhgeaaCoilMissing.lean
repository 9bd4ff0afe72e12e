/- MissingRope, of both. -/
import Derived.Test.YtbglfbmnibhgeaaCoilV
import Derived.Test.YtbglfbmnibhgeaaWantsV
import Derived.Test.YtbglfbmnibhgeaaPx0
import Derived.Test.YtbglfbmnibhgeaaPx10
import Derived.Test.YtbglfbmnibhgeaaPx19
import Derived.Test.YtbglfbmnibhgeaaPx20
namespace Go.Proofs.YtbglfbmnibhgeaaB
open Go.RowKit Go.Proofs.YtbglfbmnibhgeaaW.PrintWords Go.Proofs.YtbglfbmnibhgeaaW.PrintLast Go.Proofs.Ytbglfbmnibhgeaa.P

def sm (a : ByteArray) (y : W') : Bool := y.f0.toList == a.toList
theorem sm_pos {a : ByteArray} {y : W'} (h : y.f0.toList = a.toList) : sm a y = true := by simp [sm, h]
theorem sm_neg {a : ByteArray} {y : W'} (h : ¬ y.f0.toList = a.toList) : sm a y = false := by simp [sm, h]
def sumW : List W' → ByteArray → Int
  | [], _ => 0
  | y :: ys, a => (if y.f0.toList = a.toList then y.f1 else 0) + sumW ys a
theorem sumW_push : ∀ (p : List W') (y : W') (a : ByteArray), sumW (p ++ [y]) a = sumW p a + (if y.f0.toList = a.toList then y.f1 else 0) := by
  intro p
  induction p with
  | nil => intro y a; simp [sumW]
  | cons z p ih => intro y a; rw [List.cons_append, sumW, sumW, ih]; omega
theorem sumW_range : ∀ (p : List W') (a : ByteArray), (∀ x ∈ p, 1 ≤ x.f1 ∧ x.f1 ≤ 100000) → 0 ≤ sumW p a ∧ sumW p a ≤ 100000 * (p.length : Int) := by
  intro p
  induction p with
  | nil => intro a _; simp [sumW]
  | cons z p ih =>
    intro a h
    have h1 := h z List.mem_cons_self
    have h2 := ih a (fun x hx => h x (List.mem_cons_of_mem _ hx))
    rw [sumW, List.length_cons]
    split <;> omega
theorem go_any : ∀ (xs : List W') (a : ByteArray) (i : Int), 0 ≤ i → decide (0 ≤ impl_Want_73.go xs a i) = xs.any (sm a) := by
  intro xs
  induction xs with
  | nil => intro a i _; simp [impl_Want_73.go]
  | cons x xs ih =>
    intro a i hi
    rw [impl_Want_73.go, List.any_cons]
    by_cases h : x.f0.toList = a.toList
    · rw [if_pos h, sm_pos h, decide_eq_true hi]
      rfl
    · rw [if_neg h, sm_neg h, Bool.false_or]
      exact ih a (i + 1) (by omega)

theorem leftb_loop (a : ByteArray) : ∀ (xs p : List C) (acc : Int), p.length + xs.length ≤ 40 → (∀ x ∈ xs, 1 ≤ x.f1 ∧ x.f1 ≤ 100000) → 0 ≤ acc → acc ≤ 100000 * (p.length : Int) →
    Both (fun r => 0 ≤ r ∧ r ≤ 4000000) (fun k => spec_l23Left.l0 k (p ++ xs) a acc (p.length : Int)) (fun k => impl_leftOf.l0 k a acc (p ++ xs) ((p ++ xs).length : Int) (p.length : Int)) := by
  intro xs
  induction xs with
  | nil =>
    intro p acc hm _ h0 h1
    rw [List.length_nil] at hm
    exact both_step (fun k => by rw [spec_l23Left.l0]) (fun k => by rw [impl_leftOf.l0]) (both_negL (not_lt_end p) (both_negR (not_lt_end p) (both_now _ ⟨h0, by omega⟩)))
  | cons x xs ih =>
    intro p acc hm hx h0 h1
    rw [List.length_cons] at hm
    have hxx := hx x List.mem_cons_self
    have hw : wrap64 ((p.length : Int) + 1) = ((p ++ [x]).length : Int) := wrap_next p x (by omega)
    have hz : ((p ++ [x]).length : Int) = (p.length : Int) + 1 := by simp
    have hi := fun acc h0 h1 => ih (p ++ [x]) acc (by rw [List.length_append]; simp; omega) (fun y hy => hx y (List.mem_cons_of_mem _ hy)) h0 h1
    have hwa : wrap64 (acc + x.f1) = acc + x.f1 := wrap_small (by omega) (by omega)
    refine both_step (fun k => by rw [spec_l23Left.l0]) (fun k => by rw [impl_leftOf.l0]) ?_
    refine both_posL (lt_mid p x xs) (both_posL (Int.natCast_nonneg _) (both_posR (lt_mid p x xs) (both_posR (Int.natCast_nonneg _) (both_posR (lt_mid p x xs) ?_))))
    rw [rd45_mid, hw, push_mid p x xs, hwa]
    exact both_ite (fun _ => hi _ (by omega) (by omega)) (fun _ => hi _ h0 (by omega))
theorem leftb_both (l : List C) (a : ByteArray) (h : okCoils l = true) : Both (fun r => 0 ≤ r ∧ r ≤ 4000000) (fun k => spec_l23Left.f k l a) (fun k => impl_leftOf.f k l a) := by
  simp only [okCoils, Bool.and_eq_true, decide_eq_true_eq, List.all_eq_true] at h
  unfold spec_l23Left.f impl_leftOf.f
  refine leftb_loop a l [] 0 (by simp; omega) (fun x hx => ?_) (by omega) (by simp)
  have := h.1 x hx
  simp [coilB, rangeB] at this
  exact this.2

section
variable (cs : List C) (l : List W') (hl : (l.length : Int) ≤ 30) (hr : ∀ x ∈ l, 1 ≤ x.f1 ∧ x.f1 ≤ 100000)
include hl hr
theorem spec_inner (acc : List W') (q : List W') (x : W') (ys : List W') (hq : l = q ++ x :: ys) {P : List W' × Int → Prop} {B : Nat → Option (List W' × Int)}
    (h : Both P (fun k => (spec_l23Left.f k cs x.f0).bind fun t => if q.any (sm x.f0) = true then spec_MissingRope.l0 k cs l acc (wrap64 ((q.length : Int) + 1)) else if sumW l x.f0 > t then (if acc.length < 5864062014805 then spec_MissingRope.l0 k cs l (acc ++ [⟨x.f0, wrap64 (sumW l x.f0 - t)⟩]) (wrap64 ((q.length : Int) + 1)) else none) else spec_MissingRope.l0 k cs l acc (wrap64 ((q.length : Int) + 1))) B) :
    ∀ (xs p : List W'), l = p ++ xs → Both P (fun k => spec_MissingRope.l1 k cs l acc (q.length : Int) ((p.take q.length).any (sm x.f0)) (sumW p x.f0) (p.length : Int)) B := by
  have hL : (l.length : Int) = (q.length : Int) + (ys.length + 1) := by rw [hq]; simp
  have hx : rd_T55 l (q.length : Int) = x := by rw [hq]; exact rd55_mid q x ys
  intro xs
  induction xs with
  | nil =>
    intro p hp
    have e : p = l := by rw [hp]; simp
    refine both_stepL (fun k => by rw [spec_MissingRope.l1]) ?_
    refine both_negL (by rw [e]; omega) (both_posL (Int.natCast_nonneg _) (both_posL (by omega) ?_))
    have et : p.take q.length = q := by rw [e, hq]; simp
    rw [hx, et, e]
    exact h
  | cons y xs ih =>
    intro p hp
    have hpl : (p.length : Int) + (xs.length + 1) = l.length := by rw [hp]; simp
    have hy : rd_T55 l (p.length : Int) = y := by rw [hp]; exact rd55_mid p y xs
    have hyr := hr y (by rw [hp]; simp)
    have hsr := sumW_range p x.f0 (fun z hz => hr z (by rw [hp]; simp [hz]))
    have hw : wrap64 ((p.length : Int) + 1) = ((p ++ [y]).length : Int) := wrap_next p y (by omega)
    have hi := ih (p ++ [y]) (by rw [hp]; simp)
    rw [List.take_append, List.any_append, sumW_push] at hi
    refine both_stepL (fun k => by rw [spec_MissingRope.l1]) ?_
    refine both_posL (by omega) (both_posL (Int.natCast_nonneg _) (both_posL (Int.natCast_nonneg _) (both_posL (by omega) ?_)))
    rw [hx, hy, hw]
    by_cases hs : y.f0.toList = x.f0.toList
    · rw [if_pos hs] at hi
      have hws : wrap64 (sumW p x.f0 + y.f1) = sumW p x.f0 + y.f1 := wrap_small (by omega) (by omega)
      refine both_posL hs ?_
      rw [hws]
      cases ha : (p.take q.length).any (sm x.f0) with
      | true =>
        rw [ha, Bool.true_or] at hi
        exact both_posL rfl hi
      | false =>
        rw [ha, Bool.false_or] at hi
        refine both_negL (by simp) ?_
        have ed : ([y].take (q.length - p.length)).any (sm x.f0) = decide ((p.length : Int) < (q.length : Int)) := by
          by_cases hlt : p.length < q.length
          · rw [decide_eq_true (by omega), List.take_of_length_le (by simp; omega)]
            simp [sm_pos hs]
          · rw [decide_eq_false (by omega), show q.length - p.length = 0 by omega]
            rfl
        rw [ed] at hi
        exact hi
    · rw [if_neg hs, Int.add_zero] at hi
      refine both_negL hs ?_
      have ed : ([y].take (q.length - p.length)).any (sm x.f0) = false := by
        rcases Nat.eq_zero_or_pos (q.length - p.length) with e | e
        · rw [e]; rfl
        · rw [List.take_of_length_le (by simp; omega)]
          simp [sm_neg hs]
      rw [ed, Bool.or_false] at hi
      exact hi
theorem impl_inner (acc : List W') (i left : Int) (x : W') (h0 : 0 ≤ left) (h1 : left ≤ 4000000) {P : List W' × Int → Prop} {A : Nat → Option (List W' × Int)}
    (h : Both P A (fun k => if sumW l x.f0 - left > 0 then (if acc.length < 5864062014805 then impl_MissingRope.l0 k cs l (acc ++ [⟨x.f0, sumW l x.f0 - left⟩]) l (l.length : Int) (wrap64 (i + 1)) else none) else impl_MissingRope.l0 k cs l acc l (l.length : Int) (wrap64 (i + 1)))) :
    ∀ (xs p : List W'), l = p ++ xs → Both P A (fun k => impl_MissingRope.l1 k cs l acc (sumW p x.f0 - left) l (l.length : Int) i l (l.length : Int) (p.length : Int) x.f0 x.f1) := by
  intro xs
  induction xs with
  | nil =>
    intro p hp
    have e : p = l := by rw [hp]; simp
    refine both_stepR (fun k => by rw [impl_MissingRope.l1]) ?_
    refine both_negR (by rw [e]; omega) ?_
    rw [e]
    exact h
  | cons y xs ih =>
    intro p hp
    have hpl : (p.length : Int) + (xs.length + 1) = l.length := by rw [hp]; simp
    have hy : rd_T55 l (p.length : Int) = y := by rw [hp]; exact rd55_mid p y xs
    have hyr := hr y (by rw [hp]; simp)
    have hsr := sumW_range p x.f0 (fun z hz => hr z (by rw [hp]; simp [hz]))
    have hw : wrap64 ((p.length : Int) + 1) = ((p ++ [y]).length : Int) := wrap_next p y (by omega)
    have hi := ih (p ++ [y]) (by rw [hp]; simp)
    rw [sumW_push] at hi
    refine both_stepR (fun k => by rw [impl_MissingRope.l1]) ?_
    refine both_posR (by omega) (both_posR (Int.natCast_nonneg _) (both_posR (by omega) ?_))
    rw [hy, hw]
    by_cases hs : y.f0.toList = x.f0.toList
    · rw [if_pos hs] at hi
      have hws : wrap64 (sumW p x.f0 - left + y.f1) = sumW p x.f0 + y.f1 - left := by rw [wrap_small (by omega) (by omega)]; omega
      refine both_posR hs ?_
      rw [hws]
      exact hi
    · rw [if_neg hs, Int.add_zero] at hi
      exact both_negR hs hi
theorem missing_loop (hcs : okCoils cs = true) : ∀ (xs p acc : List W'), l = p ++ xs → acc.length ≤ p.length →
    Both (fun r => r.1.length ≤ 1048576) (fun k => spec_MissingRope.l0 k cs l acc (p.length : Int)) (fun k => impl_MissingRope.l0 k cs l acc l (l.length : Int) (p.length : Int)) := by
  intro xs
  induction xs with
  | nil =>
    intro p acc hp ha
    have e : p = l := by rw [hp]; simp
    exact both_step (fun k => by rw [spec_MissingRope.l0]) (fun k => by rw [impl_MissingRope.l0]) (both_negL (by rw [e]; omega) (both_negR (by rw [e]; omega) (both_now _ (by show acc.length ≤ _; rw [e] at ha; omega))))
  | cons x xs ih =>
    intro p acc hp ha
    have hpl : (p.length : Int) + (xs.length + 1) = l.length := by rw [hp]; simp
    have hx : rd_T55 l (p.length : Int) = x := by rw [hp]; exact rd55_mid p x xs
    have hw : wrap64 ((p.length : Int) + 1) = ((p ++ [x]).length : Int) := wrap_next p x (by omega)
    have hi := fun acc (h : acc.length ≤ p.length + 1) => ih (p ++ [x]) acc (by rw [hp]; simp) (by simpa using h)
    have ht : l.take ((p.length : Int)).toNat = p := by rw [hp]; simp
    obtain ⟨t, t1, t2, t3, t4⟩ := leftb_both cs x.f0 hcs
    have hsr := sumW_range l x.f0 hr
    refine both_stepL (fun k => by rw [spec_MissingRope.l0]) (both_posL (by omega) ?_)
    have key : ((([] : List W').take p.length).any (sm x.f0)) = false := by simp
    suffices hsuf : Both (fun r => r.1.length ≤ 1048576) (fun k => spec_MissingRope.l1 k cs l acc (p.length : Int) ((([] : List W').take p.length).any (sm x.f0)) (sumW [] x.f0) ((([] : List W').length : Nat) : Int)) (fun k => impl_MissingRope.l0 k cs l acc l (l.length : Int) (p.length : Int)) by
      rw [key] at hsuf
      exact hsuf
    refine spec_inner cs l hl hr acc p x xs hp ?_ l [] rfl
    refine both_stepR (fun k => by rw [impl_MissingRope.l0]) (both_posR (by omega) (both_posR (Int.natCast_nonneg _) (both_posR (by omega) (both_posR (by omega) ?_))))
    rw [hx, ht]
    refine both_bind0R (a := p.any (sm x.f0)) (by unfold impl_Want_73.f; rw [go_any p x.f0 0 (by omega)]) (both_bindL t1 ?_)
    rw [hw]
    cases p.any (sm x.f0) with
    | true => exact both_posL rfl (both_posR rfl (hi acc (by omega)))
    | false =>
      refine both_negL (by simp) (both_negR (by simp) (both_bindR t2 ?_))
      rw [show wrap64 (-t) = sumW [] x.f0 - t by rw [wrap_small (by omega) (by omega)]; simp [sumW]]
      refine impl_inner cs l hl hr acc (p.length : Int) t x t3 t4 ?_ l [] rfl
      rw [hw]
      by_cases hg : sumW l x.f0 > t
      · have e : wrap64 (sumW l x.f0 - t) = sumW l x.f0 - t := wrap_small (by omega) (by omega)
        rw [e]
        exact both_posL hg (both_posR (by omega) (both_posL (by omega) (both_posR (by omega) (hi _ (by simp; omega)))))
      · exact both_negL hg (both_negR (by omega) (hi acc (by omega)))
end
theorem MissingRope_both (cs : List C) (l : List W') (h : GoodCoils cs) (hw : GoodWants l) : Both (fun r => r.1.length ≤ 1048576) (fun k => spec_MissingRope.f k cs l) (fun k => impl_MissingRope.f k cs l) := by
  have bad : Both (fun r => r.1.length ≤ 1048576) (fun _ => some (([] : List W'), (1 : Int))) (fun k => impl_MissingRope.j0 k cs l true) :=
    both_stepR (fun k => by rw [impl_MissingRope.j0]) (both_posR rfl (both_now _ (by simp)))
  unfold spec_MissingRope.f impl_MissingRope.f spec_l23All.f
  refine both_bindR (impl_ok cs h.1 (good_sizes h)) ?_
  by_cases h1 : okCoils cs = true
  · refine both_posR h1 (both_bindR (impl_wants l hw.1 (good_wsizes hw)) ?_)
    by_cases h2 : okWants l = true
    · refine both_bindL (a := 0) (Ev.bind (spec_ok cs h.1 (good_sizes h)) (ev_pos h1 (Ev.bind (spec_wants l hw.1 (good_wsizes hw)) (ev_pos h2 (Ev.now _))))) (both_posL rfl ?_)
      rw [h2]
      refine both_stepR (fun k => by rw [impl_MissingRope.j0]) (both_negR (by simp) ?_)
      simp only [okWants, Bool.and_eq_true, decide_eq_true_eq, List.all_eq_true] at h2
      refine missing_loop cs l h2.2 (fun x hx => ?_) h1 l [] [] rfl (by simp)
      have := h2.1 x hx
      simp [wantB, rangeB] at this
      exact this.2
    · refine both_bindL (a := 1) (Ev.bind (spec_ok cs h.1 (good_sizes h)) (ev_pos h1 (Ev.bind (spec_wants l hw.1 (good_wsizes hw)) (ev_neg h2 (Ev.now _))))) (both_negL (by decide) ?_)
      simp only [Bool.not_eq_true] at h2
      rw [h2]
      exact bad
  · exact both_negR h1 (both_bindL (a := 1) (Ev.bind (spec_ok cs h.1 (good_sizes h)) (ev_neg h1 (Ev.now _))) (both_negL (by decide) bad))
end Go.Proofs.YtbglfbmnibhgeaaB
