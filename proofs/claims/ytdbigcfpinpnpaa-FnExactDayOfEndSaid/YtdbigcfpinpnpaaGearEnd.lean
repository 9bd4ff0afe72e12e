/- The day at which a part has worn out, of both; DayOfEnd, NextToFail. -/
import Derived.Test.YtdbigcfpinpnpaaGearCode
import Derived.Test.YtdbigcfpinpnpaaPx0
import Derived.Test.YtdbigcfpinpnpaaPx10
import Derived.Test.YtdbigcfpinpnpaaPx15
import Derived.Test.YtdbigcfpinpnpaaPx16
import Derived.Test.YtdbigcfpinpnpaaPx17
namespace Go.Proofs.YtdbigcfpinpnpaaB
open Go.RowKit Go.Proofs.YtdbigcfpinpnpaaW.PrintWords Go.Proofs.YtdbigcfpinpnpaaW.PrintLast Go.Proofs.Ytdbigcfpinpnpaa.P

theorem end_both (x : G) (l : List K) (h : l.length ≤ 1048576) (hx : GearIn x) (hl : ∀ y ∈ l, CheckIn y) :
    Both (fun _ => True) (fun k => spec_l21End.f k x.f0 x.f1 x.f2 x.f3 l) (fun k => impl_dayOfEnd.f k x.f0 x.f1 x.f2 x.f3 l) := by
  have core : ∀ d w : Int, 0 ≤ d → d ≤ 20000 → Both (fun _ => True) (fun k => spec_l21End.j0 k d w x.f0 x.f1 x.f2 x.f3) (fun k => impl_dayOfEnd.j0 k w d x.f0 x.f1 x.f2 x.f3) := by
    intro d w h0 h1
    refine both_step (fun k => by rw [spec_l21End.j0]) (fun k => by rw [impl_dayOfEnd.j0]) ?_
    by_cases hw : w > x.f3
    · exact both_posL hw (both_negR (by omega) (both_negR (by omega) (both_now _ trivial)))
    · refine both_negL hw (both_posR (by omega) (both_ite (fun _ => both_now _ trivial) (fun _ => ?_)))
      have e : wrap64 (wrap64 (d + wrap64 (Int.tdiv (wrap64 (x.f3 - w)) x.f2)) + 1) = wrap64 (d + wrap64 (wrap64 (Int.tdiv (wrap64 (x.f3 - w)) x.f2) + 1)) := by
        generalize wrap64 (Int.tdiv (wrap64 (x.f3 - w)) x.f2) = q
        unfold wrap64
        omega
      rw [e]
      exact both_ite (fun _ => both_now _ trivial) (fun _ => both_now _ trivial)
  unfold spec_l21End.f impl_dayOfEnd.f
  refine both_bindL (last_ev l x.f0 20000 h) (both_bindR (own_ev l x.f0 h) ?_)
  rw [last_all l x.f0 hl]
  have hol := own_length l x.f0
  cases hz : (ownL l x.f0).getLast? with
  | none =>
    have he : ownL l x.f0 = [] := by simpa using hz
    rw [he]
    exact both_negL (by simp [lastE]) (both_negR (by simp) (core _ _ hx.1 hx.2.1))
  | some z =>
    obtain ⟨r1, r2, r3⟩ := rd_last (ownL l x.f0) z hz (by omega)
    have hzl := hl z (own_in (List.mem_of_getLast? hz))
    refine both_posL rfl (both_posR (by omega) (both_posR r1 (both_posR r2 ?_)))
    rw [r3]
    exact core _ _ hzl.1 hzl.2.1

theorem DayOfEnd_both (g : List G) (l : List K) (a : ByteArray) (hg : GoodGears g) (hl : GoodChecks l) (_ha : a.size ≤ 1048576) :
    Both (fun _ => True) (fun k => spec_DayOfEnd.f k g l a) (fun k => impl_DayOfEnd.f k g l a) := by
  obtain ⟨r, h1, h2, h3⟩ := code_both g l hg hl
  unfold spec_DayOfEnd.f impl_DayOfEnd.f spec_l21Named.f
  refine both_bindR (h2 0) ?_
  cases r with
  | false =>
    refine both_bindL (a := (0, 1)) (Ev.bind h1 (ev_neg (by simp) (Ev.now _))) ?_
    exact both_negL (by simp) (both_negR (by simp [codeOf]) (both_now _ trivial))
  | true =>
    refine both_posR (by simp [codeOf, dayB0]) ?_
    have hr := goG_range g a 0
    by_cases hn : goG g a 0 < 0
    · refine both_bindL (a := (0, 3)) (Ev.bind h1 (ev_pos rfl (Ev.bind (spec_find g a hg.1) (ev_pos hn (Ev.now _))))) ?_
      exact both_negL (by simp) (both_bind0R (impl_find g a) (both_posR hn (both_now _ trivial)))
    · refine both_bindL (a := (goG g a 0, 0)) (Ev.bind h1 (ev_pos rfl (Ev.bind (spec_find g a hg.1) (ev_neg hn (Ev.now _))))) ?_
      have hlt : (goG g a 0).toNat < g.length := by omega
      have hm : rd_T73 g (goG g a 0) ∈ g := by
        unfold rd_T73
        rw [List.getD_eq_getElem?_getD, List.getElem?_eq_getElem hlt]
        exact List.getElem_mem hlt
      refine both_posL rfl (both_posL (by show 0 ≤ goG g a 0; omega) (both_posL (by show goG g a 0 < _; omega) (both_bind0R (impl_find g a) (both_negR hn (both_posR (by omega) (both_posR (by omega) ?_))))))
      exact both_bind (end_both _ l hl.1 ((h3 rfl).1.2 _ hm) (h3 rfl).2.2.1) (fun _ _ => both_ite (fun _ => both_now _ trivial) (fun _ => both_now _ trivial))

/-- What the two loops hold: the reference an index, the program a name. -/
theorem fail_loop (g : List G) (l : List K) (hl : l.length ≤ 1048576) (hin : ∀ y ∈ l, CheckIn y) (hg : ∀ y ∈ g, GearIn y) : ∀ (xs p : List G), g = p ++ xs → p.length + xs.length ≤ 1048576 →
    ∀ (i e : Int) (n : ByteArray) (m : Int), ((i = -1 ∧ m = -1) ∨ (0 ≤ i ∧ i < (p.length : Int) ∧ (rd_T73 g i).f0 = n ∧ e = m ∧ 0 ≤ m)) →
    Both (fun _ => True) (fun k => spec_NextToFail.l0 k g l i e (p.length : Int)) (fun k => impl_NextToFail.l0 k l n m g (g.length : Int) (p.length : Int)) := by
  intro xs
  induction xs with
  | nil =>
    intro p hp hm i e n m hi
    have hgl : (g.length : Int) = p.length := by rw [hp]; simp
    refine both_step (fun k => by rw [spec_NextToFail.l0]) (fun k => by rw [impl_NextToFail.l0]) ?_
    refine both_negL (by omega) (both_negR (by omega) ?_)
    rcases hi with ⟨h1, h2⟩ | ⟨h1, h2, h3, h4, h5⟩
    · exact both_posL (by omega) (both_posR (by omega) (both_now _ trivial))
    · refine both_negL (by omega) (both_negR (by omega) (both_posL (by omega) (both_posL (by omega) ?_)))
      rw [h3, h4]
      exact both_now _ trivial
  | cons x xs ih =>
    intro p hp hm i e n m hi
    rw [List.length_cons] at hm
    have hw : wrap64 ((p.length : Int) + 1) = ((p ++ [x]).length : Int) := wrap_next p x (by omega)
    have hgl : (g.length : Int) = p.length + (xs.length + 1) := by rw [hp]; simp
    have hx : rd_T73 g (p.length : Int) = x := by rw [hp]; exact rd73_mid p x xs
    have hz : ((p ++ [x]).length : Int) = (p.length : Int) + 1 := by simp
    have ih2 := ih (p ++ [x]) (by rw [hp]; simp) (by rw [List.length_append]; simp; omega)
    refine both_step (fun k => by rw [spec_NextToFail.l0]) (fun k => by rw [impl_NextToFail.l0]) ?_
    refine both_posL (by omega) (both_posL (by omega) (both_posR (by omega) (both_posR (by omega) (both_posR (by omega) ?_))))
    rw [hx, hw]
    refine both_bind (end_both x l hl (hg x (by rw [hp]; simp)) hin) (fun r _ => ?_)
    have old := ih2 i e n m (by
      rcases hi with h1 | ⟨h1, h2, h3, h4, h5⟩
      · exact .inl h1
      · exact .inr ⟨h1, by omega, h3, h4, h5⟩)
    refine both_ite (fun hr => ?_) (fun _ => old)
    have new := ih2 (p.length : Int) r x.f0 r (.inr ⟨by omega, by omega, by rw [hx], rfl, hr⟩)
    rcases hi with ⟨h1, h2⟩ | ⟨h1, h2, h3, h4, h5⟩
    · exact both_posL (by omega) (both_posR (by omega) new)
    · refine both_negL (by omega) (both_negR (by omega) ?_)
      rw [h4]
      rw [h4] at old
      exact both_ite (fun _ => new) (fun _ => old)
theorem NextToFail_both (g : List G) (l : List K) (hg : GoodGears g) (hl : GoodChecks l) :
    Both (fun _ => True) (fun k => spec_NextToFail.f k g l) (fun k => impl_NextToFail.f k g l) := by
  obtain ⟨r, h1, h2, h3⟩ := code_both g l hg hl
  unfold spec_NextToFail.f impl_NextToFail.f
  refine both_bindL h1 (both_bindR (h2 0) ?_)
  cases r with
  | false => exact both_negL (by simp) (both_negR (by simp [codeOf]) (both_now _ trivial))
  | true => exact both_posL rfl (both_posR (by simp [codeOf, dayB0]) (fail_loop g l hl.1 (h3 rfl).2.2.1 (h3 rfl).1.2 g [] rfl (by have := hg.1; simp; omega) (-1) 0 _ (-1) (.inl ⟨rfl, rfl⟩)))
end Go.Proofs.YtdbigcfpinpnpaaB
