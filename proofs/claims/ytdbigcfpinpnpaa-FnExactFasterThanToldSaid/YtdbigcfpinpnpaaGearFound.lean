/- The rate found between the first inspection and the last one, of both; RateFound, FasterThanTold. -/
import Derived.Test.YtdbigcfpinpnpaaGearCode
import Derived.Test.YtdbigcfpinpnpaaPx0
import Derived.Test.YtdbigcfpinpnpaaPx10
import Derived.Test.YtdbigcfpinpnpaaPx23
import Derived.Test.YtdbigcfpinpnpaaPx24
import Derived.Test.YtdbigcfpinpnpaaPx25
namespace Go.Proofs.YtdbigcfpinpnpaaB
open Go.RowKit Go.Proofs.YtdbigcfpinpnpaaW.PrintWords Go.Proofs.YtdbigcfpinpnpaaW.PrintLast Go.Proofs.Ytdbigcfpinpnpaa.P

theorem eqFraction_refl (a b : Int) : laws_eqFraction.f a b a b = some true := by
  unfold laws_eqFraction.f
  rw [if_pos rfl, if_pos rfl]
theorem gcd_both : ∀ (m : Nat) (a b : Int), b.toNat ≤ m → 0 ≤ a → 0 ≤ b → ∃ g, Ev (fun k => spec_l00Gcd.l0 k a b) g ∧ Ev (fun k => impl_gcd.l0 k a b) g ∧ (0 < a ∨ 0 < b → 0 < g) := by
  intro m
  induction m with
  | zero =>
    intro a b hm ha hb
    have h0 : b = 0 := by omega
    exact ⟨a, Ev.step (fun k => by rw [spec_l00Gcd.l0]) (ev_pos h0 (Ev.now _)), Ev.step (fun k => by rw [impl_gcd.l0]) (ev_pos h0 (Ev.now _)), fun h => by omega⟩
  | succ m ih =>
    intro a b hm ha hb
    by_cases h0 : b = 0
    · exact ⟨a, Ev.step (fun k => by rw [spec_l00Gcd.l0]) (ev_pos h0 (Ev.now _)), Ev.step (fun k => by rw [impl_gcd.l0]) (ev_pos h0 (Ev.now _)), fun h => by omega⟩
    · have e : Int.tmod a b = a % b := Int.tmod_eq_emod_of_nonneg ha
      have h1 : 0 ≤ a % b := Int.emod_nonneg a h0
      have h2 : a % b < b := Int.emod_lt_of_pos a (by omega)
      obtain ⟨g, g1, g2, g3⟩ := ih b (Int.tmod a b) (by omega) hb (by omega)
      exact ⟨g, Ev.step (fun k => by rw [spec_l00Gcd.l0]) (ev_neg h0 g1), Ev.step (fun k => by rw [impl_gcd.l0]) (ev_neg h0 g2), fun _ => g3 (.inl (by omega))⟩
theorem fraction_both (w d : Int) (hw : 0 ≤ w) (hd : 0 < d) : Both (fun _ => True) (fun k => spec_l01Make.f k w d) (fun k => impl_fraction.f k w d) := by
  obtain ⟨g, g1, g2, g3⟩ := gcd_both d.toNat w d (Nat.le_refl _) hw (by omega)
  have hg : ¬ g = 0 := by have := g3 (.inr hd); omega
  unfold spec_l01Make.f impl_fraction.f
  have hs : spec_l00Size.f w = some w := by unfold spec_l00Size.f; rw [if_neg (by omega)]
  refine both_bind0L hs (both_negR (by omega) ?_)
  refine both_bindL (show Ev (fun k => spec_l00Gcd.f k w d) g from by unfold spec_l00Gcd.f; exact g1) ?_
  refine both_bindR (show Ev (fun k => impl_gcd.f k w d) g from by unfold impl_gcd.f; exact ev_neg (by omega) (Ev.step (fun k => by rw [impl_gcd.j0]) g2)) ?_
  exact both_negL hg (both_negR hg (both_now _ trivial))

theorem found_loop (l : List K) (a : ByteArray) (hl : l.length ≤ 1048576) (z : K) : ∀ (r xs : List K) (c : K), l = r.reverse ++ xs →
    Ev (fun k => spec_l21Found.l0 k l a ((r.length : Int) - 1) z.f0 z.f1 z.f2 c.f0 c.f1 c.f2) (wrap64 (z.f2 - ((ownL r.reverse a).head?.getD c).f2), wrap64 (z.f1 - ((ownL r.reverse a).head?.getD c).f1)) := by
  intro r
  induction r with
  | nil =>
    intro xs c _
    refine Ev.step (fun k => by rw [spec_l21Found.l0]) ?_
    exact ev_neg (by simp) (Ev.now _)
  | cons y r ih =>
    intro xs c h
    have hrl : (r.length : Int) + 1 + xs.length = l.length := by rw [h]; simp; omega
    have e2 : (((y :: r).length : Nat) : Int) = (r.length : Int) + 1 := by simp
    have hr : rd_T53 l ((((y :: r).length : Nat) : Int) - 1) = y := by
      have e : ((((y :: r).length : Nat) : Int) - 1) = (r.reverse.length : Int) := by simp
      rw [e, h, List.reverse_cons, List.append_assoc]
      exact rd53_mid r.reverse y xs
    have hw : wrap64 ((((y :: r).length : Nat) : Int) - 1 - 1) = (r.length : Int) - 1 := by
      rw [wrap_small (by omega) (by omega)]
      omega
    have hi := fun c => ih (y :: xs) c (by rw [h]; simp)
    have ho : ownL (y :: r).reverse a = ownL r.reverse a ++ ownL [y] a := by
      unfold ownL
      rw [List.reverse_cons, List.filter_append]
    refine Ev.step (fun k => by rw [spec_l21Found.l0]) ?_
    refine ev_pos (by omega) (ev_pos (by omega) (ev_pos (by omega) ?_))
    rw [hr, hw]
    refine ev_ite (fun h1 => ?_) (fun h1 => ?_)
    · refine ev_of (hi y) ?_
      have hy : ownL [y] a = [y] := by simp [ownL, h1]
      rw [ho, hy]
      cases ownL r.reverse a with
      | nil => rfl
      | cons b bs => rfl
    · refine ev_of (hi c) ?_
      have hy : ownL [y] a = [] := by simp [ownL, h1]
      rw [ho, hy, List.append_nil]
theorem found_both (l : List K) (a : ByteArray) (hl : ChecksIn l) : ∃ w d, Ev (fun k => spec_l21Found.f k l a) (w, d) ∧ (((ownL l a).length : Int) < 2 → w = 0 ∧ d = 0) ∧
    (¬ ((ownL l a).length : Int) < 2 → impl_foundOf.f (ownL l a) = some (w, d) ∧ 0 < d ∧ 0 ≤ w) := by
  have h60 := hl.1
  have hlen : l.length ≤ 1048576 := by omega
  have hol := own_length l a
  have hlast := last_ev l a 20000 hlen
  rw [last_all l a hl.2.1] at hlast
  cases hz : (ownL l a).getLast? with
  | none =>
    have he : ownL l a = [] := by simpa using hz
    refine ⟨0, 0, ?_, fun _ => ⟨rfl, rfl⟩, fun h => by rw [he] at h; simp at h⟩
    unfold spec_l21Found.f
    refine Ev.bind hlast ?_
    rw [hz]
    exact ev_neg (by simp [lastE]) (Ev.now _)
  | some z =>
    have hloop := found_loop l a hlen z l.reverse [] z (by simp)
    rw [List.reverse_reverse, List.length_reverse] at hloop
    have hspec : Ev (fun k => spec_l21Found.f k l a) (wrap64 (z.f2 - ((ownL l a).head?.getD z).f2), wrap64 (z.f1 - ((ownL l a).head?.getD z).f1)) := by
      unfold spec_l21Found.f
      refine Ev.bind hlast ?_
      rw [hz]
      refine ev_pos rfl ?_
      rw [wrap_small (by omega) (by omega)]
      exact hloop
    have hzm : z ∈ ownL l a := List.mem_of_getLast? hz
    have hzi := hl.2.1 z (own_in hzm)
    obtain ⟨r1, r2, r3⟩ := rd_last (ownL l a) z hz (by omega)
    have hpw : (ownL l a).Pairwise Later := hl.2.2.filter _
    have hnm : ∀ y ∈ ownL l a, y.f0.toList = a.toList := fun y hy => by
      have := (List.mem_filter.1 hy).2
      exact eq_of_beq this
    refine ⟨_, _, hspec, ?_, ?_⟩
    · intro h2
      cases ho : ownL l a with
      | nil => rw [ho] at hz; simp at hz
      | cons y ys =>
        cases ys with
        | cons y2 ys => rw [ho] at h2; simp at h2; omega
        | nil =>
          rw [ho] at hz
          have : y = z := by simpa using hz
          subst this
          show wrap64 (y.f2 - y.f2) = 0 ∧ wrap64 (y.f1 - y.f1) = 0
          rw [Int.sub_self, Int.sub_self]
          rw [wrap_small (by omega) (by omega)]
          exact ⟨rfl, rfl⟩
    · intro h2
      cases ho : ownL l a with
      | nil => rw [ho] at hz; simp at hz
      | cons y ys =>
        have hyi := hl.2.1 y (own_in (by rw [ho]; simp))
        have hzy : z ∈ ys := by
          cases ys with
          | nil => rw [ho] at h2; simp at h2
          | cons y2 ys =>
            rw [ho, List.getLast?_cons_cons] at hz
            exact List.mem_of_getLast? hz
        rw [ho] at hpw r1 r2 r3
        have hlt := (List.pairwise_cons.1 hpw).1 z hzy (by rw [hnm y (by rw [ho]; simp), hnm z hzm])
        have r0 : rd_T53 (y :: ys) 0 = y := rfl
        show impl_foundOf.f (y :: ys) = some (wrap64 (z.f2 - y.f2), wrap64 (z.f1 - y.f1)) ∧ 0 < wrap64 (z.f1 - y.f1) ∧ 0 ≤ wrap64 (z.f2 - y.f2)
        obtain ⟨a1, a2, a3, a4⟩ := hyi
        obtain ⟨b1, b2, b3, b4⟩ := hzi
        obtain ⟨c1, c2⟩ := hlt
        refine ⟨?_, ?_, ?_⟩
        · unfold impl_foundOf.f
          rw [if_pos (by simp), if_pos r1, if_pos r2, r3, r0]
        · rw [wrap_small (by omega) (by omega)]
          omega
        · rw [wrap_small (by omega) (by omega)]
          omega

theorem RateFound_both (g : List G) (l : List K) (a : ByteArray) (hg : GoodGears g) (hl : GoodChecks l) (_ha : a.size ≤ 1048576) :
    Both (fun _ => True) (fun k => spec_RateFound.f k g l a) (fun k => impl_RateFound.f k g l a) := by
  obtain ⟨r, h1, h2, h3⟩ := code_both g l hg hl
  unfold spec_RateFound.f impl_RateFound.f spec_l21Named.f
  refine both_bindR (h2 0) ?_
  cases r with
  | false =>
    refine both_bindL (a := (0, 1)) (Ev.bind h1 (ev_neg (by simp) (Ev.now _))) ?_
    exact both_negL (by simp) (both_negR (by simp [codeOf]) (both_now _ trivial))
  | true =>
    refine both_posR (by simp [codeOf, dayB0]) ?_
    by_cases hn : goG g a 0 < 0
    · refine both_bindL (a := (0, 3)) (Ev.bind h1 (ev_pos rfl (Ev.bind (spec_find g a hg.1) (ev_pos hn (Ev.now _))))) ?_
      exact both_negL (by simp) (both_bind0R (impl_find g a) (both_posR hn (both_now _ trivial)))
    · refine both_bindL (a := (goG g a 0, 0)) (Ev.bind h1 (ev_pos rfl (Ev.bind (spec_find g a hg.1) (ev_neg hn (Ev.now _))))) ?_
      obtain ⟨w, d, e1, e2, e3⟩ := found_both l a (h3 rfl).2
      refine both_posL rfl (both_bind0R (impl_find g a) (both_negR hn (both_bindL e1 (both_bindR (own_ev l a hl.1) ?_))))
      by_cases h2 : ((ownL l a).length : Int) < 2
      · exact both_posL (e2 h2).2 (both_posR h2 (both_now _ trivial))
      · obtain ⟨e4, e5, e6⟩ := e3 h2
        refine both_negL (by show ¬ d = 0; omega) (both_negR h2 (both_bind0R e4 ?_))
        exact both_bind (fraction_both w d e6 e5) (fun _ _ => both_now _ trivial)

theorem faster_loop (l : List K) (hl : l.length ≤ 1048576) (hc : ChecksIn l) : ∀ (xs p : List G) (acc : List ByteArray), p.length + xs.length ≤ 1048576 → acc.length ≤ p.length →
    Both (fun r => r.1.length ≤ 1048576) (fun k => spec_FasterThanTold.l0 k (p ++ xs) l acc (p.length : Int)) (fun k => impl_FasterThanTold.l0 k l acc (p ++ xs) ((p ++ xs).length : Int) (p.length : Int)) := by
  intro xs
  induction xs with
  | nil =>
    intro p acc hm ha
    exact both_step (fun k => by rw [spec_FasterThanTold.l0]) (fun k => by rw [impl_FasterThanTold.l0]) (both_negL (not_lt_end p) (both_negR (not_lt_end p) (both_now _ (by show acc.length ≤ _; omega))))
  | cons x xs ih =>
    intro p acc hm ha
    rw [List.length_cons] at hm
    have hw : wrap64 ((p.length : Int) + 1) = ((p ++ [x]).length : Int) := wrap_next p x (by omega)
    have hi := fun acc (h : acc.length ≤ p.length + 1) => ih (p ++ [x]) acc (by rw [List.length_append]; simp; omega) (by simpa using h)
    obtain ⟨w, d, e1, e2, e3⟩ := found_both l x.f0 hc
    refine both_step (fun k => by rw [spec_FasterThanTold.l0]) (fun k => by rw [impl_FasterThanTold.l0]) ?_
    refine both_posL (lt_mid p x xs) (both_posL (Int.natCast_nonneg _) (both_posR (lt_mid p x xs) (both_posR (Int.natCast_nonneg _) (both_posR (lt_mid p x xs) ?_))))
    rw [rd73_mid, hw, push_mid p x xs]
    refine both_bindL e1 (both_bindR (own_ev l x.f0 hl) ?_)
    by_cases h2 : ((ownL l x.f0).length : Int) < 2
    · obtain ⟨rfl, rfl⟩ := e2 h2
      exact both_negL (by show ¬ (0 : Int) > wrap64 (x.f2 * 0); rw [Int.mul_zero, wrap_small (by omega) (by omega)]; omega) (both_posR h2 (hi _ (by omega)))
    · obtain ⟨e4, _, _⟩ := e3 h2
      refine both_negR h2 (both_bind0R e4 (both_ite (fun _ => ?_) (fun _ => hi _ (by omega))))
      exact both_posL (by omega) (both_posR (by omega) (hi _ (by simp; omega)))
theorem FasterThanTold_both (g : List G) (l : List K) (hg : GoodGears g) (hl : GoodChecks l) :
    Both (fun r => r.1.length ≤ 1048576) (fun k => spec_FasterThanTold.f k g l) (fun k => impl_FasterThanTold.f k g l) := by
  obtain ⟨r, h1, h2, h3⟩ := code_both g l hg hl
  unfold spec_FasterThanTold.f impl_FasterThanTold.f
  refine both_bindL h1 (both_bindR (h2 0) ?_)
  cases r with
  | false => exact both_negL (by simp) (both_negR (by simp [codeOf]) (both_now _ (by simp)))
  | true => exact both_posL rfl (both_posR (by simp [codeOf, dayB0]) (faster_loop l hl.1 (h3 rfl).2 g [] [] (by have := hg.1; simp; omega) (by simp)))
end Go.Proofs.YtdbigcfpinpnpaaB
