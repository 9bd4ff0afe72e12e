/- AddCheck, of both. -/
import Derived.Test.YtdbigcfpinpnpaaGearCode
import Derived.Test.YtdbigcfpinpnpaaPx0
import Derived.Test.YtdbigcfpinpnpaaPx18
import Derived.Test.YtdbigcfpinpnpaaPx4
import Derived.Test.YtdbigcfpinpnpaaPx6
namespace Go.Proofs.YtdbigcfpinpnpaaB
open Go.RowKit Go.Proofs.YtdbigcfpinpnpaaW.PrintWords Go.Proofs.YtdbigcfpinpnpaaW.PrintLast Go.Proofs.Ytdbigcfpinpnpaa.P

theorem ev_same {α : Type} {A : Nat → Option α} {r q : α} (h : Ev A r) (h2 : Ev A q) : r = q := by
  obtain ⟨a, ha⟩ := h
  obtain ⟨b, hb⟩ := h2
  have h3 := ha (a + b) (by omega)
  rw [hb (a + b) (by omega)] at h3
  exact (Option.some.inj h3).symm
theorem put_both (g : List G) (l : List K) (c : K) (hg : GoodGears g) (hgi : GearsIn g) (hg1 : Ev (fun k => spec_l21Ok.f k g) true) (hl : (l.length : Int) < 60) : ∀ (r xs : List K), l = r.reverse ++ xs →
    Both (fun q => q.1.length ≤ 1048576) (fun k => spec_AddCheck.l0 k g l (r.length : Int) c.f0 c.f1 c.f2) (fun k => impl_AddCheck.l0 k g l (r.length : Int) c.f0 c.f1 c.f2) := by
  have fin : ∀ n : List K, n.length ≤ 1048576 → Both (fun q => q.1.length ≤ 1048576) (fun k => (spec_l21Checks.f k g n).bind fun t => if t = true then some (n, (0 : Int)) else some ([], 9))
      (fun k => (impl_areChecks.f k g n).bind fun t => if t = true then some (n, (0 : Int)) else some ([], 9)) := by
    intro n hn
    obtain ⟨q, h4, h5, _⟩ := are_both g n hg.1 hgi.2 hn
    refine both_bindL (show Ev (fun k => spec_l21Checks.f k g n) q from by unfold spec_l21Checks.f; exact Ev.bind hg1 (ev_pos rfl h4)) (both_bindR h5 ?_)
    exact both_ite (fun _ => both_now _ hn) (fun _ => both_now _ (by simp))
  intro r
  induction r with
  | nil =>
    intro xs h
    have hx : l = xs := by simpa using h
    refine both_step (fun k => by rw [spec_AddCheck.l0]) (fun k => by rw [impl_AddCheck.l0]) ?_
    refine both_negL (by simp) (both_negR (by simp) ?_)
    simp only [Option.bind_some, List.nil_append]
    refine both_posL (by simp) (both_posR (by simp) (both_posL (by simp) (both_posR (by simp) ?_)))
    refine both_posL (by simp) (both_posR (by simp) (both_posL (by simp) (both_posR (by simp) ?_)))
    refine both_posL (by simp; omega) (both_posR (by simp; omega) ?_)
    exact fin _ (by simp; omega)
  | cons y r ih =>
    intro xs h
    have hrl : (r.length : Int) + 1 + xs.length = l.length := by rw [h]; simp; omega
    have e2 : (((y :: r).length : Nat) : Int) = (r.length : Int) + 1 := by simp
    have hw : wrap64 ((((y :: r).length : Nat) : Int) - 1) = (r.length : Int) := by
      rw [wrap_small (by omega) (by omega)]
      omega
    have hr : rd_T53 l (r.length : Int) = y := by
      have e : (r.length : Int) = (r.reverse.length : Int) := by simp
      rw [e, h, List.reverse_cons, List.append_assoc]
      exact rd53_mid r.reverse y xs
    have ht : (List.take (((y :: r).length : Nat) : Int).toNat l).length ≤ l.length := by rw [List.length_take]; omega
    have hd : (List.drop (((y :: r).length : Nat) : Int).toNat l).length ≤ l.length := by rw [List.length_drop]; omega
    refine both_step (fun k => by rw [spec_AddCheck.l0]) (fun k => by rw [impl_AddCheck.l0]) ?_
    refine both_posL (by omega) (both_posR (by omega) ?_)
    rw [hw]
    refine both_posL (by omega) (both_posL (by omega) (both_posR (by omega) (both_posR (by omega) ?_)))
    rw [hr]
    refine both_ite (fun _ => ih (y :: xs) (by rw [h]; simp)) (fun _ => ?_)
    simp only [Option.bind_some, List.nil_append]
    refine both_posL (by omega) (both_posR (by omega) (both_posL (by omega) (both_posR (by omega) ?_)))
    refine both_posL (by rw [List.length_nil]; omega) (both_posR (by rw [List.length_nil]; omega) (both_posL (by omega) (both_posR (by rw [List.length_singleton]; omega) ?_)))
    refine both_posL (by rw [List.length_append, List.length_singleton]; omega) (both_posR (by rw [List.length_append, List.length_singleton]; omega) ?_)
    exact fin _ (by rw [List.length_append, List.length_append, List.length_singleton]; omega)
theorem AddCheck_both (g : List G) (l : List K) (c : K) (hg : GoodGears g) (hl : GoodChecks l) (_hc : GoodCheck c) :
    Both (fun r => r.1.length ≤ 1048576) (fun k => spec_AddCheck.f k g l c.f0 c.f1 c.f2) (fun k => impl_AddCheck.f k g l c.f0 c.f1 c.f2) := by
  obtain ⟨r, h1, h2, h3⟩ := code_both g l hg hl
  unfold spec_AddCheck.f impl_AddCheck.f
  refine both_bindL h1 (both_bindR (h2 0) ?_)
  cases r with
  | false => exact both_negL (by simp) (both_negR (by simp [codeOf]) (both_now _ (by simp)))
  | true =>
    have h60 := (h3 rfl).2.1
    obtain ⟨q, g1, _, _⟩ := gears_both g hg
    have hq : q = true := by
      cases q with
      | true => rfl
      | false =>
        have hf : Ev (fun k => spec_l21Checks.f k g l) false := by
          unfold spec_l21Checks.f
          refine Ev.bind g1 (ev_neg (by simp) ?_)
          refine Ev.step (fun k => by rw [spec_l21Checks.j0]) ?_
          exact ev_pos rfl (Ev.now _)
        exact absurd (ev_same h1 hf) (by simp)
    subst hq
    refine both_posL rfl (both_posR (by simp [codeOf, dayB0]) ?_)
    refine both_bindL (spec_check g c hg.1) (both_bind0R (impl_check g c) (both_ite (fun _ => ?_) (fun _ => both_now _ (by simp))))
    by_cases h6 : (l.length : Int) = 60
    · exact both_posL (by omega) (both_posR h6 (both_now _ (by simp)))
    · have hp := put_both g l c hg (h3 rfl).1 g1 (by omega) l.reverse [] (by simp)
      rw [List.length_reverse] at hp
      exact both_negL (by omega) (both_negR h6 hp)
end Go.Proofs.YtdbigcfpinpnpaaB
