/- Texts of this claim, packed: PureFnRenewals, WSized, LawFnRenewals. -/
import Derived.SizedLaws
import Derived.ChangeSlices
import Derived.Test.YtkegmjebkikniaaRows
import Derived.WalkKit
import Derived.ProofKit
import Derived.OpenShut
import Derived.ShutString
import Derived.ChangeOld
import Derived.Below
import Derived.Test.YtkegmjebkikniaaZFnRenewals13
section
/- FnRenewals: its plain statement: no plan does less harm than the told one, harms are those of the ends, and by the dues the greatest lateness is least. -/
namespace Go.Proofs.Ytkegmjebkikniaa.Pure
open Go.RowKit Go.Proofs.Ytkegmjebkikniaa.P Go.Proofs.YtkegmjebkikniaaW.PrintWords Go.Proofs.YtkegmjebkikniaaW.PrintLast Go.Proofs.YtkegmjebkikniaaB Go.Proofs.YtkegmjebkikniaaW.Hand

theorem ws {i : Int} (h0 : -9223372036854775808 ≤ i) (h1 : i ≤ 9223372036854775807) : wrap64 i = i := Go.Proofs.YtkegmjebkikniaaB.wrap_small h0 h1
theorem ndF_of : ∀ (xs p : List Int), (p ++ xs).Nodup → ndF p xs = true := by
  intro xs
  induction xs with
  | nil => intro _ _; rfl
  | cons x xs ih =>
    intro p h
    have hx : x ∉ p := fun hp => (List.nodup_append.1 h).2.2 x hp x (List.mem_cons_self ..) rfl
    rw [ndF, ih (p ++ [x]) (by rwa [List.append_assoc, List.singleton_append]), Bool.and_true]
    simpa using hx
theorem orders_nodup (n : Nat) : ∀ (m : Nat) (o : List Int), o.Nodup → ∀ q ∈ ordersFrom n m o, q.Nodup := by
  intro m
  induction m with
  | zero => intro o h q hq; rw [ordersFrom, List.mem_singleton] at hq; rw [hq]; exact h
  | succ m ih =>
    intro o h q hq
    rw [ordersFrom, List.mem_flatMap] at hq
    obtain ⟨i, _, hq⟩ := hq
    by_cases hi : (i : Int) ∈ o
    · rw [if_pos hi] at hq
      simp at hq
    · rw [if_neg hi] at hq
      refine ih (o ++ [(i : Int)]) ?_ q hq
      rw [List.nodup_append]
      exact ⟨h, by simp, fun a ha b hb e => hi (by rw [List.mem_singleton.1 hb] at e; rwa [← e])⟩
theorem orders_mem (n : Nat) : ∀ (m : Nat) (o r : List Int), r.length = m → (o ++ r).Nodup → InN n r → o ++ r ∈ ordersFrom n m o := by
  intro m
  induction m with
  | zero => intro o r hr _ _; rw [List.length_eq_zero_iff.1 hr, List.append_nil, ordersFrom]; exact List.mem_singleton.2 rfl
  | succ m ih =>
    intro o r hr hnd hin
    cases r with
    | nil => simp at hr
    | cons x r =>
      obtain ⟨x0, x1⟩ := hin x (List.mem_cons_self ..)
      have hx : x ∉ o := fun hp => (List.nodup_append.1 hnd).2.2 x hp x (List.mem_cons_self ..) rfl
      rw [ordersFrom, List.mem_flatMap]
      refine ⟨x.toNat, List.mem_range.2 (by omega), ?_⟩
      rw [Int.toNat_of_nonneg x0, if_neg hx]
      have := ih (o ++ [x]) r (by simpa using hr) (by rwa [List.append_assoc, List.singleton_append]) (fun y hy => hin y (List.mem_cons_of_mem _ hy))
      rwa [List.append_assoc, List.singleton_append] at this
theorem orders_plan {n : Nat} {q : List Int} (h : q ∈ ordersFrom n n []) : PlanP n q := by
  obtain ⟨h1, h2⟩ := orders_good n n [] (by simp) q h
  exact plan_of n q (orders_nodup n n [] List.nodup_nil q h) h2 (by simpa using h1)
theorem plan_orders {n : Nat} {q : List Int} (h : PlanP n q) : q ∈ ordersFrom n n [] := orders_mem n n [] q (plan_len h) (plan_nodup h) (plan_in h)
section
variable (l : List R) (hn : l.length ≤ 5) (hf : ∀ x ∈ l, fineR x)
abbrev costP (l : List R) (o : List Int) (x : Int) : Int := hmR l x * mx 0 (lateP l o x)
abbrev harmP (l : List R) (o : List Int) : Int := sumP ((iotaL l.length).map (costP l o))
include hn hf
theorem late_bound (o : List Int) (ho : PlanP l.length o) (x : Int) (h0 : 0 ≤ x) (h1 : x < (l.length : Int)) : -29 ≤ lateP l o x ∧ lateP l o x ≤ 45 ∧ 0 ≤ timeP l o x ∧ timeP l o x ≤ 45 := by
  have := time_bound l hf o (plan_in ho) x
  have hfx := fine_at l hf x h0 h1
  have hl := plan_len ho
  have e : lateP l o x = timeP l o x - duR l x := rfl
  rw [e]
  omega
theorem cost_bound (o : List Int) (ho : PlanP l.length o) (x : Int) (h0 : 0 ≤ x) (h1 : x < (l.length : Int)) : 0 ≤ costP l o x ∧ costP l o x ≤ 315 := by
  have hb := late_bound l hn hf o ho x h0 h1
  have hfx := fine_at l hf x h0 h1
  have hm : 0 ≤ mx 0 (lateP l o x) ∧ mx 0 (lateP l o x) ≤ 45 := by unfold mx; split <;> omega
  constructor
  · exact Int.mul_nonneg hfx.2.2.2.2.1 hm.1
  · have := Int.mul_le_mul hfx.2.2.2.2.2 hm.2 hm.1 (by decide : (0 : Int) ≤ 7)
    show hmR l x * mx 0 (lateP l o x) ≤ 315
    omega
omit hn hf in
theorem ends_len (o : List Int) : (endsP l o).length = l.length := by rw [endL_length, List.length_replicate]
theorem harm_loopP (o : List Int) (ho : PlanP l.length o) : ∀ (m i : Nat), i + m = l.length →
    Ev (fun k => impl_harmOf.l0 k l (sumP ((iotaL i).map (costP l o))) (endsP l o) (l.length : Int) (i : Int)) (harmP l o) := by
  intro m
  have hel := ends_len l o
  induction m with
  | zero =>
    intro i hi
    have : i = l.length := by omega
    subst this
    refine Ev.step (fun k => by rw [impl_harmOf.l0]) ?_
    exact ev_neg (by omega) (Ev.now _)
  | succ m ih =>
    intro i hi
    have hc := cost_bound l hn hf o ho (i : Int) (by omega) (by omega)
    have hlb := late_bound l hn hf o ho (i : Int) (by omega) (by omega)
    have hr := ends_rdP l o ho (i : Int) (by omega) (by omega)
    have hs0 : 0 ≤ sumP ((iotaL i).map (costP l o)) := sumP_non (fun x hx => by
      obtain ⟨y, hy, rfl⟩ := List.mem_map.1 hx
      have := (iota_mem _ _).1 hy
      exact (cost_bound l hn hf o ho y this.1 (by omega)).1)
    have hs1 : sumP ((iotaL i).map (costP l o)) ≤ 315 * ((i : Nat) : Int) := sumP_le (fun x hx => by
      obtain ⟨y, hy, rfl⟩ := List.mem_map.1 hx
      have := (iota_mem _ _).1 hy
      exact (cost_bound l hn hf o ho y this.1 (by omega)).2) (by decide) i (by rw [List.length_map, iotaL_length]; exact Nat.le_refl _)
    have hx := ih (i + 1) (by omega)
    rw [iotaL_succ, List.map_append, List.map_cons, List.map_nil, sumP_snoc] at hx
    refine Ev.step (fun k => by rw [impl_harmOf.l0]) ?_
    refine ev_pos (by omega) (ev_pos (by omega) (ev_pos (by omega) (ev_pos (by omega) ?_)))
    have e1 : wrap64 (timeP l o (i : Int) - (rd_T55 l (i : Int)).f2) = lateP l o (i : Int) := ws (show -9223372036854775808 ≤ lateP l o (i : Int) by omega) (show lateP l o (i : Int) ≤ 9223372036854775807 by omega)
    have e2 : wrap64 ((rd_T55 l (i : Int)).f3 * mx 0 (lateP l o (i : Int))) = costP l o (i : Int) := ws (show -9223372036854775808 ≤ costP l o (i : Int) by omega) (show costP l o (i : Int) ≤ 9223372036854775807 by omega)
    rw [hr, e1, e2, ws (i := sumP ((iotaL i).map (costP l o)) + costP l o (i : Int)) (by omega) (by omega), ws (i := (i : Int) + 1) (by omega) (by omega)]
    exact hx
theorem harm_evP (o : List Int) (ho : PlanP l.length o) : Ev (fun k => impl_harmOf.f k l o) (harmP l o) := by
  unfold impl_harmOf.f
  refine Ev.bind (ends_evP l hn hf o (plan_in ho) (by rw [plan_len ho]; exact hn)) ?_
  rw [ends_len l o]
  exact harm_loopP l hn hf o ho l.length 0 (by omega)
theorem latest_loopP (o : List Int) (ho : PlanP l.length o) : ∀ (m i : Nat), i + m = l.length →
    Ev (fun k => impl_LatestDay.l0 k l (((iotaL i).map (lateP l o)).foldl mx 0) (endsP l o) (l.length : Int) (i : Int)) (mostP l o, 0) := by
  intro m
  have hel := ends_len l o
  induction m with
  | zero =>
    intro i hi
    have : i = l.length := by omega
    subst this
    refine Ev.step (fun k => by rw [impl_LatestDay.l0]) ?_
    exact ev_neg (by omega) (Ev.now _)
  | succ m ih =>
    intro i hi
    have hlb := late_bound l hn hf o ho (i : Int) (by omega) (by omega)
    have hr := ends_rdP l o ho (i : Int) (by omega) (by omega)
    have hx := ih (i + 1) (by omega)
    rw [iotaL_succ, List.map_append, List.map_cons, List.map_nil, List.foldl_append] at hx
    refine Ev.step (fun k => by rw [impl_LatestDay.l0]) ?_
    refine ev_pos (by omega) (ev_pos (by omega) (ev_pos (by omega) (ev_pos (by omega) ?_)))
    have e1 : wrap64 (timeP l o (i : Int) - (rd_T55 l (i : Int)).f2) = lateP l o (i : Int) := ws (show -9223372036854775808 ≤ lateP l o (i : Int) by omega) (show lateP l o (i : Int) ≤ 9223372036854775807 by omega)
    rw [hr, e1, ws (i := (i : Int) + 1) (by omega) (by omega)]
    exact hx
abbrev lateL (l : List R) (o : List Int) (i : Nat) : List Int := (iotaL i).filter (fun x => decide (timeP l o x > duR l x))
omit hf in
theorem late_loopP (o : List Int) (ho : PlanP l.length o) : ∀ (m i : Nat), i + m = l.length →
    Ev (fun k => impl_LateRenewals.l0 k l (lateL l o i) (endsP l o) (l.length : Int) (i : Int)) (lateL l o l.length, 0) := by
  intro m
  have hel := ends_len l o
  induction m with
  | zero =>
    intro i hi
    have : i = l.length := by omega
    subst this
    refine Ev.step (fun k => by rw [impl_LateRenewals.l0]) ?_
    exact ev_neg (by omega) (Ev.now _)
  | succ m ih =>
    intro i hi
    have hr := ends_rdP l o ho (i : Int) (by omega) (by omega)
    have hx := ih (i + 1) (by omega)
    have hll : (lateL l o i).length ≤ i := by
      have := List.length_filter_le (fun x => decide (timeP l o x > duR l x)) (iotaL i)
      rwa [iotaL_length] at this
    have es : lateL l o (i + 1) = if timeP l o (i : Int) > duR l (i : Int) then lateL l o i ++ [(i : Int)] else lateL l o i := by
      unfold lateL
      rw [iotaL_succ, List.filter_append]
      by_cases h : timeP l o (i : Int) > duR l (i : Int)
      · rw [if_pos h, List.filter_cons, if_pos (decide_eq_true h)]
        rfl
      · rw [if_neg h, List.filter_cons, if_neg (by rw [decide_eq_false h]; simp), List.filter_nil, List.append_nil]
    rw [es] at hx
    refine Ev.step (fun k => by rw [impl_LateRenewals.l0]) ?_
    refine ev_pos (by omega) (ev_pos (by omega) (ev_pos (by omega) (ev_pos (by omega) ?_)))
    rw [hr, ws (i := (i : Int) + 1) (by omega) (by omega)]
    by_cases h : timeP l o (i : Int) > duR l (i : Int)
    · rw [if_pos h] at hx
      exact ev_pos h (ev_pos (by omega) hx)
    · rw [if_neg h] at hx
      exact ev_neg h hx
omit hn hf in
theorem count_late (o : List Int) (ho : PlanP l.length o) : ∀ i : Nat, i ≤ l.length → cntIn l (endsP l o) i + (lateL l o i).length = i := by
  intro i
  induction i with
  | zero => intro _; rfl
  | succ i ih =>
    intro hi
    have hr := ends_rdP l o ho (i : Int) (by omega) (by omega)
    have h1 := ih (by omega)
    have hc := cntIn_succ l (endsP l o) i
    rw [hr] at hc
    have es : (lateL l o (i + 1)).length = (lateL l o i).length + if timeP l o (i : Int) > duR l (i : Int) then 1 else 0 := by
      unfold lateL
      rw [iotaL_succ, List.filter_append, List.length_append]
      by_cases h : timeP l o (i : Int) > duR l (i : Int)
      · rw [if_pos h, List.filter_cons, if_pos (decide_eq_true h)]
        rfl
      · rw [if_neg h, List.filter_cons, if_neg (by rw [decide_eq_false h]; simp)]
        rfl
    by_cases h : timeP l o (i : Int) > duR l (i : Int)
    · rw [if_pos h] at es
      rw [if_neg (by have : duR l (i : Int) = (rd_T55 l (i : Int)).f2 := rfl; omega)] at hc
      omega
    · rw [if_neg h] at es
      rw [if_pos (by have : duR l (i : Int) = (rd_T55 l (i : Int)).f2 := rfl; omega)] at hc
      omega
theorem least_fold : ∀ (os : List (List Int)), (∀ o ∈ os, PlanP l.length o) → ∀ st : List Int × Int, (st.2 < 0 ∨ (PlanP l.length st.1 ∧ st.2 = harmP l st.1)) →
    ∃ st' : List Int × Int, Ev (fun k => os.foldlM (leafI k l) st) st' ∧ (st'.2 < 0 ∨ (PlanP l.length st'.1 ∧ st'.2 = harmP l st'.1)) ∧ (0 ≤ st.2 → 0 ≤ st'.2 ∧ st'.2 ≤ st.2) ∧ ∀ o ∈ os, 0 ≤ st'.2 ∧ st'.2 ≤ harmP l o := by
  intro os
  induction os with
  | nil => intro _ st h; exact ⟨st, Ev.now _, h, fun h0 => ⟨h0, Int.le_refl _⟩, fun o ho => by simp at ho⟩
  | cons o os ih =>
    intro hos st hst
    have ho := hos o (List.mem_cons_self ..)
    have hh0 : 0 ≤ harmP l o := sumP_non (fun x hx => by
      obtain ⟨y, hy, rfl⟩ := List.mem_map.1 hx
      have := (iota_mem _ _).1 hy
      exact (cost_bound l hn hf o ho y this.1 this.2).1)
    have hev : ∀ st2, st2 = (if st.2 < 0 ∨ harmP l o < st.2 then (o, harmP l o) else st) → Ev (fun k => leafI k l st o) st2 := fun st2 e => by
      subst e
      unfold leafI
      exact Ev.bind (harm_evP l hn hf o ho) (Ev.now _)
    by_cases hc : st.2 < 0 ∨ harmP l o < st.2
    · obtain ⟨st', s1, s2, s3, s4⟩ := ih (fun q hq => hos q (List.mem_cons_of_mem _ hq)) (o, harmP l o) (Or.inr ⟨ho, rfl⟩)
      have h3 := s3 hh0
      refine ⟨st', ?_, s2, fun h0 => ⟨h3.1, ?_⟩, fun q hq => ?_⟩
      · simp only [List.foldlM_cons]
        exact Ev.bind (hev _ (by rw [if_pos hc])) s1
      · have := h3.2
        dsimp only at this
        omega
      · rcases List.mem_cons.1 hq with rfl | hq
        · exact h3
        · exact s4 q hq
    · obtain ⟨st', s1, s2, s3, s4⟩ := ih (fun q hq => hos q (List.mem_cons_of_mem _ hq)) st hst
      have h3 := s3 (by omega)
      refine ⟨st', ?_, s2, s3, fun q hq => ?_⟩
      · simp only [List.foldlM_cons]
        exact Ev.bind (hev _ (by rw [if_neg hc])) s1
      · rcases List.mem_cons.1 hq with rfl | hq
        · exact ⟨h3.1, by omega⟩
        · exact s4 q hq
theorem most_foldP : ∀ (os : List (List Int)), (∀ o ∈ os, PlanP l.length o) → ∀ st : Int, st ≤ l.length →
    ∃ st' : Int, Ev (fun k => os.foldlM (leafM k l) st) st' ∧ st ≤ st' ∧ st' ≤ l.length ∧ ∀ o ∈ os, (cntIn l (endsP l o) l.length : Int) ≤ st' := by
  intro os
  induction os with
  | nil => intro _ st h; exact ⟨st, Ev.now _, Int.le_refl _, h, fun o ho => by simp at ho⟩
  | cons o os ih =>
    intro hos st hst
    have ho := hos o (List.mem_cons_self ..)
    have hel := ends_len l o
    have hc := count_late l o ho l.length (Nat.le_refl _)
    have hm : st ≤ mx st (cntIn l (endsP l o) l.length : Int) ∧ (cntIn l (endsP l o) l.length : Int) ≤ mx st (cntIn l (endsP l o) l.length : Int) ∧ mx st (cntIn l (endsP l o) l.length : Int) ≤ l.length := by
      unfold mx
      split <;> omega
    obtain ⟨st', s1, s2, s3, s4⟩ := ih (fun q hq => hos q (List.mem_cons_of_mem _ hq)) (mx st (cntIn l (endsP l o) l.length : Int)) hm.2.2
    refine ⟨st', ?_, by omega, s3, fun q hq => ?_⟩
    · simp only [List.foldlM_cons]
      refine Ev.bind (a := mx st (cntIn l (endsP l o) l.length : Int)) ?_ s1
      unfold leafM
      refine Ev.bind (ends_evP l hn hf o (plan_in ho) (by rw [plan_len ho]; exact hn)) (ev_pos (by omega) (ev_of (Ev.now _) ?_))
      rw [hel]
    · rcases List.mem_cons.1 hq with rfl | hq
      · omega
      · exact s4 q hq
end
theorem has_evP (a : Int) : ∀ (xs p : List Int), p.length + xs.length ≤ 1048576 → Ev (fun k => laws_a2Has.l0 k (p ++ xs) a (p.length : Int)) (xs.contains a) := by
  intro xs
  induction xs with
  | nil =>
    intro p _
    refine Ev.step (fun k => by rw [laws_a2Has.l0]) ?_
    exact ev_neg (not_lt_end p) (Ev.now _)
  | cons x xs ih =>
    intro p hl
    rw [List.length_cons] at hl
    have hw : wrap64 ((p.length : Int) + 1) = ((p ++ [x]).length : Int) := wrap_next p x (by omega)
    have hi := ih (p ++ [x]) (by rw [List.length_append]; simp; omega)
    refine Ev.step (fun k => by rw [laws_a2Has.l0]) ?_
    refine ev_pos (lt_mid p x xs) (ev_pos (Int.natCast_nonneg _) ?_)
    rw [rd_mid, hw, push_mid p x xs]
    refine ev_ite (fun h => ?_) (fun h => ?_)
    · refine ev_of (Ev.now _) ?_
      simp [h]
    · refine ev_of hi ?_
      rw [List.contains_cons]
      have : (a == x) = false := by simp; omega
      rw [this, Bool.false_or]
theorem rises_evP (n : Int) (s : List Int) (hsl : s.length ≤ 1048576) (hs : s.Pairwise (fun a b => a < b)) (hin : ∀ x ∈ s, 0 ≤ x ∧ x < n) : ∀ (xs p : List Int), s = p ++ xs → Ev (fun k => laws_a2Rises.l0 k s n (p.length : Int)) true := by
  intro xs
  induction xs with
  | nil =>
    intro p hp
    refine Ev.step (fun k => by rw [laws_a2Rises.l0]) ?_
    exact ev_neg (by rw [hp, List.append_nil]; omega) (Ev.now _)
  | cons x xs ih =>
    intro p hp
    have hpl : (p.length : Int) + (xs.length + 1) = s.length := by rw [hp]; simp
    have hx := hin x (by rw [hp]; simp)
    have hr : rd s (p.length : Int) = x := by rw [hp]; exact rd_mid p x xs
    have hw : wrap64 ((p.length : Int) + 1) = ((p ++ [x]).length : Int) := wrap_next p x (by omega)
    have hi := ih (p ++ [x]) (by rw [hp]; simp)
    refine Ev.step (fun k => by rw [laws_a2Rises.l0]) ?_
    refine ev_pos (by omega) (ev_pos (by omega) ?_)
    rw [hr, hw]
    refine ev_neg (by omega) (ev_neg (by omega) ?_)
    by_cases h0 : (p.length : Int) > 0
    · have hne : p ≠ [] := fun e => by rw [e] at h0; simp at h0
      obtain ⟨p', y, rfl⟩ : ∃ p' y, p = p' ++ [y] := ⟨p.dropLast, p.getLast hne, (List.dropLast_concat_getLast hne).symm⟩
      have hw2 : wrap64 (((p' ++ [y]).length : Int) - 1) = (p'.length : Int) := (ws (by omega) (by omega)).trans (by simp)
      have hr2 : rd s (p'.length : Int) = y := by rw [hp, List.append_assoc]; exact rd_mid p' y (x :: xs)
      have hyx : y < x := by
        rw [hp, List.pairwise_append] at hs
        exact hs.2.2 y (by simp) x (List.mem_cons_self ..)
      rw [hw2, hr2]
      have hpp : ((p' ++ [y]).length : Int) = p'.length + 1 := by simp
      exact ev_pos h0 (ev_pos (by omega) (ev_pos (by omega) (ev_neg (by omega) hi)))
    · exact ev_neg h0 hi
theorem order_loopP {c : List Int} (hc : ∀ x ∈ c, 0 ≤ x ∧ x ≤ 255) (n : Nat) (hn : n ≤ 5) : ∀ (m i : Nat) (o : List Int) (at_ seed : Int), i + m = n → PlanP i o → Room (2 * m) at_ → ∃ r, Ev (fun k => spec_A2Order.l0 k (n : Int) o (i : Int) c at_ seed) r ∧ PlanP n r := by
  intro m
  induction m with
  | zero =>
    intro i o at_ seed hi ho _
    have : i = n := by omega
    subst this
    refine ⟨o, Ev.step (fun k => by rw [spec_A2Order.l0]) ?_, ho⟩
    exact ev_neg (by omega) (Ev.now _)
  | succ m ih =>
    intro i o at_ seed hi ho hr
    obtain ⟨r0, r1⟩ := hr
    have hol := plan_len ho
    obtain ⟨v, t, s, e, v0, v1, t0, t1⟩ := pick_some hc at_ seed ((o.length : Int) + 1) ⟨r0, by omega⟩ (by omega)
    have v2 := v1 (by omega)
    have hw : wrap64 ((o.length : Int) + 1) = (o.length : Int) + 1 := ws (by omega) (by omega)
    have hw2 : wrap64 ((i : Int) + 1) = ((i + 1 : Nat) : Int) := (ws (by omega) (by omega)).trans (by omega)
    have hp : PlanP (i + 1) (o.take v.toNat ++ [(i : Int)] ++ o.drop v.toNat) := by
      show List.Perm _ _
      rw [iotaL_succ, List.append_assoc, List.singleton_append]
      refine List.perm_middle.trans ?_
      rw [List.take_append_drop]
      exact (List.Perm.cons _ ho).trans (List.perm_append_singleton _ _).symm
    obtain ⟨r, h1, h2⟩ := ih (i + 1) _ t s (by omega) hp ⟨by omega, by omega⟩
    refine ⟨r, Ev.step (fun k => by rw [spec_A2Order.l0]) ?_, h2⟩
    rw [hw, hw2]
    refine ev_pos (by omega) (ev_bind0 e (ev_pos v0 (ev_pos (by dsimp only; omega) ?_)))
    dsimp only
    refine ev_bind0 (ownD _ (by rw [List.length_take]; omega)) (ev_pos (by rw [List.length_take]; omega) (ev_bind0 rfl (ev_bind0 rfl (ev_pos (by rw [List.length_append, List.length_take, List.length_drop, List.length_singleton]; omega) ?_))))
    exact h1
section
variable (l : List R) (hn : l.length ≤ 5) (hf : ∀ x ∈ l, fineR x) (hok : okFrom [] l = true) (hg : GoodRenewals l)
include hn hf hok hg
omit hf in
theorem code_evP (o : List Int) (ho : PlanP l.length o) : Ev (fun k => impl_orderCode.f k l o) 0 := by
  have h := impl_code l o hg (by rw [plan_len ho]; omega)
  refine ev_of h ?_
  unfold codeR
  rw [hok, decide_eq_true (by omega : (l.length : Int) ≤ 7), if_pos (show (true && true) = true from rfl), if_pos]
  have h1 : o.all (inR (l.length : Int)) = true := List.all_eq_true.2 (fun x hx => by
    have := plan_in ho x hx
    unfold inR
    rw [decide_eq_true this.1, decide_eq_true (by omega)]
    rfl)
  rw [h1, ndF_of o [] (plan_nodup ho), decide_eq_true (by rw [plan_len ho])]
  rfl
omit hf in
theorem valid_evP : Ev (fun k => impl_ValidRenewals.f k l) true := by
  have hb := impl_ok l hg.1 (good_sizes hg)
  rwa [hok, decide_eq_true (by omega : (l.length : Int) ≤ 7)] at hb
theorem HarmOf_evP (o : List Int) (ho : PlanP l.length o) : Ev (fun k => impl_HarmOf.f k l o) (harmP l o, 0) := by
  unfold impl_HarmOf.f
  exact Ev.bind (code_evP l hn hok hg o ho) (ev_pos rfl (Ev.bind (harm_evP l hn hf o ho) (Ev.now _)))
theorem LatestDay_evP (o : List Int) (ho : PlanP l.length o) : Ev (fun k => impl_LatestDay.f k l o) (mostP l o, 0) := by
  unfold impl_LatestDay.f
  refine Ev.bind (code_evP l hn hok hg o ho) (ev_pos rfl (Ev.bind (ends_evP l hn hf o (plan_in ho) (by rw [plan_len ho]; exact hn)) ?_))
  rw [ends_len l o]
  exact latest_loopP l hn hf o ho l.length 0 (by omega)
theorem Late_evP (o : List Int) (ho : PlanP l.length o) : Ev (fun k => impl_LateRenewals.f k l o) (lateL l o l.length, 0) := by
  unfold impl_LateRenewals.f
  refine Ev.bind (code_evP l hn hok hg o ho) (ev_pos rfl (Ev.bind (ends_evP l hn hf o (plan_in ho) (by rw [plan_len ho]; exact hn)) ?_))
  rw [ends_len l o]
  exact late_loopP l hn o ho l.length 0 (by omega)
theorem law_loopP (o : List Int) (ho : PlanP l.length o) : ∀ (xs p : List Int), o = p ++ xs →
    Ev (fun k => laws_FnRenewals.l0 k l o (harmP l o) (endsP l o) (lateL l o l.length) (sumP (p.map (dyR l))) (sumP (p.map (costP l o))) ((p.map (lateP l o)).foldl mx 0) (p.length : Int)) true := by
  intro xs
  have hol := plan_len ho
  have hel := ends_len l o
  have hll : (lateL l o l.length).length ≤ l.length := by
    have := List.length_filter_le (fun x => decide (timeP l o x > duR l x)) (iotaL l.length)
    rwa [iotaL_length] at this
  induction xs with
  | nil =>
    intro p hp
    have e : o = p := by rw [hp, List.append_nil]
    rw [← e]
    have hdue : PlanP l.length (dueFrom l l.length 0 []) := by
      have := dueFrom_plan l l.length 0 [] (List.Perm.refl _)
      rwa [Nat.zero_add] at this
    have hO : Ev (fun k => impl_OrderByDue.f k l) (dueFrom l l.length 0 [], 0) := by
      unfold impl_OrderByDue.f
      refine Ev.bind (valid_evP l hn hok hg) (ev_pos rfl (ev_pos (by omega) ?_))
      rw [insFrom_all]
      exact Ev.now _
    refine Ev.step (fun k => by rw [laws_FnRenewals.l0]) ?_
    refine ev_neg (by omega) (Ev.bind hO (Ev.bind (LatestDay_evP l hn hf hok hg o ho) (Ev.bind (LatestDay_evP l hn hf hok hg _ hdue) ?_)))
    dsimp only
    refine ev_pos (sumP_perm (ho.map _)) (ev_pos rfl (ev_pos rfl (ev_pos ?_ (ev_pos rfl (ev_of (Ev.now _) ?_)))))
    · exact foldmx_mem (fun x => (ho.map (lateP l o)).mem_iff.symm)
    · rw [decide_eq_true (due_least l hf _ o hdue ho (dueFrom_sorted l l.length 0 [] List.Pairwise.nil))]
  | cons x xs ih =>
    intro p hp
    have hpl : (p.length : Int) + (xs.length + 1) = o.length := by rw [hp]; simp
    have hxi := plan_in ho x (by rw [hp]; simp)
    have hfx := fine_at l hf x hxi.1 hxi.2
    have hr : rd o (p.length : Int) = x := by rw [hp]; exact rd_mid p x xs
    have hw : wrap64 ((p.length : Int) + 1) = ((p ++ [x]).length : Int) := wrap_next p x (by omega)
    have hi := ih (p ++ [x]) (by rw [hp]; simp)
    have hnd := plan_nodup ho
    rw [hp] at hnd
    have hxp : x ∉ p := fun h => (List.nodup_append.1 hnd).2.2 x h x (List.mem_cons_self ..) rfl
    have ht : timeP l o x = sumP (p.map (dyR l)) + dyR l x := by
      rw [hp, timeP_mid l p x xs hxp, List.map_append, List.map_cons, List.map_nil, sumP_snoc]
    have hlb := late_bound l hn hf o ho x hxi.1 hxi.2
    have hcb := cost_bound l hn hf o ho x hxi.1 hxi.2
    have her := ends_rdP l o ho x hxi.1 hxi.2
    have hpm : ∀ y ∈ p, 0 ≤ y ∧ y < (l.length : Int) := fun y hy => plan_in ho y (by rw [hp]; exact List.mem_append_left _ hy)
    have hs0 : 0 ≤ sumP (p.map (costP l o)) := sumP_non (fun z hz => by
      obtain ⟨y, hy, rfl⟩ := List.mem_map.1 hz
      exact (cost_bound l hn hf o ho y (hpm y hy).1 (hpm y hy).2).1)
    have hs1 : sumP (p.map (costP l o)) ≤ 315 * ((5 : Nat) : Int) := sumP_le (fun z hz => by
      obtain ⟨y, hy, rfl⟩ := List.mem_map.1 hz
      exact (cost_bound l hn hf o ho y (hpm y hy).1 (hpm y hy).2).2) (by decide) 5 (by rw [List.length_map]; omega)
    rw [List.map_append, List.map_cons, List.map_nil, sumP_snoc, List.map_append, List.map_cons, List.map_nil, sumP_snoc, List.map_append, List.map_cons, List.map_nil, List.foldl_append, ← ht] at hi
    have e0 : wrap64 (sumP (p.map (dyR l)) + (rd_T55 l x).f1) = timeP l o x := (ws (show -9223372036854775808 ≤ sumP (p.map (dyR l)) + dyR l x by omega) (show sumP (p.map (dyR l)) + dyR l x ≤ 9223372036854775807 by omega)).trans ht.symm
    have e1 : wrap64 (timeP l o x - (rd_T55 l x).f2) = lateP l o x := ws (show -9223372036854775808 ≤ lateP l o x by omega) (show lateP l o x ≤ 9223372036854775807 by omega)
    have e2 : wrap64 ((rd_T55 l x).f3 * mx 0 (lateP l o x)) = costP l o x := ws (show -9223372036854775808 ≤ costP l o x by omega) (show costP l o x ≤ 9223372036854775807 by omega)
    refine Ev.step (fun k => by rw [laws_FnRenewals.l0]) ?_
    refine ev_pos (by omega) (ev_pos (by omega) ?_)
    rw [hr]
    refine ev_pos hxi.1 (ev_pos hxi.2 (ev_pos (by omega) ?_))
    rw [e0, e1, e2, her, hw, ws (i := sumP (p.map (costP l o)) + costP l o x) (by omega) (by omega)]
    refine ev_pos rfl ?_
    have hha : Ev (fun k => laws_a2Has.f k (lateL l o l.length) x) (decide (timeP l o x > duR l x)) := by
      unfold laws_a2Has.f
      refine ev_of (has_evP x (lateL l o l.length) [] (by simp; omega)) ?_
      rw [Bool.eq_iff_iff, List.contains_iff_mem, List.mem_filter]
      constructor
      · exact fun h => h.2
      · exact fun h => ⟨(iota_mem _ _).2 hxi, h⟩
    refine Ev.bind hha (ev_neg ?_ hi)
    have : duR l x = (rd_T55 l x).f2 := rfl
    simp
end
theorem FnRenewals : laws_FnRenewals.Pure := by
  intro c c2 hc _ hb hc2 _ hb2
  refine Ev.rounds (g := fun k => laws_FnRenewals.f k c c2) ?_
  unfold laws_FnRenewals.f
  have h2 : ∃ b, laws_a2Long.f c c2 = some b := by
    unfold laws_a2Long.f
    by_cases h : (c.length : Int) > 3000
    · rw [if_pos h]; exact ⟨_, rfl⟩
    · rw [if_neg h]; exact ⟨_, rfl⟩
  obtain ⟨b, h2⟩ := h2
  refine ev_bind0 h2 (ev_ite (fun _ => Ev.now _) (fun _ => ?_))
  obtain ⟨l, e, hl, hn⟩ := draw_ev (code_of hb)
  have hf := hl.fine
  have hg := drawn_good hl hn
  obtain ⟨o, eo, ho⟩ := order_loopP (code_of hb2) l.length hn l.length 0 [] 0 0 (by omega) (List.Perm.refl _) ⟨by omega, by omega⟩
  have eo' : Ev (fun k => spec_A2Order.f k c2 (l.length : Int)) o := by
    unfold spec_A2Order.f spec_l00From.f
    exact ev_bind0 rfl eo
  refine Ev.bind e (Ev.bind eo' ?_)
  obtain ⟨st, s1, s2, _, s4⟩ := least_fold l hn hf (ordersFrom l.length l.length []) (fun q hq => orders_plan hq) ([], -1) (Or.inl (by decide))
  have hst := s4 o (plan_orders ho)
  obtain ⟨hp, hv⟩ : PlanP l.length st.1 ∧ st.2 = harmP l st.1 := by
    rcases s2 with h | h
    · omega
    · exact h
  obtain ⟨good, m1, _, m3, m4⟩ := most_foldP l hn hf (ordersFrom l.length l.length []) (fun q hq => orders_plan hq) 0 (by omega)
  have hgood := m4 o (plan_orders ho)
  have hcl := count_late l o ho l.length (Nat.le_refl _)
  have hLeast : Ev (fun k => impl_LeastHarm.f k l) (st.1, st.2, 0) := by
    unfold impl_LeastHarm.f
    exact Ev.bind (valid_evP l hn hl.ok hg) (ev_pos rfl (ev_pos (by omega) (Ev.bind s1 (Ev.now _))))
  have hMost : Ev (fun k => impl_MostInTime.f k l) (good, 0) := by
    unfold impl_MostInTime.f
    exact Ev.bind (valid_evP l hn hl.ok hg) (ev_pos rfl (ev_pos (by omega) (Ev.bind m1 (Ev.now _))))
  have hEnds : Ev (fun k => impl_EndsOfPlan.f k l o) (endsP l o, 0) := by
    unfold impl_EndsOfPlan.f
    exact Ev.bind (code_evP l hn hl.ok hg o ho) (ev_pos rfl (Ev.bind (ends_evP l hn hf o (plan_in ho) (by rw [plan_len ho]; exact hn)) (Ev.now _)))
  have hll : (lateL l o l.length).length ≤ l.length := by
    have := List.length_filter_le (fun x => decide (timeP l o x > duR l x)) (iotaL l.length)
    rwa [iotaL_length] at this
  have hRise : Ev (fun k => laws_a2Rises.f k (lateL l o l.length) (l.length : Int)) true := by
    unfold laws_a2Rises.f
    refine rises_evP (l.length : Int) (lateL l o l.length) (by omega) ?_ (fun x hx => (iota_mem _ _).1 (List.mem_filter.1 hx).1) _ [] rfl
    refine List.Pairwise.filter _ ?_
    unfold iotaL
    refine List.Pairwise.map _ ?_ (List.pairwise_lt_range (n := l.length))
    intro a b h
    omega
  refine Ev.bind hLeast (Ev.bind (HarmOf_evP l hn hf hl.ok hg _ hp) (Ev.bind (HarmOf_evP l hn hf hl.ok hg o ho) (Ev.bind hEnds (Ev.bind (Late_evP l hn hf hl.ok hg o ho) (Ev.bind hMost ?_)))))
  dsimp only
  refine ev_pos rfl (ev_pos rfl (ev_pos hv.symm (ev_pos rfl (ev_neg (by omega) (ev_pos rfl (ev_pos (by rw [ends_len l o]) (ev_pos rfl (Ev.bind hRise (ev_pos rfl (ev_pos rfl ?_))))))))))
  rw [ws (i := (l.length : Int) - ((lateL l o l.length).length : Int)) (by omega) (by omega)]
  refine ev_neg (by omega) ?_
  rw [decide_eq_false (by omega)]
  refine Ev.step (fun k => by rw [laws_FnRenewals.j0]) (ev_neg (by simp) ?_)
  exact law_loopP l hn hf hl.ok hg o ho o [] rfl
end Go.Proofs.Ytkegmjebkikniaa.Pure
end

section
namespace Go.Proofs.YtkegmjebkikniaaW.PrintWords
open Go.ChangeShapes Go.WideShapes
/-- A row's slice of whole numbers is no longer than its weight allows. -/
theorem sized_ints {H : Type} {enc : TypeId × Value → H} {P : Program} {W : World} {base : Nat} {spare : Nat → Bool} {held : Bool} {t e : TypeId} {k : IntKind} {a : Option Addr} {len cap : Nat} {d : DataW H} {ps : List MemPlace} {ts : List TypeId} {ds : List (DataW H)} {j : Nat}
    (hsz : (DataW.weightsEach P ts ds).all (· ≤ reachBytes) = true) (ht : ts[j]? = some t) (hd : ds[j]? = some d) (hu : P.underlying t = some (.slice e)) (he : P.underlying e = some (.int k)) (hc : P.cellsOf e = 1) {B : Nat} (hB : P.bytesOf e = B)
    (h : DataW.Trod enc P W base spare held t (.slice a len cap) d ps) : len * B ≤ 140737488351232 := by
  obtain ⟨fuel, hf⟩ := h
  rcases open_ints hu he hc hf with ⟨hcs, _⟩ | ⟨x, l, c, zs, hcs, _, hl, _, hz, hx, _, _⟩
  · simp [Value.cells] at hcs
    obtain ⟨rfl, rfl, rfl⟩ := hcs
    simp
  · simp [Value.cells] at hcs
    obtain ⟨rfl, rfl, rfl⟩ := hcs
    obtain ⟨hx, _⟩ := Prod.mk.inj hx
    subst hx
    have z := sized_slice hsz ht hd hu
    rw [hB] at z
    have hl2 : len ≤ zs.length := by
      rw [hz]
      split
      · exact hl
      · exact Nat.le_refl _
    have h1 : (lits (H := H) k (zs.take len)).length + (lits (H := H) k (zs.drop len)).length = zs.length := by
      simp [lits]
      omega
    rw [h1] at z
    exact Nat.le_trans (Nat.mul_le_mul_right _ hl2) z
end Go.Proofs.YtkegmjebkikniaaW.PrintWords
end

section
namespace Go.Proofs.Ytkegmjebkikniaa.fnRenewals
open Go.ChangeShapes Go.WideShapes Go.ChangeAt Go.RowKit
open Go.ChangeMaps (open_string shut_string)
set_option linter.unusedVariables false
theorem own : ownKnob Try.prog.godebug = none := by kernel_rfl
theorem laidOut : laidOutB Try.prog = true := by kernel_rfl
def IsRow (k : IntKind) (w : World) (a : Option Addr) (len cap : Nat) (zs : List Int) : Prop :=
  (a = none ∧ len = 0 ∧ cap = 0 ∧ zs = []) ∨
  ∃ x, a = some x ∧ len ≤ cap ∧ cap ≤ maxLen ∧ zs.length = cap ∧ (∀ i, i < zs.length → w.cell? (x.add i) = some (.int k (zs.getD i 0))) ∧ ∀ n ∈ zs, (Lit.int k n).wf = true
set_option maxRecDepth 100000 in
theorem lifted (os : Os) (started : os.Started) (H : Type) (enc : TypeId × Value → H) :
    ReturnsInHanded {} Try.checked os 14 .any (Rows.fnRenewalsSpec.pre6 enc Try.prog Try.f14 Rows.fnRenewalsRow.domain false) (Rows.fnRenewalsSpec.post enc Try.prog Try.f14 false true false false) := by
  refine returnsInHanded_of_change_sized (C := Try.checked) own started (by kernel_rfl) Try.func14
    (ChangeSpec.witness6 (enc := enc) (C := Try.checked) false ⟨#[], #[.slice none 0 0, .slice none 0 0], []⟩ 8 (by kernel_rfl) (by kernel_rfl) (by kernel_rfl) (by kernel_rfl)) ?_
  intro W base args ds gs before hval0 hW hcnd hsz0 _
  have hsz : (DataW.weightsEach Try.prog (Try.f14.params.toList ++ Rows.fnRenewalsSpec.plain.varTypes Try.prog) (ds ++ gs)).all (· ≤ reachBytes) = true := hsz0
  have hval : ∀ (j : Nat) t v, Try.f14.params[j]? = some t → args[j]? = some v → Value.okWide Try.prog W .any base t v := hval0
  have hW' := hW
  obtain ⟨p, q, hA0, hV, rfl, hfz, hnd⟩ := hW
  have hA : DataW.TrodAll enc Try.prog W 0 (fun _ => true) true Try.f14.params.toList args.toList ds p := hA0
  rw [Try.params14] at hA hval hsz
  obtain ⟨v0, vs0, d0, ds0, p0, q0, hargs, rfl, rfl, h0, r0⟩ := trodAll_cons hA
  obtain ⟨v1, vs1, d1, ds1, p1, q1, rfl, rfl, rfl, h1, r1⟩ := trodAll_cons r0
  obtain ⟨rfl, rfl, rfl⟩ := trodAll_nil r1
  obtain rfl : args = #[v0, v1] := by cases args; simp_all
  obtain ⟨rfl, rfl⟩ := trodVars_none hV
  obtain ⟨a0, len0, cap0, rfl⟩ := okWide_slice Try.underlying51 (hval 0 51 v0 rfl rfl)
  have k0 := h0
  have lt0 : ∀ x ∈ p0, x.block < W.heap.size := by obtain ⟨m, hm⟩ := k0; exact DataW.trod_lt m _ _ _ hm
  obtain ⟨z0, w0⟩ : ∃ zs, IsRow .u8 W a0 len0 cap0 zs := by
    obtain ⟨fuel, hf⟩ := h0
    rcases open_ints Try.underlying51 Try.underlying5 (by kernel_rfl) hf with ⟨hcs, _⟩ | ⟨x, l, c, zs, hcs, _, hl, hm, hz, _, hcell, hwz⟩
    · simp [Value.cells] at hcs
      obtain ⟨rfl, rfl, rfl⟩ := hcs
      exact ⟨[], .inl ⟨rfl, rfl, rfl, rfl⟩⟩
    · simp [Value.cells] at hcs
      obtain ⟨rfl, rfl, rfl⟩ := hcs
      exact ⟨zs, .inr ⟨_, rfl, hl, hm, by simpa using hz, hcell, hwz⟩⟩
  have y0 : len0 * 1 ≤ 140737488351232 := Go.Proofs.YtkegmjebkikniaaW.PrintWords.sized_ints hsz (j := 0) (t := 51) rfl rfl Try.underlying51 Try.underlying5 (by kernel_rfl) (by kernel_rfl) h0
  obtain ⟨a1, len1, cap1, rfl⟩ := okWide_slice Try.underlying51 (hval 1 51 v1 rfl rfl)
  have k1 := h1
  have lt1 : ∀ x ∈ p1, x.block < W.heap.size := by obtain ⟨m, hm⟩ := k1; exact DataW.trod_lt m _ _ _ hm
  obtain ⟨z1, w1⟩ : ∃ zs, IsRow .u8 W a1 len1 cap1 zs := by
    obtain ⟨fuel, hf⟩ := h1
    rcases open_ints Try.underlying51 Try.underlying5 (by kernel_rfl) hf with ⟨hcs, _⟩ | ⟨x, l, c, zs, hcs, _, hl, hm, hz, _, hcell, hwz⟩
    · simp [Value.cells] at hcs
      obtain ⟨rfl, rfl, rfl⟩ := hcs
      exact ⟨[], .inl ⟨rfl, rfl, rfl, rfl⟩⟩
    · simp [Value.cells] at hcs
      obtain ⟨rfl, rfl, rfl⟩ := hcs
      exact ⟨zs, .inr ⟨_, rfl, hl, hm, by simpa using hz, hcell, hwz⟩⟩
  have y1 : len1 * 1 ≤ 140737488351232 := Go.Proofs.YtkegmjebkikniaaW.PrintWords.sized_ints hsz (j := 1) (t := 51) rfl rfl Try.underlying51 Try.underlying5 (by kernel_rfl) (by kernel_rfl) h1
  clear hA0 hval0 hsz0 hsz
  refine (P.laws_FnRenewals.walk Pure.FnRenewals a0 len0 cap0 z0 a1 len1 cap1 z1 W w0 y0 w1 y1).mono fun e W' ⟨he, bel⟩ => ?_
  subst he
  exact ⟨_, rfl, _, _, _, [], _, [], hW', trodAll_mk1 (shut_bool Try.underlying4 _), (trodAll_cons_mk (Below.trod laidOut (by kernel_rfl) (of_decide_eq_true (by kernel_rfl)) k0 bel lt0) (trodAll_cons_mk (Below.trod laidOut (by kernel_rfl) (of_decide_eq_true (by kernel_rfl)) k1 bel lt1) trodAll_mk0)), rfl, bel.frame _, fun h => by cases h⟩
theorem over : Rows.fnRenewalsRow.holds Try.pinned (OpenSpec.ofChange Rows.fnRenewalsSpec) :=
  OpenClaim.holds_of_wide 14 Try.f14 rfl rfl rfl rfl rfl rfl rfl ⟨rfl, rfl, rfl, rfl, rfl⟩ rfl rfl rfl rfl rfl (by kernel_rfl) Try.func14 (by kernel_rfl)
    (of_decide_eq_true (by kernel_rfl)) (by unfold Func.isWrapper; first | (rw [if_pos (by decide +kernel)]; kernel_rfl) | (rw [if_neg (by decide +kernel)]; exact ⟨rfl, rfl⟩))
    (fun os started H enc _ => lifted os started H enc)
theorem proved : Rows.FnRenewalsSaid := over
#print axioms proved
end Go.Proofs.Ytkegmjebkikniaa.fnRenewals
namespace Go.Proofs.Ytkegmjebkikniaa
/-- The row, under a short name, for the claim. -/
theorem fnRenewals_holds : Rows.FnRenewalsSaid := fnRenewals.proved
end Go.Proofs.Ytkegmjebkikniaa
end
