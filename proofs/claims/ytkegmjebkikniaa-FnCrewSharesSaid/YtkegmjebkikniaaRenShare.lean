/- ShareRenewals, of both -/
import Derived.Test.YtkegmjebkikniaaRenHarm
import Derived.Test.YtkegmjebkikniaaPx21
import Derived.Test.YtkegmjebkikniaaPx22
import Derived.Test.YtkegmjebkikniaaPx3
import Derived.Test.YtkegmjebkikniaaPx5
namespace Go.Proofs.YtkegmjebkikniaaB
open Go.RowKit Go.Proofs.YtkegmjebkikniaaW.PrintWords Go.Proofs.YtkegmjebkikniaaW.PrintLast Go.Proofs.YtkegmjebkikniaaW.Hand Go.Proofs.Ytkegmjebkikniaa.P

theorem shfold_ext {α β : Type} (f g : α → β → α) : ∀ (l : List β) (a : α), (∀ a, ∀ b ∈ l, f a b = g a b) → l.foldl f a = l.foldl g a := by
  intro l
  induction l with
  | nil => intro a _; rfl
  | cons b l ih =>
    intro a h
    rw [List.foldl_cons, List.foldl_cons, h a b (List.mem_cons_self ..)]
    exact ih _ (fun a c hc => h a c (List.mem_cons_of_mem _ hc))
theorem shfold_inv {α β : Type} (f : α → β → α) (P : α → Prop) : ∀ (l : List β) (a : α), P a → (∀ a, ∀ b ∈ l, P a → P (f a b)) → P (l.foldl f a) := by
  intro l
  induction l with
  | nil => intro a ha _; exact ha
  | cons b l ih =>
    intro a ha h
    rw [List.foldl_cons]
    exact ih _ (h a b (List.mem_cons_self ..) ha) (fun a c hc => h a c (List.mem_cons_of_mem _ hc))
theorem maxTo_ge (xs : List Int) : ∀ n : Nat, n ≤ xs.length → ∀ i : Nat, i < n → rd xs (i : Int) ≤ maxTo xs n := by
  intro n
  induction n with
  | zero => intro _ i hi; omega
  | succ n ih =>
    intro hn i hi
    rw [maxTo_succ xs n (by omega)]
    by_cases h : i < n
    · have := ih (by omega) i h
      unfold mx
      split <;> omega
    · obtain rfl : i = n := by omega
      unfold mx
      split <;> omega
theorem maxTo_at (xs : List Int) (h0 : 0 < xs.length) : ∀ n : Nat, n ≤ xs.length → ∃ i : Nat, i < xs.length ∧ maxTo xs n = rd xs (i : Int) := by
  intro n
  induction n with
  | zero => intro _; exact ⟨0, h0, rfl⟩
  | succ n ih =>
    intro hn
    obtain ⟨i, hi, he⟩ := ih (by omega)
    rw [maxTo_succ xs n (by omega), he]
    unfold mx
    split
    · exact ⟨n, by omega, rfl⟩
    · exact ⟨i, hi, rfl⟩
theorem rd_set_at (xs : List Int) (i : Nat) (v : Int) (h : i < xs.length) : rd (xs.set i v) (i : Int) = v := by
  unfold rd
  rw [Int.toNat_natCast, List.getD_eq_getElem?_getD, List.getElem?_set_self h]
  rfl
theorem rd_set_ne (xs : List Int) (i j : Nat) (v : Int) (h : j ≠ i) : rd (xs.set i v) (j : Int) = rd xs (j : Int) := by
  unfold rd
  rw [Int.toNat_natCast, List.getD_eq_getElem?_getD, List.getD_eq_getElem?_getD, List.getElem?_set_ne (fun e => h e.symm)]
theorem maxTo_set (xs : List Int) (i : Nat) (v : Int) (h : i < xs.length) (hv : rd xs (i : Int) ≤ v) : maxTo (xs.set i v) (xs.set i v).length = mx (maxTo xs xs.length) v := by
  have hl : (xs.set i v).length = xs.length := List.length_set ..
  have hs := rd_set_at xs i v h
  have hg := maxTo_ge (xs.set i v) _ (Nat.le_refl _)
  have hx := maxTo_ge xs _ (Nat.le_refl _)
  obtain ⟨j, hj, ej⟩ := maxTo_at (xs.set i v) (by omega) _ (Nat.le_refl _)
  obtain ⟨q, hq, eq⟩ := maxTo_at xs (by omega) _ (Nat.le_refl _)
  have h1 := hg i (by omega)
  rw [hs] at h1
  have h2 : maxTo xs xs.length ≤ maxTo (xs.set i v) (xs.set i v).length := by
    by_cases e : q = i
    · subst e
      omega
    · have := hg q (by omega)
      rw [rd_set_ne xs i q v e] at this
      omega
  have h3 : maxTo (xs.set i v) (xs.set i v).length ≤ mx (maxTo xs xs.length) v := by
    by_cases e : j = i
    · subst e
      rw [ej, hs]
      unfold mx
      split <;> omega
    · rw [rd_set_ne xs i j v e] at ej
      have := hx j (by omega)
      rw [ej]
      unfold mx
      split <;> omega
  unfold mx at h3 ⊢
  split at h3 <;> omega
section
variable (l : List R) (m : Nat) (hd : daysOk l = true) (hm : 0 < m)
include hd hm
omit hm in
theorem shareI_cut : ∀ (r : Nat) (share sums : List Int) (st : List Int × Int), 0 ≤ st.2 → st.2 ≤ maxTo sums sums.length → sums.length = m → share.length + r ≤ l.length → shareI l m r share sums st = st := by
  intro r
  induction r with
  | zero =>
    intro share sums st h0 h1 _ _
    rw [shareI, if_neg (by omega)]
  | succ r ih =>
    intro share sums st h0 h1 hs hl
    rw [shareI]
    refine shfold_inv _ (fun q => q = st) _ _ rfl ?_
    intro q c hc hq
    subst hq
    have hcm : c < sums.length := by rw [hs]; exact List.mem_range.mp hc
    have hdj := daysOk_at hd share.length (by omega)
    refine ih _ _ _ h0 ?_ (by rw [List.length_set]; exact hs) (by simp; omega)
    rw [maxTo_set sums c _ hcm (by omega)]
    unfold mx
    split <;> omega
omit hm in
theorem share_eq : ∀ (r : Nat) (share sums : List Int) (st : List Int × Int), sums.length = m → share.length + r ≤ l.length → shareW l m r share (maxTo sums sums.length) sums st = shareI l m r share sums st := by
  intro r
  induction r with
  | zero =>
    intro share sums st _ _
    by_cases h : 0 ≤ st.2 ∧ st.2 ≤ maxTo sums sums.length
    · rw [shareW_cut _ _ _ _ _ _ _ h, shareI, if_neg (by omega)]
    · rw [shareW_leaf _ _ _ _ _ _ h, shareI, if_pos (by omega)]
  | succ r ih =>
    intro share sums st hs hl
    by_cases h : 0 ≤ st.2 ∧ st.2 ≤ maxTo sums sums.length
    · rw [shareW_cut _ _ _ _ _ _ _ h, shareI_cut l m hd _ _ _ _ h.1 h.2 hs hl]
    · rw [shareW, if_neg h, shareI]
      refine shfold_ext _ _ _ _ ?_
      intro q c hc
      have hcm : c < sums.length := by rw [hs]; exact List.mem_range.mp hc
      have hdj := daysOk_at hd share.length (by omega)
      rw [← maxTo_set sums c _ hcm (by omega)]
      exact ih _ _ _ (by rw [List.length_set]; exact hs) (by simp; omega)
omit hd hm in
theorem shareI_len : ∀ (r : Nat) (share sums : List Int) (st : List Int × Int), st.1.length ≤ 7 → share.length + r ≤ 7 → (shareI l m r share sums st).1.length ≤ 7 := by
  intro r
  induction r with
  | zero =>
    intro share sums st h1 h2
    rw [shareI]
    split
    · dsimp only; omega
    · exact h1
  | succ r ih =>
    intro share sums st h1 h2
    rw [shareI]
    exact shfold_inv _ (fun q : List Int × Int => q.1.length ≤ 7) _ _ h1 (fun q c _ hq => ih _ _ _ hq (by rw [List.length_append, List.length_singleton]; omega))
theorem shareSt_eq : shareSt l m = shareIst l m := by
  unfold shareSt shareIst
  have h : maxTo (List.replicate m (0 : Int)) (List.replicate m (0 : Int)).length = 0 := by
    obtain ⟨i, _, e⟩ := maxTo_at (List.replicate m (0 : Int)) (by rw [List.length_replicate]; exact hm) _ (Nat.le_refl _)
    rw [e]
    unfold rd
    rw [Int.toNat_natCast, List.getD_eq_getElem?_getD, List.getElem?_replicate]
    split <;> rfl
  have := share_eq l m hd l.length [] (List.replicate m 0) ([], -1) (List.length_replicate ..) (by simp)
  rw [h] at this
  exact this
end
theorem days_of_ok : ∀ (xs p : List R), okFrom p xs = true → daysOk xs = true := by
  intro xs
  induction xs with
  | nil => intro _ _; rfl
  | cons x xs ih =>
    intro p h
    simp only [okFrom, renB, Bool.and_eq_true] at h
    have h1 := ih _ h.2.2
    have h2 : 1 ≤ x.f1 := of_decide_eq_true h.1.2.1.1
    unfold daysOk at h1 ⊢
    rw [List.all_cons, h1, h.1.2.1.2, decide_eq_true (by omega : 0 ≤ x.f1)]
    rfl
theorem valid_ev2 (l : List R) (h : GoodRenewals l) : ∃ b : Bool, Ev (fun k => spec_l22Ok.f k l) b ∧ Ev (fun k => impl_ValidRenewals.f k l) b ∧ (b = true → l.length ≤ 7 ∧ daysOk l = true) := by
  refine ⟨_, spec_ok l h.1 (good_sizes h), impl_ok l h.1 (good_sizes h), fun hb => ?_⟩
  simp only [Bool.and_eq_true, decide_eq_true_eq] at hb
  exact ⟨by omega, days_of_ok l [] hb.1⟩
theorem ShareRenewals_both (l : List R) (c : Int) (h : GoodRenewals l) (_hc : I64 c) : Both (fun r => r.1.length ≤ 1048576) (fun k => spec_ShareRenewals.f k l c) (fun k => impl_ShareRenewals.f k l c) := by
  unfold spec_ShareRenewals.f impl_ShareRenewals.f
  obtain ⟨b, b1, b2, b3⟩ := valid_ev2 l h
  refine both_bindL b1 (both_bindR b2 ?_)
  cases b with
  | false => exact both_negL (by simp) (both_negR (by simp) (both_now _ (by simp)))
  | true =>
    refine both_posL rfl (both_posR rfl (both_bind0L (in_some _ _ _) (both_bind0R (within_some _ _ _) ?_)))
    cases hb : decide (1 ≤ c) && decide (c ≤ 4) with
    | false => exact both_negL (by simp) (both_negR (by simp) (both_now _ (by simp)))
    | true =>
      simp only [Bool.and_eq_true, decide_eq_true_eq] at hb
      obtain ⟨hl, hd⟩ := b3 rfl
      refine both_posL rfl (both_posR rfl (both_posL ⟨⟨hl, hd⟩, hb⟩ (both_posR ⟨⟨hl, hd⟩, hb⟩ ?_)))
      rw [shareSt_eq l c.toNat hd (by omega)]
      refine both_now _ ?_
      have := shareI_len l c.toNat l.length [] (List.replicate c.toNat 0) ([], -1) (by simp) (by simp; omega)
      unfold shareIst
      dsimp only
      omega
end Go.Proofs.YtkegmjebkikniaaB
