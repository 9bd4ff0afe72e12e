/- FnCrewShares: its plain statement: the least greatest sum of crews is one of a share of all pieces; it lies between the greatest piece and all, and one crew more never makes it greater. -/
import Derived.Test.YtkegmjebkikniaaRenCrew
import Derived.Test.YtkegmjebkikniaaRenDraw
import Derived.Test.YtkegmjebkikniaaPx0
import Derived.Test.YtkegmjebkikniaaPx22
import Derived.Test.YtkegmjebkikniaaPx35
import Derived.Test.YtkegmjebkikniaaPx36
namespace Go.Proofs.Ytkegmjebkikniaa.Pure
open Go.RowKit Go.Proofs.Ytkegmjebkikniaa.P Go.Proofs.YtkegmjebkikniaaW.PrintWords Go.Proofs.YtkegmjebkikniaaW.PrintLast Go.Proofs.YtkegmjebkikniaaB Go.Proofs.YtkegmjebkikniaaW.Hand

theorem ws {i : Int} (h0 : -9223372036854775808 ≤ i) (h1 : i ≤ 9223372036854775807) : wrap64 i = i := Go.Proofs.YtkegmjebkikniaaB.wrap_small h0 h1
theorem runC_le : ∀ (cs s ds : List Int) (M : Int), (∀ i : Nat, i < s.length → rd s (i : Int) ≤ M) → (∀ d ∈ ds, d ≤ 9) → ∀ i : Nat, i < s.length → rd (runC s ds cs) (i : Int) ≤ M + 9 * (cs.length : Int) := by
  intro cs
  induction cs with
  | nil => intro s ds M h _ i hi; rw [runC_nil]; simpa using h i hi
  | cons c cs ih =>
    intro s ds M h hd i hi
    cases ds with
    | nil =>
      have := h i hi
      show rd s (i : Int) ≤ _
      rw [List.length_cons]
      omega
    | cons d ds =>
      have hd0 := hd d (List.mem_cons_self ..)
      have := ih (s.set c.toNat (rd s c + d)) ds (M + 9) (fun j hj => by
        rw [List.length_set] at hj
        by_cases e : j = c.toNat
        · subst e
          rw [rd_set_at s _ _ hj]
          have := h c.toNat hj
          rw [rd_toNat] at this
          omega
        · rw [rd_set_ne s _ _ _ e]
          have := h j hj
          omega) (fun x hx => hd x (List.mem_cons_of_mem _ hx)) i (by rw [List.length_set]; exact hi)
      rw [runC, List.length_cons]
      omega
theorem mx_self (x : Int) : mx x x = x := by unfold mx; split <;> rfl
theorem mx_zero {x : Int} (h : 0 ≤ x) : mx 0 x = x := by unfold mx; split <;> omega
theorem fold_mx_le : ∀ (xs : List Int) (a t : Int), a ≤ t → (∀ x ∈ xs, x ≤ t) → xs.foldl mx a ≤ t := by
  intro xs
  induction xs with
  | nil => intro a t h _; exact h
  | cons x xs ih =>
    intro a t h hx
    rw [List.foldl_cons]
    refine ih _ _ ?_ (fun y hy => hx y (List.mem_cons_of_mem _ hy))
    have := hx x (List.mem_cons_self ..)
    unfold mx
    split <;> omega
theorem top_fold (s : List Int) (h : nonC s) (h0 : 0 < s.length) : s.foldl mx 0 = topC s := by
  cases s with
  | nil => simp at h0
  | cons x xs =>
    have hx : 0 ≤ x := h 0 (by simp)
    unfold topC maxTo
    rw [List.take_length, List.foldl_cons, List.foldl_cons, mx_zero hx]
    have : rd (x :: xs) 0 = x := rfl
    rw [this, mx_self]
theorem snoc_fold (p : List Int) (x : Int) : (p ++ [x]).foldl mx 0 = mx (p.foldl mx 0) x := by rw [List.foldl_append]; rfl
theorem sumC_snoc (p : List Int) (x : Int) : sumC (p ++ [x]) = sumC p + x := by
  induction p with
  | nil => show x + 0 = 0 + x; omega
  | cons y p ih => rw [List.cons_append, sumC_cons, sumC_cons, ih]; omega
theorem sumC_bound : ∀ (s : List Int) , (∀ x ∈ s, 0 ≤ x ∧ x ≤ 9) → 0 ≤ sumC s ∧ sumC s ≤ 9 * (s.length : Int) := by
  intro s
  induction s with
  | nil => intro _; exact ⟨Int.le_refl _, by show (0 : Int) ≤ 9 * ((0 : Nat) : Int); simp⟩
  | cons x s ih =>
    intro h
    have := h x (List.mem_cons_self ..)
    obtain ⟨h1, h2⟩ := ih (fun y hy => h y (List.mem_cons_of_mem _ hy))
    rw [sumC_cons, List.length_cons]
    omega
abbrev days (l : List R) : List Int := l.map fun x => x.f1
section
variable (l : List R) (hl : l.length ≤ 5) (hd : ∀ x ∈ days l, 1 ≤ x ∧ x ≤ 9)
include hl hd
omit hl hd in
theorem days_at (i : Nat) (h : i < l.length) : (rd_T55 l (i : Int)).f1 = rd (days l) (i : Int) := rd_days l (days l) rfl i h
omit hl in
theorem days_small (i : Nat) (h : i < l.length) : 1 ≤ rd (days l) (i : Int) ∧ rd (days l) (i : Int) ≤ 9 := by
  unfold rd
  rw [Int.toNat_natCast, List.getD_eq_getElem?_getD, List.getElem?_eq_getElem (by rw [List.length_map]; exact h)]
  exact hd _ (List.getElem_mem _)
omit hl in
theorem days_non : ∀ d ∈ days l, 0 ≤ d := fun d h => by have := hd d h; omega
theorem all_bound : 0 ≤ sumC (days l) ∧ sumC (days l) ≤ 45 := by
  have := sumC_bound (days l) (fun x hx => by have := hd x hx; omega)
  rw [List.length_map] at this
  omega
abbrev leastC (l : List R) (m : Nat) : Int := (shareIst l m).2
theorem least_all (m : Nat) (hm : 0 < m) : 0 ≤ leastC l m ∧ leastC l m ≤ 45 ∧ (∀ d ∈ days l, d ≤ leastC l m) ∧ sumC (days l) ≤ leastC l m * (m : Int) := by
  obtain ⟨h1, h2, h3, h4, _⟩ := shareIst_least l m (days l) rfl (days_non l hd) hm
  have hz : ∀ i : Nat, i < (List.replicate m (0 : Int)).length → rd (List.replicate m 0) (i : Int) ≤ 0 := fun i _ => by rw [rd_zero]; omega
  have hzn : nonC (List.replicate m 0) := fun i _ => by rw [rd_zero]; omega
  have hil : inC (List.replicate m (0 : Int)).length (shareIst l m).1 := by rw [List.length_replicate]; exact h2
  have hrl : (runC (List.replicate m 0) (days l) (shareIst l m).1).length = m := by rw [runC_len, List.length_replicate]
  have hll : (days l).length = l.length := List.length_map ..
  refine ⟨h4, ?_, fun d hx => ?_, ?_⟩
  · obtain ⟨i, hi, e⟩ := topC_at (runC (List.replicate m 0) (days l) (shareIst l m).1) (by omega)
    have := runC_le (shareIst l m).1 (List.replicate m 0) (days l) 0 hz (fun d hx => (hd d hx).2) i (by rw [List.length_replicate]; omega)
    show (shareIst l m).2 ≤ 45
    rw [h3, e]
    omega
  · show d ≤ (shareIst l m).2
    rw [h3]
    exact (runC_top _ _ _ hzn hil (days_non l hd)).2 (by omega) d hx
  · show _ ≤ (shareIst l m).2 * _
    have := sumC_le (runC (List.replicate m 0) (days l) (shareIst l m).1) (shareIst l m).2 (fun i hi => by rw [h3]; exact topC_ge _ i hi)
    rw [runC_sum _ _ _ h1 hil, sumC_zero, hrl] at this
    omega
omit hl in
theorem least_one : leastC l 1 = sumC (days l) := by
  obtain ⟨h1, h2, h3, h4, _⟩ := shareIst_least l 1 (days l) rfl (days_non l hd) (by omega)
  have hs := runC_sum (shareIst l 1).1 (List.replicate 1 0) (days l) h1 h2
  have hrl : (runC (List.replicate 1 0) (days l) (shareIst l 1).1).length = 1 := runC_len ..
  show (shareIst l 1).2 = _
  rw [h3]
  generalize runC (List.replicate 1 0) (days l) (shareIst l 1).1 = s at hs hrl ⊢
  cases s with
  | nil => simp at hrl
  | cons x s =>
    cases s with
    | cons _ _ => simp at hrl
    | nil =>
      have e : topC [x] = x := by
        obtain ⟨i, hi, e⟩ := topC_at [x] (by simp)
        have : i = 0 := by simp at hi; omega
        subst this
        exact e
      have e2 : sumC [x] = x := by show x + 0 = x; omega
      have e3 : sumC (List.replicate 1 0) = 0 := sumC_zero 1
      rw [e]
      rw [e2, e3] at hs
      omega
omit hl in
theorem least_mono (m : Nat) (hm : 0 < m) : leastC l (m + 1) ≤ leastC l m := by
  obtain ⟨h1, h2, h3, h4, _⟩ := shareIst_least l m (days l) rfl (days_non l hd) hm
  obtain ⟨_, _, _, _, g⟩ := shareIst_least l (m + 1) (days l) rfl (days_non l hd) (by omega)
  have := g (shareIst l m).1 h1 (fun x hx => by have := h2 x hx; omega)
  have e : List.replicate (m + 1) (0 : Int) = List.replicate m 0 ++ [0] := List.replicate_succ'
  rw [e, runC_more _ _ _ (by rw [List.length_replicate]; exact h2)] at this
  have hn : nonC (runC (List.replicate m 0) (days l) (shareIst l m).1) := runC_non _ _ _ (fun i _ => by rw [rd_zero]; omega) (days_non l hd)
  have h5 := topC_more _ hn (by rw [runC_len, List.length_replicate]; exact hm)
  show (shareIst l (m + 1)).2 ≤ (shareIst l m).2
  rw [h3]
  omega
omit hl hd in
theorem law_great (all top c most : Int) {r : Bool} (hc : 0 ≤ c) (hc2 : c ≤ 4) (hnext : Ev (fun k => laws_FnCrewShares.l1 k l all top most (c + 1)) r) (s : List Int) (hs : s.foldl mx 0 = most) (hsl : s.length ≤ 4) : ∀ (xs p : List Int), s = p ++ xs →
    Ev (fun k => laws_FnCrewShares.l3 k l all top c most s (p.foldl mx 0) (p.length : Int)) r := by
  intro xs
  induction xs with
  | nil =>
    intro p hp
    have e : s = p := by rw [hp, List.append_nil]
    rw [← e, hs]
    refine Ev.step (fun k => by rw [laws_FnCrewShares.l3]) (ev_neg (by omega) (ev_pos rfl ?_))
    rw [ws (i := c + 1) (by omega) (by omega)]
    exact hnext
  | cons x xs ih =>
    intro p hp
    have hq : (p.length : Int) + (xs.length + 1) = s.length := by rw [hp]; simp
    have hi := ih (p ++ [x]) (by rw [hp]; simp)
    rw [snoc_fold] at hi
    refine Ev.step (fun k => by rw [laws_FnCrewShares.l3]) (ev_pos (by omega) (ev_pos (by omega) ?_))
    have hr : rd s (p.length : Int) = x := by rw [hp]; exact rd_mid p x xs
    rw [hr, wrap_next p x (by omega)]
    exact hi
theorem law_sums (all top most : Int) (m : Nat) {r : Bool} (who : List Int) (hw : who.length = l.length) (hin : inC m who)
    (hnext : ∀ s, s = runC (List.replicate m 0) (days l) who → Ev (fun k => laws_FnCrewShares.l3 k l all top (m : Int) most s 0 0) r) : ∀ (xs p : List Int), who = p ++ xs →
    Ev (fun k => laws_FnCrewShares.l2 k l all top (m : Int) who most (runC (List.replicate m 0) (days l) p) (p.length : Int)) r := by
  intro xs
  induction xs with
  | nil =>
    intro p hp
    have e : who = p := by rw [hp, List.append_nil]
    exact Ev.step (fun k => by rw [laws_FnCrewShares.l2]) (ev_neg (by rw [e]; omega) (hnext _ (by rw [e])))
  | cons x xs ih =>
    intro p hp
    have hq : (p.length : Int) + (xs.length + 1) = who.length := by rw [hp]; simp
    obtain ⟨x0, x1⟩ := hin x (by rw [hp]; simp)
    have hi := ih (p ++ [x]) (by rw [hp]; simp)
    have hrl : (runC (List.replicate m 0) (days l) p).length = m := by rw [runC_len, List.length_replicate]
    have hr : rd who (p.length : Int) = x := by rw [hp]; exact rd_mid p x xs
    have hday := days_small l hd p.length (by omega)
    have hle := runC_le p (List.replicate m 0) (days l) 0 (fun i _ => by rw [rd_zero]; omega) (fun d hx => (hd d hx).2) x.toNat (by rw [List.length_replicate]; omega)
    have hge := nonC_rd (runC_non p (List.replicate m 0) (days l) (fun i _ => by rw [rd_zero]; omega) (days_non l hd)) x
    rw [rd_toNat] at hle
    rw [runC_snoc p _ _ x (by rw [List.length_map]; omega)] at hi
    refine Ev.step (fun k => by rw [laws_FnCrewShares.l2]) (ev_pos (by omega) (ev_pos (by omega) ?_))
    rw [hr]
    refine ev_neg (by omega) (ev_neg (by omega) (ev_pos x0 (ev_pos (by omega) (ev_pos (by omega) ?_))))
    rw [days_at l p.length (by omega), ws (i := rd (runC (List.replicate m 0) (days l) p) x + _) (by omega) (by omega), wrap_next p x (by omega)]
    exact hi
theorem law_crew (hok : okFrom [] l = true) (hg : GoodRenewals l) (top : Int) (htop : ∀ t, 0 ≤ t → (∀ d ∈ days l, d ≤ t) → top ≤ t) (m : Nat) (hm : 0 < m) (hm4 : m ≤ 4) (last : Int) (hlast : leastC l m ≤ last) {r : Bool}
    (hnext : Ev (fun k => laws_FnCrewShares.l1 k l (sumC (days l)) top (leastC l m) ((m : Int) + 1)) r) :
    Ev (fun k => laws_FnCrewShares.l1 k l (sumC (days l)) top last (m : Int)) r := by
  obtain ⟨h1, h2, h3, h4, _⟩ := shareIst_least l m (days l) rfl (days_non l hd) hm
  obtain ⟨g1, g2, g3, g4⟩ := least_all l hl hd m hm
  have hll : (days l).length = l.length := List.length_map ..
  have hv : Ev (fun k => impl_ShareRenewals.f k l (m : Int)) ((shareIst l m).1, leastC l m, 0) := by
    unfold impl_ShareRenewals.f
    have hb := impl_ok l hg.1 (good_sizes hg)
    rw [hok, decide_eq_true (by omega : (l.length : Int) ≤ 7)] at hb
    refine Ev.bind hb (ev_pos rfl (ev_bind0 (within_some _ _ _) (ev_pos (by simp; omega) (ev_pos ⟨⟨by omega, days_of_ok l [] hok⟩, by omega, by omega⟩ ?_))))
    rw [Int.toNat_natCast]
    exact Ev.now _
  refine Ev.step (fun k => by rw [laws_FnCrewShares.l1]) (ev_pos (by omega) (Ev.bind hv ?_))
  dsimp only
  refine ev_pos rfl (ev_pos (by omega) (ev_neg (by omega) (ev_neg (by have := htop (leastC l m) g1 g3; omega) ?_)))
  have hmul : leastC l m * (m : Int) ≤ 180 ∧ 0 ≤ leastC l m * (m : Int) := by
    constructor
    · have := Int.mul_le_mul g2 (show (m : Int) ≤ 4 by omega) (by omega) (by decide : (0 : Int) ≤ 45)
      omega
    · exact Int.mul_nonneg g1 (by omega)
  rw [ws (i := leastC l m * (m : Int)) (by omega) (by omega)]
  have hj : Ev (fun k => laws_FnCrewShares.j2 k l (sumC (days l)) top (m : Int) (shareIst l m).1 (leastC l m) false) r := by
    refine Ev.step (fun k => by rw [laws_FnCrewShares.j2]) (ev_neg (by simp) (ev_pos (by omega) (ev_pos (by omega) ?_)))
    rw [Int.toNat_natCast]
    have := law_sums l hl hd (sumC (days l)) top (leastC l m) m (shareIst l m).1 (by omega) h2 (r := r) (fun s es => by
      have hsl : s.length = m := by rw [es, runC_len, List.length_replicate]
      have hsn : nonC s := by rw [es]; exact runC_non _ _ _ (fun i _ => by rw [rd_zero]; omega) (days_non l hd)
      exact law_great l (sumC (days l)) top (m : Int) (leastC l m) (by omega) (by omega) hnext s (by rw [top_fold s hsn (by omega), es]; exact h3.symm) (by omega) s [] rfl) (shareIst l m).1 [] rfl
    rw [runC_nil] at this
    exact this
  refine ev_neg (by omega) ?_
  by_cases e : (m : Int) = 1
  · have e1 : m = 1 := by omega
    refine ev_pos e ?_
    subst e1
    have h5 := least_one l hd
    rw [show (leastC l 1 != sumC (days l)) = false by rw [h5]; simp]
    exact hj
  · exact ev_neg e hj
theorem law_days (hok : okFrom [] l = true) (hg : GoodRenewals l) : ∀ (xs p : List R), l = p ++ xs → Ev (fun k => laws_FnCrewShares.l0 k l (sumC (days p)) ((days p).foldl mx 0) (p.length : Int)) true := by
  intro xs
  induction xs with
  | nil =>
    intro p hp
    have e : l = p := by rw [hp, List.append_nil]
    rw [← e]
    refine Ev.step (fun k => by rw [laws_FnCrewShares.l0]) (ev_neg (by omega) ?_)
    have htop : ∀ t, 0 ≤ t → (∀ d ∈ days l, d ≤ t) → (days l).foldl mx 0 ≤ t := fun t h0 h => fold_mx_le _ _ _ h0 h
    have h5 : Ev (fun k => laws_FnCrewShares.l1 k l (sumC (days l)) ((days l).foldl mx 0) (leastC l 4) ((4 : Nat) + 1 : Int)) true :=
      Ev.step (fun k => by rw [laws_FnCrewShares.l1]) (ev_neg (by omega) (Ev.now _))
    have h4 := law_crew l hl hd hok hg _ htop 4 (by omega) (by omega) (leastC l 3) (least_mono l hd 3 (by omega)) h5
    have h3 := law_crew l hl hd hok hg _ htop 3 (by omega) (by omega) (leastC l 2) (least_mono l hd 2 (by omega)) h4
    have h2 := law_crew l hl hd hok hg _ htop 2 (by omega) (by omega) (leastC l 1) (least_mono l hd 1 (by omega)) h3
    exact law_crew l hl hd hok hg _ htop 1 (by omega) (by omega) (sumC (days l)) (by rw [least_one l hd]; omega) h2
  | cons x xs ih =>
    intro p hp
    have hq : (p.length : Int) + (xs.length + 1) = l.length := by rw [hp]; simp
    have hi := ih (p ++ [x]) (by rw [hp]; simp)
    have hr : rd_T55 l (p.length : Int) = x := by rw [hp]; exact rd55_mid p x xs
    have hx := hd x.f1 (by rw [hp]; simp)
    have hp9 := sumC_bound (days p) (fun y hy => by have := hd y (by rw [hp, days, List.map_append]; exact List.mem_append_left _ hy); omega)
    have hpl : (days p).length = p.length := List.length_map ..
    refine Ev.step (fun k => by rw [laws_FnCrewShares.l0]) (ev_pos (by omega) (ev_pos (by omega) ?_))
    rw [hr, ws (i := sumC (days p) + _) (by omega) (by omega), wrap_next p x (by omega)]
    have e1 : days (p ++ [x]) = days p ++ [x.f1] := List.map_append ..
    rw [e1, sumC_snoc, snoc_fold] at hi
    exact hi
end
theorem FnCrewShares : laws_FnCrewShares.Pure := by
  intro c hc _ hb
  refine Ev.rounds (g := fun k => laws_FnCrewShares.f k c) ?_
  unfold laws_FnCrewShares.f
  have h2 : laws_a2Long.f c [] = some (decide ((c.length : Int) > 3000)) := by
    unfold laws_a2Long.f
    by_cases h : (c.length : Int) > 3000
    · rw [if_pos h, decide_eq_true h]
    · rw [if_neg h, decide_eq_false h]
      simp
  refine ev_bind0 h2 (ev_ite (fun _ => Ev.now _) (fun _ => ?_))
  obtain ⟨l, e, hl, hn⟩ := draw_ev (code_of hb)
  refine Ev.bind e ?_
  exact law_days l hn (fun x hx => by
    obtain ⟨y, hy, rfl⟩ := List.mem_map.1 hx
    have := hl.fine y hy
    exact ⟨this.2.1, this.2.2.1⟩) hl.ok (drawn_good hl hn) l [] rfl
end Go.Proofs.Ytkegmjebkikniaa.Pure
