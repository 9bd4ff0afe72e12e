/- Inspections: whether a list of them is valid for a list of gear, of both; what holds of a valid one. -/
import Derived.Test.YtdbigcfpinpnpaaGearV
import Derived.Test.YtdbigcfpinpnpaaTyCheck
import Derived.Test.YtdbigcfpinpnpaaPx0
import Derived.Test.YtdbigcfpinpnpaaPx6
import Derived.Test.YtdbigcfpinpnpaaPx7
namespace Go.Proofs.YtdbigcfpinpnpaaB
open Go.RowKit Go.Proofs.YtdbigcfpinpnpaaW.PrintWords Go.Proofs.YtdbigcfpinpnpaaW.PrintLast Go.Proofs.Ytdbigcfpinpnpaa.P

abbrev K := S53
abbrev GoodChecks (l : List K) : Prop := l.length ≤ 1048576 ∧ ∀ x ∈ l, GoodCheck x
def checkB (l : List G) (x : K) : Bool := decide (0 ≤ goG l x.f0 0) && ((decide ((rd_T73 l (goG l x.f0 0)).f1 ≤ x.f1) && decide (x.f1 ≤ 20000)) && (decide (0 ≤ x.f2) && decide (x.f2 ≤ 1000000)))
theorem spec_check (l : List G) (x : K) (h : l.length ≤ 1048576) : Ev (fun k => spec_l21Check.f k l x.f0 x.f1 x.f2) (checkB l x) := by
  unfold spec_l21Check.f checkB
  refine Ev.bind (spec_find l x.f0 h) ?_
  have hr := goG_range l x.f0 0
  by_cases h0 : 0 ≤ goG l x.f0 0
  · rw [decide_eq_true h0]
    refine ev_pos h0 (ev_pos h0 (ev_pos (by omega) (ev_bind0 (in_some _ _ _) ?_)))
    cases decide ((rd_T73 l (goG l x.f0 0)).f1 ≤ x.f1) && decide (x.f1 ≤ 20000) with
    | false => exact ev_neg (by simp) (Ev.now _)
    | true => exact ev_pos rfl (ev_bind0 (in_some _ _ _) (Ev.now _))
  · rw [decide_eq_false h0]
    exact ev_neg h0 (Ev.now _)
theorem impl_check (l : List G) (x : K) : impl_isCheck.f l x.f0 x.f1 x.f2 = some (checkB l x) := by
  unfold impl_isCheck.f checkB
  rw [impl_find]
  simp only [Option.bind_some]
  have hr := goG_range l x.f0 0
  by_cases h0 : 0 ≤ goG l x.f0 0
  · rw [if_pos h0, if_pos h0, if_pos (by omega), within_some, decide_eq_true h0]
    simp only [Option.bind_some]
    cases decide ((rd_T73 l (goG l x.f0 0)).f1 ≤ x.f1) && decide (x.f1 ≤ 20000) with
    | false => rfl
    | true =>
      rw [if_pos rfl, within_some]
      rfl
  · rw [if_neg h0, decide_eq_false h0]
    rfl
/-- An inspection's numbers lie within their bounds. -/
def CheckIn (x : K) : Prop := 0 ≤ x.f1 ∧ x.f1 ≤ 20000 ∧ 0 ≤ x.f2 ∧ x.f2 ≤ 1000000
theorem checkB_in {l : List G} {x : K} (hl : ∀ y ∈ l, GearIn y) (h : checkB l x = true) : CheckIn x := by
  simp only [checkB, Bool.and_eq_true, decide_eq_true_eq] at h
  obtain ⟨h0, ⟨h1, h2⟩, h3, h4⟩ := h
  have hr := goG_range l x.f0 0
  have hlt : (goG l x.f0 0).toNat < l.length := by omega
  have hm : rd_T73 l (goG l x.f0 0) ∈ l := by
    unfold rd_T73
    rw [List.getD_eq_getElem?_getD, List.getElem?_eq_getElem hlt]
    exact List.getElem_mem hlt
  have := (hl _ hm).1
  exact ⟨by omega, h2, h3, h4⟩
/-- Of two inspections of one part the later one's day is greater, its wear not less. -/
def Later (y x : K) : Prop := y.f0.toList = x.f0.toList → y.f1 < x.f1 ∧ y.f2 ≤ x.f2
/-- No day behind is greater than the last one. -/
def Risen (p : List K) : Prop := ∀ y ∈ p, ∀ z, p.getLast? = some z → y.f1 ≤ z.f1

theorem inner_both (g : List G) (x : K) (p xs : List K) (P : Bool → Prop) (hl : p.length + xs.length ≤ 1048576)
    (hd : ∀ y ∈ p, y.f1 ≤ x.f1) (hn : Both P (fun k => spec_l21Checks.l0 k g (p ++ x :: xs) ((p.length : Int) + 1)) (fun k => impl_areChecks.l0 k g (p ++ x :: xs) (p ++ x :: xs) ((p ++ x :: xs).length : Int) ((p.length : Int) + 1)))
    (hf : P false) : ∀ (b a : List K), p = a ++ b →
    Both (fun r => P r ∧ (r = true → ∀ y ∈ b, Later y x)) (fun k => spec_l21Checks.l1 k g (p ++ x :: xs) (p.length : Int) (a.length : Int))
      (fun k => impl_areChecks.l1 k g (p ++ x :: xs) (p ++ x :: xs) ((p ++ x :: xs).length : Int) (p.length : Int) p (p.length : Int) (a.length : Int) x.f0 x.f1 x.f2) := by
  intro b
  induction b with
  | nil =>
    intro a hp
    have e : (a.length : Int) = (p.length : Int) := by rw [hp]; simp
    have hw : wrap64 ((p.length : Int) + 1) = (p.length : Int) + 1 := wrap_small (by omega) (by omega)
    refine both_step (fun k => by rw [spec_l21Checks.l1]) (fun k => by rw [impl_areChecks.l1]) ?_
    refine both_negL (by omega) (both_negR (by omega) ?_)
    rw [hw]
    exact both_imp hn (fun r hr => ⟨hr, fun _ y hy => by simp at hy⟩)
  | cons y b ih =>
    intro a hp
    have hlp : (p.length : Int) = a.length + (b.length + 1) := by rw [hp]; simp
    have hw : wrap64 ((a.length : Int) + 1) = ((a ++ [y]).length : Int) := wrap_next a y (by omega)
    have hi := ih (a ++ [y]) (by rw [hp]; simp)
    have hL : ((p ++ x :: xs).length : Int) = p.length + (xs.length + 1) := by simp
    have r1 : rd_T53 (p ++ x :: xs) (a.length : Int) = y := by
      rw [hp, List.append_assoc, List.cons_append]
      exact rd53_mid a y (b ++ x :: xs)
    have r2 : rd_T53 (p ++ x :: xs) (p.length : Int) = x := rd53_mid p x xs
    have r3 : rd_T53 p (a.length : Int) = y := by
      rw [hp]
      exact rd53_mid a y b
    have hy : y ∈ p := by rw [hp]; simp
    have hdy := hd y hy
    have more : Both (fun r => P r ∧ (r = true → ∀ z ∈ b, Later z x)) (fun k => spec_l21Checks.l1 k g (p ++ x :: xs) (p.length : Int) (wrap64 ((a.length : Int) + 1))) (fun k => impl_areChecks.l1 k g (p ++ x :: xs) (p ++ x :: xs) ((p ++ x :: xs).length : Int) (p.length : Int) p (p.length : Int) (wrap64 ((a.length : Int) + 1)) x.f0 x.f1 x.f2) := by
      rw [hw]
      exact hi
    have no : Both (fun r => P r ∧ (r = true → ∀ z ∈ y :: b, Later z x)) (fun _ => some false) (fun _ => some false) := both_now _ ⟨hf, fun h => by simp at h⟩
    refine both_step (fun k => by rw [spec_l21Checks.l1]) (fun k => by rw [impl_areChecks.l1]) ?_
    refine both_posL (by omega) (both_posL (by omega) (both_posL (by omega) (both_posL (by omega) (both_posL (by omega) (both_posR (by omega) (both_posR (by omega) (both_posR (by omega) ?_)))))))
    rw [r1, r2, r3]
    refine both_ite (fun hq => ?_) (fun hq => both_imp more (fun r hr => ⟨hr.1, fun h z hz => ?_⟩))
    · by_cases h1 : y.f1 = x.f1
      · exact both_posL h1 (both_posR (by omega) no)
      · refine both_negL h1 (both_negR (by omega) ?_)
        by_cases h2 : y.f2 > x.f2
        · exact both_posL h2 (both_posR (by omega) no)
        · refine both_negL h2 (both_negR (by omega) (both_imp more (fun r hr => ⟨hr.1, fun h z hz => ?_⟩)))
          rcases List.mem_cons.1 hz with rfl | hz
          · intro _
            exact ⟨by omega, by omega⟩
          · exact hr.2 h z hz
    · rcases List.mem_cons.1 hz with rfl | hz
      · intro he
        exact absurd he hq
      · exact hr.2 h z hz

theorem last_cases {α : Type} (p : List α) : p = [] ∨ ∃ q z, p = q ++ [z] := by
  rcases List.eq_nil_or_concat p with h | ⟨q, z, h⟩
  · exact .inl h
  · exact .inr ⟨q, z, by simpa using h⟩
theorem checks_loop (g : List G) (hg : g.length ≤ 1048576) (hgi : ∀ y ∈ g, GearIn y) : ∀ (xs p : List K), p.length + xs.length ≤ 1048576 → Risen p →
    Both (fun r => r = true → (∀ x ∈ xs, CheckIn x) ∧ (p.Pairwise Later → (p ++ xs).Pairwise Later)) (fun k => spec_l21Checks.l0 k g (p ++ xs) (p.length : Int)) (fun k => impl_areChecks.l0 k g (p ++ xs) (p ++ xs) ((p ++ xs).length : Int) (p.length : Int)) := by
  intro xs
  induction xs with
  | nil =>
    intro p _ _
    refine both_step (fun k => by rw [spec_l21Checks.l0]) (fun k => by rw [impl_areChecks.l0]) ?_
    exact both_negL (not_lt_end p) (both_negR (not_lt_end p) (both_now _ (fun _ => ⟨fun x hx => by simp at hx, fun h => by simpa using h⟩)))
  | cons x xs ih =>
    intro p hl hp
    rw [List.length_cons] at hl
    have hz : ((p ++ [x]).length : Int) = (p.length : Int) + 1 := by simp
    have no : Both (fun r => r = true → (∀ y ∈ x :: xs, CheckIn y) ∧ (p.Pairwise Later → (p ++ x :: xs).Pairwise Later)) (fun _ => some false) (fun _ => some false) := both_now _ (fun h => by simp at h)
    have sA := spec_check g x hg
    have sB := impl_check g x
    refine both_step (fun k => by rw [spec_l21Checks.l0]) (fun k => by rw [impl_areChecks.l0]) ?_
    refine both_posL (lt_mid p x xs) (both_posL (Int.natCast_nonneg _) (both_posR (lt_mid p x xs) (both_posR (Int.natCast_nonneg _) (both_posR (lt_mid p x xs) ?_))))
    rw [rd53_mid]
    refine both_bindL sA (both_bind0R sB ?_)
    cases hc : checkB g x with
    | false =>
      refine both_negL (by simp) (both_negR (by simp) ?_)
      exact both_step (fun k => by rw [spec_l21Checks.j2]) (fun k => by rw [impl_areChecks.j1]) (both_posL rfl (both_posR rfl no))
    | true =>
      refine both_posL rfl (both_posR rfl ?_)
      have hin := checkB_in hgi hc
      -- what follows where no day behind is greater
      have on : (∀ y ∈ p, y.f1 ≤ x.f1) → Both (fun r => r = true → (∀ y ∈ x :: xs, CheckIn y) ∧ (p.Pairwise Later → (p ++ x :: xs).Pairwise Later)) (fun k => spec_l21Checks.j2 k g (p ++ x :: xs) (p.length : Int) false) (fun k => impl_areChecks.j1 k g (p ++ x :: xs) (p.length : Int) (p ++ x :: xs) ((p ++ x :: xs).length : Int) (p.length : Int) false x.f0 x.f1 x.f2) := by
        intro hd
        have hr : Risen (p ++ [x]) := by
          intro y hy z hz
          rw [List.getLast?_append] at hz
          simp at hz
          subst hz
          rcases List.mem_append.1 hy with hy | hy
          · exact hd y hy
          · simp at hy
            subst hy
            exact Int.le_refl _
        have hi := ih (p ++ [x]) (by rw [List.length_append]; simp; omega) hr
        rw [← push_mid p x xs, hz] at hi
        have hin2 := inner_both g x p xs _ (by omega) hd hi (fun h => by simp at h) p [] rfl
        have hlt := lt_mid p x xs
        refine both_step (fun k => by rw [spec_l21Checks.j2]) (fun k => by rw [impl_areChecks.j1]) ?_
        refine both_negL (by simp) (both_negR (by simp) (both_posR (Int.natCast_nonneg _) (both_posR (by omega) ?_)))
        rw [take_mid]
        refine both_imp hin2 (fun r hr2 h => ?_)
        obtain ⟨h3, h4⟩ := hr2
        obtain ⟨h5, h6⟩ := h3 h
        refine ⟨fun y hy => ?_, fun hpw => ?_⟩
        · rcases List.mem_cons.1 hy with rfl | hy
          · exact hin
          · exact h5 y hy
        · rw [push_mid p x xs]
          rw [push_mid p x xs] at h6
          refine h6 (List.pairwise_append.2 ⟨hpw, List.pairwise_singleton _ _, fun y hy z hz => ?_⟩)
          simp at hz
          subst hz
          exact h4 h y hy
      rcases last_cases p with rfl | ⟨q, z, rfl⟩
      · exact both_negL (by simp) (both_negR (by simp) (on (fun y hy => by simp at hy)))
      · have hw : wrap64 (((q ++ [z]).length : Int) - 1) = (q.length : Int) := by
          have e : ((q ++ [z]).length : Int) = q.length + 1 := by simp
          rw [wrap_small (by omega) (by omega)]
          omega
        have hr1 : rd_T53 (q ++ [z] ++ x :: xs) (q.length : Int) = z := by
          rw [List.append_assoc]
          exact rd53_mid q z (x :: xs)
        have hlt : (q.length : Int) < ((q ++ [z] ++ x :: xs).length : Int) := by simp; omega
        have e : ((q ++ [z]).length : Int) = q.length + 1 := by simp
        refine both_posL (by omega) (both_posR (by omega) ?_)
        rw [hw]
        refine both_posL (Int.natCast_nonneg _) (both_posL hlt (both_posR (Int.natCast_nonneg _) (both_posR hlt ?_)))
        rw [hr1]
        by_cases hzx : z.f1 > x.f1
        · rw [decide_eq_true hzx]
          exact both_step (fun k => by rw [spec_l21Checks.j2]) (fun k => by rw [impl_areChecks.j1]) (both_posL rfl (both_posR rfl no))
        · rw [decide_eq_false hzx]
          refine on (fun y hy => ?_)
          have := hp y hy z (by simp)
          omega
def ChecksIn (l : List K) : Prop := (l.length : Int) ≤ 60 ∧ (∀ x ∈ l, CheckIn x) ∧ l.Pairwise Later
/-- What both say of a list of inspections, for gear that is valid. -/
theorem are_both (g : List G) (l : List K) (hg : g.length ≤ 1048576) (hgi : ∀ y ∈ g, GearIn y) (hl : l.length ≤ 1048576) :
    Both (fun r => r = true → ChecksIn l) (fun k => spec_l21Checks.j0 k g l (decide ((l.length : Int) > 60))) (fun k => impl_areChecks.f k g l) := by
  unfold impl_areChecks.f
  refine both_stepL (fun k => by rw [spec_l21Checks.j0]) ?_
  by_cases h : (l.length : Int) > 60
  · rw [decide_eq_true h]
    exact both_posL rfl (both_posR h (both_now _ (fun h => by simp at h)))
  · rw [decide_eq_false h]
    refine both_negL (by simp) (both_negR h ?_)
    refine both_imp (checks_loop g hg hgi l [] (by simp; omega) (fun y hy => by simp at hy)) (fun r hr h2 => ?_)
    obtain ⟨h3, h4⟩ := hr h2
    exact ⟨by omega, h3, h4 List.Pairwise.nil⟩
theorem checks_both (g : List G) (l : List K) (hg : GoodGears g) (hl : GoodChecks l) :
    Both (fun r => r = true → GearsIn g ∧ ChecksIn l) (fun k => spec_l21Checks.f k g l) (fun k => impl_ValidChecks.f k g l) := by
  unfold spec_l21Checks.f impl_ValidChecks.f
  refine both_bind (gears_both g hg) (fun r hr => ?_)
  refine both_ite (fun h => ?_) (fun h => ?_)
  · have hi := hr h
    obtain ⟨q, h1, h2, h3⟩ := are_both g l hg.1 hi.2 hl.1
    exact ⟨q, h1, Ev.bind h2 (Ev.now _), fun hq => ⟨hi, h3 hq⟩⟩
  · refine both_stepL (fun k => by rw [spec_l21Checks.j0]) ?_
    exact both_posL rfl (both_now _ (fun h => by simp at h))
theorem ValidChecks_both (g : List G) (l : List K) (hg : GoodGears g) (hl : GoodChecks l) : Both (fun _ => True) (fun k => spec_ValidChecks.f k g l) (fun k => impl_ValidChecks.f k g l) := by
  obtain ⟨r, h1, h2, _⟩ := checks_both g l hg hl
  unfold spec_ValidChecks.f
  exact ⟨r, Ev.bind h1 (Ev.now _), h2, trivial⟩
end Go.Proofs.YtdbigcfpinpnpaaB
