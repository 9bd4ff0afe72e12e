/- A way to cut all pieces: whether there is one, and the first: of both. -/
import Derived.Test.YtbglfbmnibhgeaaCoilV
import Derived.Test.YtbglfbmnibhgeaaWantsV
import Derived.Test.YtbglfbmnibhgeaaPx19
import Derived.Test.YtbglfbmnibhgeaaPx22
import Derived.Test.YtbglfbmnibhgeaaPx23
import Derived.Test.YtbglfbmnibhgeaaPx24
namespace Go.Proofs.YtbglfbmnibhgeaaB
open Go.RowKit Go.Proofs.YtbglfbmnibhgeaaW.PrintWords Go.Proofs.YtbglfbmnibhgeaaW.PrintLast Go.Proofs.Ytbglfbmnibhgeaa.P

theorem spec_all (l : List C) (x : List W') (h : GoodCoils l) (hw : GoodWants x) : Ev (fun k => spec_l23All.f k l x) (if okCoils l = true ∧ okWants x = true then 0 else 1) := by
  unfold spec_l23All.f
  refine Ev.bind (spec_ok l h.1 (good_sizes h)) (ev_ite (fun h1 => Ev.bind (spec_wants x hw.1 (good_wsizes hw)) (ev_ite (fun h2 => ?_) (fun h2 => ?_))) (fun h1 => ?_))
  · exact ev_of (Ev.now _) (by rw [if_pos ⟨h1, h2⟩])
  · exact ev_of (Ev.now _) (by rw [if_neg (fun z => h2 z.2)])
  · exact ev_of (Ev.now _) (by rw [if_neg (fun z => h1 z.1)])
theorem few_of {l : List C} {x : List W'} (h1 : okCoils l = true) (h2 : okWants x = true) (h3 : l.length ≤ 7) (h4 : x.length ≤ 7) : fewC l x := by
  simp only [okCoils, Bool.and_eq_true, List.all_eq_true, coilB, rangeB, decide_eq_true_eq] at h1
  simp only [okWants, Bool.and_eq_true, List.all_eq_true, wantB, rangeB, decide_eq_true_eq] at h2
  exact ⟨h3, h4, fun c hc => by have := (h1.1 c hc).2; omega, fun c hc => by have := (h2.1 c hc).2; omega⟩
/-- The code of coils and pieces that are few enough. -/
def codeX (l : List C) (x : List W') : Int := if okCoils l = true ∧ okWants x = true then (if l.length ≤ 7 ∧ x.length ≤ 7 then 0 else 5) else 1
theorem spec_exactly (l : List C) (x : List W') (h : GoodCoils l) (hw : GoodWants x) : Ev (fun k => spec_l23Exactly.f k l x) (codeX l x) := by
  unfold spec_l23Exactly.f codeX
  refine Ev.bind (spec_all l x h hw) ?_
  by_cases h1 : okCoils l = true ∧ okWants x = true
  · rw [if_pos h1, if_pos h1]
    refine ev_pos rfl (ev_ite (fun h2 => ?_) (fun h2 => ev_ite (fun h3 => ?_) (fun h3 => ?_)))
    · exact ev_of (Ev.now _) (by rw [if_neg (by omega)])
    · exact ev_of (Ev.now _) (by rw [if_neg (by omega)])
    · exact ev_of (Ev.now _) (by rw [if_pos (by omega)])
  · rw [if_neg h1, if_neg h1]
    exact ev_neg (by decide) (Ev.now _)
theorem wayC_length : ∀ (x : List W') (l : List C) (r : List Int), wayC x l = some r → r.length = x.length := by
  intro x
  induction x with
  | nil => intro l r h; rw [wayC] at h; injection h with h; subst h; rfl
  | cons y x ih =>
    intro l r h
    rw [wayC] at h
    obtain ⟨k, hk, h2⟩ := List.exists_of_findSome?_eq_some h
    split at h2
    · obtain ⟨q, hq, rfl⟩ := Option.map_eq_some_iff.1 h2
      rw [List.length_cons, List.length_cons, ih _ _ hq]
    · cases h2
def wayR (l : List C) (x : List W') : List Int × Int := if codeX l x = 0 then (match wayC x l with | none => ([], 3) | some r => (r, 0)) else ([], codeX l x)
theorem impl_exactly (l : List C) (x : List W') (h : GoodCoils l) (hw : GoodWants x) : Ev (fun k => impl_CutExactly.f k l x) (wayR l x) := by
  have bad : ∀ n : Int, codeX l x = n → n ≠ 0 → wayR l x = ([], n) := fun n hn h0 => by
    unfold wayR
    rw [hn, if_neg h0]
  unfold impl_CutExactly.f
  refine Ev.bind (impl_ok l h.1 (good_sizes h)) (ev_ite (fun h1 => Ev.bind (impl_wants x hw.1 (good_wsizes hw)) (ev_ite (fun h2 => ev_ite (fun h3 => ev_ite (fun h4 => ?_) (fun h4 => ?_)) (fun h3 => ?_)) (fun h2 => ?_))) (fun h1 => ?_))
  · have hc : codeX l x = 0 := by
      unfold codeX
      rw [if_pos (And.intro h1 h2), if_pos (And.intro h3 h4)]
    refine ev_pos (few_of h1 h2 h3 h4) (ev_of (Ev.now _) ?_)
    unfold wayR
    rw [if_pos hc]
    cases wayC x l <;> rfl
  · refine ev_of (Ev.now _) (bad 5 ?_ (by decide)).symm
    unfold codeX
    rw [if_pos (And.intro h1 h2), if_neg (fun z => h4 z.2)]
  · refine ev_of (Ev.now _) (bad 5 ?_ (by decide)).symm
    unfold codeX
    rw [if_pos (And.intro h1 h2), if_neg (fun z => h3 z.1)]
  · refine ev_of (Ev.now _) (bad 1 ?_ (by decide)).symm
    unfold codeX
    rw [if_neg (fun z => h2 z.2)]
  · refine ev_of (Ev.now _) (bad 1 ?_ (by decide)).symm
    unfold codeX
    rw [if_neg (fun z => h1 z.1)]
theorem few_code {l : List C} {x : List W'} (h : codeX l x = 0) : fewC l x := by
  unfold codeX at h
  split at h
  · rename_i h1
    split at h
    · rename_i h2
      exact few_of h1.1 h1.2 h2.1 h2.2
    · cases h
  · cases h
theorem way_f {l : List C} {x : List W'} (hf : fewC l x) : spec_l23Way.f l x = some (match wayC x l with | none => ([], false) | some r => (r, true)) := by
  unfold spec_l23Way.f
  rw [if_pos hf]
  cases wayC x l <;> rfl
theorem CutExactly_both (l : List C) (x : List W') (h : GoodCoils l) (hw : GoodWants x) : Both (fun r => r.1.length ≤ 1048576) (fun k => spec_CutExactly.f k l x) (fun k => impl_CutExactly.f k l x) := by
  refine both_of (r := wayR l x) ?_ (impl_exactly l x h hw) ?_
  · unfold spec_CutExactly.f wayR
    refine Ev.bind (spec_exactly l x h hw) (ev_ite (fun hc => ?_) (fun hc => ?_))
    · rw [if_pos hc]
      refine ev_bind0 (way_f (few_code hc)) ?_
      cases wayC x l with
      | none => exact ev_neg (by decide) (Ev.now _)
      | some r => exact ev_pos rfl (Ev.now _)
    · rw [if_neg hc]
      exact Ev.now _
  · unfold wayR
    split
    · rename_i hc
      have hf := few_code hc
      cases hq : wayC x l with
      | none => simp
      | some r =>
        have := wayC_length x l r hq
        have := hf.2.1
        simp only
        omega
    · simp
theorem CanCutAll_both (l : List C) (x : List W') (h : GoodCoils l) (hw : GoodWants x) : Both (fun _ => True) (fun k => spec_CanCutAll.f k l x) (fun k => impl_CanCutAll.f k l x) := by
  unfold spec_CanCutAll.f impl_CanCutAll.f
  refine both_bindR (impl_exactly l x h hw) (both_bindL (spec_exactly l x h hw) ?_)
  by_cases hc : codeX l x = 0
  · refine both_posL hc (both_bind0L (way_f (few_code hc)) ?_)
    have e : wayR l x = (match wayC x l with | none => ([], 3) | some r => (r, 0)) := by unfold wayR; rw [if_pos hc]
    rw [e]
    cases wayC x l with
    | none => exact both_negR (by decide) (both_posR rfl (both_now (P := fun _ => True) _ trivial))
    | some r => exact both_posR rfl (both_now (P := fun _ => True) _ trivial)
  · have e : wayR l x = ([], codeX l x) := by unfold wayR; rw [if_neg hc]
    rw [e]
    refine both_negL hc (both_negR hc (both_negR (fun z => ?_) (both_now (P := fun _ => True) _ trivial)))
    unfold codeX at z
    split at z
    · split at z <;> cases z
    · cases z
end Go.Proofs.YtbglfbmnibhgeaaB
