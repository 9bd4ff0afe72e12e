/- Gear: where a name is found; whether a part, and a list of them, is valid. -/
import Derived.Test.YtdbigcfpinpnpaaNames
import Derived.Test.YtdbigcfpinpnpaaTyGear
import Derived.Test.YtdbigcfpinpnpaaPx0
import Derived.Test.YtdbigcfpinpnpaaPx4
import Derived.Test.YtdbigcfpinpnpaaPx5
namespace Go.Proofs.YtdbigcfpinpnpaaB
open Go.RowKit Go.Proofs.YtdbigcfpinpnpaaW.PrintWords Go.Proofs.YtdbigcfpinpnpaaW.PrintLast Go.Proofs.Ytdbigcfpinpnpaa.P

abbrev G := S73
abbrev GoodGears (l : List G) : Prop := l.length ≤ 1048576 ∧ ∀ x ∈ l, GoodGear x
abbrev goG := impl_gearNamed.go
theorem goG_nil (a : ByteArray) (i : Int) : goG [] a i = -1 := rfl
theorem goG_cons (x : G) (xs : List G) (a : ByteArray) (i : Int) : goG (x :: xs) a i = if x.f0.toList = a.toList then i else goG xs a (i + 1) := rfl
theorem goG_range : ∀ (xs : List G) (a : ByteArray) (i : Int), goG xs a i = -1 ∨ (i ≤ goG xs a i ∧ goG xs a i < i + xs.length) := by
  intro xs
  induction xs with
  | nil => intro a i; exact .inl rfl
  | cons x xs ih =>
    intro a i
    rw [goG_cons, List.length_cons]
    have := ih a (i + 1)
    by_cases h : x.f0.toList = a.toList
    · rw [if_pos h]
      omega
    · rw [if_neg h]
      omega
theorem goG_append : ∀ (p q : List G) (a : ByteArray) (i : Int), 0 ≤ i → goG (p ++ q) a i = if goG p a i = -1 then goG q a (i + p.length) else goG p a i := by
  intro p
  induction p with
  | nil => intro q a i _; rw [goG_nil, if_pos rfl]; simp
  | cons x p ih =>
    intro q a i h0
    rw [List.cons_append, goG_cons, goG_cons]
    by_cases h : x.f0.toList = a.toList
    · rw [if_pos h, if_pos h, if_neg (by omega)]
    · rw [if_neg h, if_neg h, ih q a (i + 1) (by omega), List.length_cons]
      have e : i + 1 + (p.length : Int) = i + ((p.length + 1 : Nat) : Int) := by omega
      rw [e]
theorem goG_mid (p xs : List G) (x : G) : goG (p ++ x :: xs) x.f0 0 = (p.length : Int) ↔ goG p x.f0 0 = -1 := by
  rw [goG_append p (x :: xs) x.f0 0 (by omega)]
  have hr := goG_range p x.f0 0
  by_cases h : goG p x.f0 0 = -1
  · rw [if_pos h, goG_cons, if_pos rfl]
    exact ⟨fun _ => h, fun _ => by omega⟩
  · rw [if_neg h]
    exact ⟨fun h2 => by omega, fun h2 => absurd h2 h⟩
theorem find_loop (a : ByteArray) : ∀ (xs p : List G), p.length + xs.length ≤ 1048576 → Ev (fun k => spec_l21Find.l0 k (p ++ xs) a (p.length : Int)) (goG xs a (p.length : Int)) := by
  intro xs
  induction xs with
  | nil =>
    intro p _
    refine Ev.step (fun k => by rw [spec_l21Find.l0]) ?_
    exact ev_neg (not_lt_end p) (Ev.now _)
  | cons x xs ih =>
    intro p hl
    rw [List.length_cons] at hl
    have hw : wrap64 ((p.length : Int) + 1) = ((p ++ [x]).length : Int) := wrap_next p x (by omega)
    have hi := ih (p ++ [x]) (by rw [List.length_append]; simp; omega)
    have hz : ((p ++ [x]).length : Int) = (p.length : Int) + 1 := by simp
    refine Ev.step (fun k => by rw [spec_l21Find.l0]) ?_
    refine ev_pos (lt_mid p x xs) (ev_pos (Int.natCast_nonneg _) ?_)
    rw [rd73_mid, hw, push_mid p x xs]
    refine ev_ite (fun h => ?_) (fun h => ?_)
    · exact ev_of (Ev.now _) (by rw [goG_cons, if_pos h])
    · exact ev_of hi (by rw [goG_cons, if_neg h, hz])
theorem spec_find (l : List G) (a : ByteArray) (h : l.length ≤ 1048576) : Ev (fun k => spec_l21Find.f k l a) (goG l a 0) := by
  unfold spec_l21Find.f
  exact find_loop a l [] (by simp; omega)
theorem impl_find (l : List G) (a : ByteArray) : impl_gearNamed.f l a = some (goG l a 0) := rfl

def gearB (x : G) : Bool := nameB x.f0 && ((decide (0 ≤ x.f1) && decide (x.f1 ≤ 20000)) && ((decide (0 ≤ x.f2) && decide (x.f2 ≤ 1000)) && (decide (1 ≤ x.f3) && decide (x.f3 ≤ 1000000))))
/-- A part's numbers lie within their bounds. -/
def GearIn (x : G) : Prop := 0 ≤ x.f1 ∧ x.f1 ≤ 20000 ∧ 0 ≤ x.f2 ∧ x.f2 ≤ 1000 ∧ 1 ≤ x.f3 ∧ x.f3 ≤ 1000000
theorem gearB_in {x : G} (h : gearB x = true) : GearIn x := by
  simp [gearB] at h
  unfold GearIn
  omega
theorem day_some (a : Int) : spec_l21Day.f a = some (decide (0 ≤ a) && decide (a ≤ 20000)) := by
  unfold spec_l21Day.f
  rw [in_some]
  rfl
theorem spec_gear (x : G) (hs : x.f0.size ≤ 1048576) : Ev (fun k => spec_l21One.f k x.f0 x.f1 x.f2 x.f3) (gearB x) := by
  unfold spec_l21One.f gearB
  refine Ev.bind (spec_name x.f0 (max_of hs)) ?_
  cases nameB x.f0 with
  | false => exact ev_neg (by simp) (Ev.now _)
  | true =>
    refine ev_pos rfl (ev_bind0 (day_some _) ?_)
    cases decide (0 ≤ x.f1) && decide (x.f1 ≤ 20000) with
    | false => exact ev_neg (by simp) (Ev.now _)
    | true =>
      refine ev_pos rfl (ev_bind0 (in_some _ _ _) ?_)
      cases decide (0 ≤ x.f2) && decide (x.f2 ≤ 1000) with
      | false => exact ev_neg (by simp) (Ev.now _)
      | true => exact ev_pos rfl (ev_bind0 (in_some _ _ _) (Ev.now _))
theorem impl_gear (x : G) (hs : x.f0.size ≤ 1048576) : Ev (fun k => impl_validGear.f k x.f0 x.f1 x.f2 x.f3) (gearB x) := by
  unfold impl_validGear.f gearB
  refine Ev.bind (impl_name x.f0 (max_of hs)) ?_
  cases nameB x.f0 with
  | false => exact ev_neg (by simp) (Ev.now _)
  | true =>
    refine ev_pos rfl (ev_bind0 (within_some _ _ _) ?_)
    cases decide (0 ≤ x.f1) && decide (x.f1 ≤ 20000) with
    | false => exact ev_neg (by simp) (Ev.now _)
    | true =>
      refine ev_pos rfl (ev_bind0 (within_some _ _ _) ?_)
      cases decide (0 ≤ x.f2) && decide (x.f2 ≤ 1000) with
      | false => exact ev_neg (by simp) (Ev.now _)
      | true => exact ev_pos rfl (ev_bind0 (within_some _ _ _) (Ev.now _))
def GearsIn (l : List G) : Prop := (l.length : Int) ≤ 40 ∧ ∀ x ∈ l, GearIn x
theorem take_mid {α : Type} (p xs : List α) : (p ++ xs).take ((p.length : Int)).toNat = p := by simp
theorem gear_loop : ∀ (xs p : List G), p.length + xs.length ≤ 1048576 → (∀ x ∈ xs, GoodGear x) → ∃ r, Ev (fun k => spec_l21Ok.l0 k (p ++ xs) (p.length : Int)) r ∧
    (((p ++ xs).length : Int) ≤ 40 → Ev (fun k => impl_ValidGear.l0 k (p ++ xs) (p ++ xs) ((p ++ xs).length : Int) (p.length : Int)) r) ∧ (r = true → ((p ++ xs).length : Int) ≤ 40 ∧ ∀ x ∈ xs, GearIn x) := by
  intro xs
  induction xs with
  | nil =>
    intro p _ _
    refine ⟨decide (((p ++ []).length : Int) ≤ 40), ?_, fun h => ?_, fun h => ⟨of_decide_eq_true h, fun x hx => by simp at hx⟩⟩
    · refine Ev.step (fun k => by rw [spec_l21Ok.l0]) ?_
      exact ev_neg (not_lt_end p) (Ev.now _)
    · refine Ev.step (fun k => by rw [impl_ValidGear.l0]) ?_
      refine ev_neg (not_lt_end p) (ev_of (Ev.now _) ?_)
      rw [decide_eq_true h]
  | cons x xs ih =>
    intro p hl hs
    rw [List.length_cons] at hl
    have hw : wrap64 ((p.length : Int) + 1) = ((p ++ [x]).length : Int) := wrap_next p x (by omega)
    obtain ⟨r, h1, h2, h3⟩ := ih (p ++ [x]) (by rw [List.length_append]; simp; omega) (fun y hy => hs y (List.mem_cons_of_mem _ hy))
    rw [← push_mid p x xs] at h1 h2 h3
    have hx := hs x List.mem_cons_self
    have sA := spec_gear x hx.1
    have sB := impl_gear x hx.1
    cases hg : gearB x with
    | false =>
      rw [hg] at sA sB
      refine ⟨false, ?_, fun _ => ?_, fun h => by simp at h⟩
      · refine Ev.step (fun k => by rw [spec_l21Ok.l0]) ?_
        refine ev_pos (lt_mid p x xs) (ev_pos (Int.natCast_nonneg _) ?_)
        rw [rd73_mid]
        exact Ev.bind sA (ev_neg (by simp) (Ev.now _))
      · refine Ev.step (fun k => by rw [impl_ValidGear.l0]) ?_
        refine ev_pos (lt_mid p x xs) (ev_pos (Int.natCast_nonneg _) (ev_pos (lt_mid p x xs) ?_))
        rw [rd73_mid]
        exact Ev.bind sB (ev_neg (by simp) (Ev.now _))
    | true =>
      rw [hg] at sA sB
      have hf := spec_find (p ++ x :: xs) x.f0 (by rw [List.length_append, List.length_cons]; omega)
      have hr := goG_range p x.f0 0
      by_cases hn : goG p x.f0 0 = -1
      · refine ⟨r, ?_, fun hle => ?_, fun h => ⟨(h3 h).1, fun y hy => ?_⟩⟩
        · refine Ev.step (fun k => by rw [spec_l21Ok.l0]) ?_
          refine ev_pos (lt_mid p x xs) (ev_pos (Int.natCast_nonneg _) ?_)
          rw [rd73_mid, hw]
          exact Ev.bind sA (ev_pos rfl (Ev.bind hf (ev_pos ((goG_mid p xs x).2 hn) h1)))
        · refine Ev.step (fun k => by rw [impl_ValidGear.l0]) ?_
          refine ev_pos (lt_mid p x xs) (ev_pos (Int.natCast_nonneg _) (ev_pos (lt_mid p x xs) ?_))
          rw [rd73_mid, hw, take_mid]
          exact Ev.bind sB (ev_pos rfl (ev_pos (by have := lt_mid p x xs; omega) (ev_bind0 (impl_find p x.f0) (ev_neg (by omega) (h2 hle)))))
        · rcases List.mem_cons.1 hy with rfl | hy
          · exact gearB_in hg
          · exact (h3 h).2 y hy
      · refine ⟨false, ?_, fun _ => ?_, fun h => by simp at h⟩
        · refine Ev.step (fun k => by rw [spec_l21Ok.l0]) ?_
          refine ev_pos (lt_mid p x xs) (ev_pos (Int.natCast_nonneg _) ?_)
          rw [rd73_mid]
          exact Ev.bind sA (ev_pos rfl (Ev.bind hf (ev_neg (fun h => hn ((goG_mid p xs x).1 h)) (Ev.now _))))
        · refine Ev.step (fun k => by rw [impl_ValidGear.l0]) ?_
          refine ev_pos (lt_mid p x xs) (ev_pos (Int.natCast_nonneg _) (ev_pos (lt_mid p x xs) ?_))
          rw [rd73_mid, take_mid]
          exact Ev.bind sB (ev_pos rfl (ev_pos (by have := lt_mid p x xs; omega) (ev_bind0 (impl_find p x.f0) (ev_pos (by omega) (Ev.now _)))))
theorem gears_both (l : List G) (h : GoodGears l) : Both (fun r => r = true → GearsIn l) (fun k => spec_l21Ok.f k l) (fun k => impl_ValidGear.f k l) := by
  obtain ⟨r, h1, h2, h3⟩ := gear_loop l [] (by have := h.1; simp; omega) h.2
  unfold spec_l21Ok.f impl_ValidGear.f
  by_cases hle : (l.length : Int) ≤ 40
  · exact ⟨r, h1, ev_neg (by omega) (h2 hle), fun hr => h3 hr⟩
  · cases hr : r with
    | true => exact absurd (h3 hr).1 hle
    | false =>
      rw [hr] at h1
      exact ⟨false, h1, ev_pos (by omega) (Ev.now _), fun hf => by simp at hf⟩
theorem ValidGear_both (l : List G) (h : GoodGears l) : Both (fun _ => True) (fun k => spec_ValidGear.f k l) (fun k => impl_ValidGear.f k l) := by
  obtain ⟨r, h1, h2, _⟩ := gears_both l h
  unfold spec_ValidGear.f
  exact ⟨r, Ev.bind h1 (Ev.now _), h2, trivial⟩
end Go.Proofs.YtdbigcfpinpnpaaB
