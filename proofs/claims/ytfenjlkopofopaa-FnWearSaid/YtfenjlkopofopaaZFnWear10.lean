/- Texts of this claim, packed: GearLaw, Src, SrcMore. -/
import Derived.Laws.BitsLemmas
import Derived.Test.YtfenjlkopofopaaZFnWear9
section
/- What wear comes to: told plainly. -/
namespace Go.Proofs.YtfenjlkopofopaaB
open Go.RowKit Go.Proofs.YtfenjlkopofopaaW.PrintWords Go.Proofs.YtfenjlkopofopaaW.PrintLast Go.Proofs.Ytfenjlkopofopaa.P

theorem ev_one {α : Type} {A : Nat → Option α} {r q : α} (h : Ev A r) (h2 : Ev A q) : r = q := by
  obtain ⟨a, ha⟩ := h
  obtain ⟨b, hb⟩ := h2
  have h3 := ha (a + b) (by omega)
  rw [hb (a + b) (by omega)] at h3
  exact (Option.some.inj h3).symm
/-! ### each part has a name of its own -/
def gearsB : List G → List G → Bool
  | p, [] => decide ((p.length : Int) ≤ 40)
  | p, x :: xs => gearB x && (decide (goG p x.f0 0 = -1) && gearsB (p ++ [x]) xs)
theorem gearsB_loop : ∀ (xs p : List G), p.length + xs.length ≤ 1048576 → (∀ x ∈ xs, GoodGear x) → Ev (fun k => spec_l21Ok.l0 k (p ++ xs) (p.length : Int)) (gearsB p xs) := by
  intro xs
  induction xs with
  | nil =>
    intro p _ _
    refine Ev.step (fun k => by rw [spec_l21Ok.l0]) ?_
    exact ev_neg (not_lt_end p) (ev_of (Ev.now _) (by rw [List.append_nil]; rfl))
  | cons x xs ih =>
    intro p hl hs
    rw [List.length_cons] at hl
    have hw : wrap64 ((p.length : Int) + 1) = ((p ++ [x]).length : Int) := wrap_next p x (by omega)
    have h1 := ih (p ++ [x]) (by rw [List.length_append]; simp; omega) (fun y hy => hs y (List.mem_cons_of_mem _ hy))
    rw [← push_mid p x xs] at h1
    have sA := spec_gear x (hs x List.mem_cons_self).1
    have hf := spec_find (p ++ x :: xs) x.f0 (by rw [List.length_append, List.length_cons]; omega)
    refine Ev.step (fun k => by rw [spec_l21Ok.l0]) ?_
    refine ev_pos (lt_mid p x xs) (ev_pos (Int.natCast_nonneg _) ?_)
    rw [rd72_mid, hw, gearsB]
    cases hg : gearB x with
    | false => rw [hg] at sA; exact Ev.bind sA (ev_neg (by simp) (Ev.now _))
    | true =>
      rw [hg] at sA
      refine Ev.bind sA (ev_pos rfl (Ev.bind hf ?_))
      by_cases hn : goG p x.f0 0 = -1
      · rw [decide_eq_true hn]
        exact ev_pos ((goG_mid p xs x).2 hn) h1
      · rw [decide_eq_false hn]
        exact ev_neg (fun h => hn ((goG_mid p xs x).1 h)) (Ev.now _)
theorem gearsB_names : ∀ (xs p : List G), gearsB p xs = true → ∀ (q : List G) (y : G) (zs : List G), p ++ xs = q ++ y :: zs → p.length ≤ q.length → goG (p ++ xs) y.f0 0 = (q.length : Int) := by
  intro xs
  induction xs with
  | nil =>
    intro p _ q y zs h hq
    have := congrArg List.length h
    simp at this
    omega
  | cons x xs ih =>
    intro p h q y zs he hq
    rw [gearsB, Bool.and_eq_true, Bool.and_eq_true] at h
    by_cases h1 : p.length = q.length
    · have h2 := List.append_inj he h1
      obtain ⟨rfl, h3⟩ := h2
      injection h3 with h3 h4
      subst h3 h4
      exact (goG_mid p xs x).2 (of_decide_eq_true h.2.1)
    · rw [push_mid p x xs] at he ⊢
      exact ih (p ++ [x]) h.2.2 q y zs he (by simp; omega)
/-- Where the gear is valid, its names are apart. -/
def Names (g : List G) : Prop := ∀ (q : List G) (y : G) (zs : List G), g = q ++ y :: zs → goG g y.f0 0 = (q.length : Int)
theorem names_of {g : List G} {l : List K} (hg : GoodGears g) (h : Ev (fun k => spec_l21Checks.f k g l) true) : Names g := by
  have h1 : Ev (fun k => spec_l21Ok.f k g) (gearsB [] g) := by
    unfold spec_l21Ok.f
    exact gearsB_loop g [] (by have := hg.1; simp; omega) hg.2
  cases hb : gearsB [] g with
  | true =>
    intro q y zs he
    have := gearsB_names g [] hb q y zs he (by simp)
    exact this
  | false =>
    rw [hb] at h1
    have : Ev (fun k => spec_l21Checks.f k g l) false := by
      unfold spec_l21Checks.f
      exact Ev.bind h1 (ev_neg (by simp) (Ev.step (fun k => by rw [spec_l21Checks.j0]) (ev_pos rfl (Ev.now _))))
    have := ev_one h this
    simp at this
theorem goG_name : ∀ (g : List G) (a : ByteArray) (i : Int), 0 ≤ i → goG g a i ≠ -1 → ∃ q y zs, g = q ++ y :: zs ∧ goG g a i = i + (q.length : Int) ∧ y.f0.toList = a.toList
  | [], a, i, _, h => absurd (goG_nil a i) h
  | x :: g, a, i, h0, h => by
    rw [goG_cons] at h ⊢
    by_cases hx : x.f0.toList = a.toList
    · rw [if_pos hx]; exact ⟨[], x, g, rfl, by simp, hx⟩
    · rw [if_neg hx] at h ⊢
      obtain ⟨q, y, zs, h1, h2, h3⟩ := goG_name g a (i + 1) (by omega) h
      exact ⟨x :: q, y, zs, by rw [h1]; rfl, by rw [h2]; simp; omega, h3⟩
theorem rdG_goG {g : List G} {a : ByteArray} (h : ¬ goG g a 0 < 0) : rd_T72 g (goG g a 0) ∈ g ∧ (rd_T72 g (goG g a 0)).f0 = a := by
  obtain ⟨q, y, zs, h1, h2, h3⟩ := goG_name g a 0 (by omega) (by omega)
  have e : rd_T72 g (goG g a 0) = y := by
    rw [h2, Int.zero_add, h1]
    exact rd72_mid q y zs
  rw [e]
  exact ⟨by rw [h1]; simp, toList_inj h3⟩
/-! ### WearOn, DayOfEnd, WornOn, NextToFail -/
def wearOnV (r : Bool) (g : List G) (l : List K) (a : ByteArray) (d : Int) : Int × Int :=
  if r = true then (if dayB d = true then (if goG g a 0 < 0 then (0, 3) else (wearV (rd_T72 g (goG g a 0)) d (lastOf l a d), 0)) else (0, 2)) else (0, 1)
section
variable {g : List G} {l : List K} {r : Bool} (hl : l.length ≤ 1048576) (h2 : ∀ d, Ev (fun k => impl_gearCode.f k g l d) (codeOf r d))
include hl h2
theorem wearOn_val (a : ByteArray) (d : Int) : Ev (fun k => impl_WearOn.f k g l a d) (wearOnV r g l a d) := by
  unfold impl_WearOn.f wearOnV
  refine Ev.bind (h2 d) ?_
  cases r with
  | false => exact ev_neg (by simp [codeOf]) (Ev.now _)
  | true =>
    rw [if_pos rfl]
    by_cases hd : dayB d = true
    · rw [if_pos hd]
      refine ev_pos (by simp [codeOf, hd]) (ev_bind0 (impl_find g a) ?_)
      have hr := goG_range g a 0
      by_cases hn : goG g a 0 < 0
      · rw [if_pos hn]; exact ev_pos hn (Ev.now _)
      · rw [if_neg hn]
        have hw := impl_wear (rd_T72 g (goG g a 0)) l d hl
        rw [(rdG_goG hn).2] at hw
        refine ev_neg hn (ev_pos (by omega) (ev_pos (by omega) ?_))
        rw [(rdG_goG hn).2]
        exact Ev.bind hw (Ev.now _)
    · rw [if_neg hd]
      exact ev_neg (by simp [codeOf, hd]) (ev_of (Ev.now _) (by simp [codeOf, hd]))
end
def startV (x : G) (l : List K) : Int × Int := match (ownL l x.f0).getLast? with
  | none => (x.f1, 0)
  | some z => (z.f1, z.f2)
def endV (x : G) (l : List K) : Int :=
  if (startV x l).2 > x.f3 then (startV x l).1 else if x.f2 = 0 then -1 else if (startV x l).1 + (x.f3 - (startV x l).2) / x.f2 + 1 > 20000 then -1 else (startV x l).1 + (x.f3 - (startV x l).2) / x.f2 + 1
theorem start_in (x : G) (l : List K) (hx : GearIn x) (hl : ∀ y ∈ l, CheckIn y) : 0 ≤ (startV x l).1 ∧ (startV x l).1 ≤ 20000 ∧ 0 ≤ (startV x l).2 ∧ (startV x l).2 ≤ 1000000 := by
  unfold startV
  cases hz : (ownL l x.f0).getLast? with
  | none => exact ⟨hx.1, hx.2.1, Int.le_refl _, by show (0 : Int) ≤ 1000000; decide⟩
  | some z => exact hl z (own_in (List.mem_of_getLast? hz))
theorem spec_end (x : G) (l : List K) (h : l.length ≤ 1048576) (hx : GearIn x) (hl : ∀ y ∈ l, CheckIn y) : Ev (fun k => spec_l21End.f k x.f0 x.f1 x.f2 x.f3 l) (endV x l) := by
  obtain ⟨s0, s1, s2, s3⟩ := start_in x l hx hl
  obtain ⟨x0, x1, x2, x3, x4, x5⟩ := hx
  have core : ∀ d w : Int, startV x l = (d, w) → Ev (fun k => spec_l21End.j0 k d w x.f0 x.f1 x.f2 x.f3) (endV x l) := by
    intro d w e
    rw [e] at s0 s1 s2 s3
    dsimp only at s0 s1 s2 s3
    unfold endV
    rw [e]
    dsimp only
    refine Ev.step (fun k => by rw [spec_l21End.j0]) ?_
    by_cases hw : w > x.f3
    · exact ev_of (ev_pos hw (Ev.now _)) (by rw [if_pos hw])
    · by_cases h0 : x.f2 = 0
      · exact ev_of (ev_neg hw (ev_pos h0 (Ev.now _))) (by rw [if_neg hw, if_pos h0])
      · refine ev_neg hw (ev_neg h0 ?_)
        have hq : Int.tdiv (wrap64 (x.f3 - w)) x.f2 = (x.f3 - w) / x.f2 := by
          rw [wrap_small (by omega) (by omega)]
          exact Int.tdiv_eq_ediv_of_nonneg (by omega)
        have hq0 : 0 ≤ (x.f3 - w) / x.f2 := Int.ediv_nonneg (by omega) (by omega)
        have hq1 : (x.f3 - w) / x.f2 ≤ x.f3 - w := Int.ediv_le_self _ (by omega)
        rw [hq, wrap_small (i := (x.f3 - w) / x.f2) (by omega) (by omega), wrap_small (i := d + (x.f3 - w) / x.f2) (by omega) (by omega), wrap_small (i := d + (x.f3 - w) / x.f2 + 1) (by omega) (by omega)]
        by_cases h : d + (x.f3 - w) / x.f2 + 1 > 20000
        · exact ev_of (ev_pos h (Ev.now _)) (by rw [if_neg hw, if_neg h0, if_pos h])
        · exact ev_of (ev_neg h (Ev.now _)) (by rw [if_neg hw, if_neg h0, if_neg h])
  unfold spec_l21End.f
  refine Ev.bind (last_ev l x.f0 20000 h) ?_
  rw [last_all l x.f0 hl]
  cases hz : (ownL l x.f0).getLast? with
  | none => exact ev_neg (by simp [lastE]) (core _ _ (by unfold startV; rw [hz]))
  | some z => exact ev_pos rfl (core _ _ (by unfold startV; rw [hz]; rfl))
theorem impl_end (x : G) (l : List K) (h : l.length ≤ 1048576) (hx : GearIn x) (hl : ∀ y ∈ l, CheckIn y) : Ev (fun k => impl_dayOfEnd.f k x.f0 x.f1 x.f2 x.f3 l) (endV x l) := by
  obtain ⟨r, h1, h2, _⟩ := end_both x l h hx hl
  rw [ev_one (spec_end x l h hx hl) h1]
  exact h2
theorem endV_le (x : G) (l : List K) (hx : GearIn x) (hl : ∀ y ∈ l, CheckIn y) : endV x l ≤ 20000 := by
  obtain ⟨s0, s1, s2, s3⟩ := start_in x l hx hl
  unfold endV
  split
  · exact s1
  · split
    · omega
    · split <;> omega
theorem mulb {a b : Int} (a0 : 0 ≤ a) (a1 : a ≤ 1000) (b0 : 0 ≤ b) (b1 : b ≤ 100000) : 0 ≤ a * b ∧ a * b ≤ 100000000 := by
  refine ⟨Int.mul_nonneg a0 b0, ?_⟩
  have := Int.mul_le_mul a1 b1 b0 (by decide)
  omega
/-- The last inspection not behind a day, where the last one of all is not behind it. -/
theorem lastOf_all (l : List K) (a : ByteArray) (d : Int) (h : ∀ z, (ownL l a).getLast? = some z → z.f1 ≤ d) : lastOf l a d = (ownL l a).getLast? := by
  unfold lastOf
  rcases last_cases (ownL l a) with e | ⟨q, z, e⟩
  · rw [e]; rfl
  · rw [e] at h ⊢
    have := h z (by simp)
    rw [List.filter_append, List.filter_cons_of_pos (by simpa using this)]
    simp
theorem mx_of {b : Int} (h : 0 ≤ b) : mx 0 b = b := by unfold mx; split <;> omega
theorem wear_end (x : G) (l : List K) (hx : GearIn x) (hl : ∀ y ∈ l, CheckIn y) (he : 0 ≤ endV x l) : wearV x (endV x l) (lastOf l x.f0 (endV x l)) > x.f3 := by
  obtain ⟨s0, s1, s2, s3⟩ := start_in x l hx hl
  have hle := endV_le x l hx hl
  obtain ⟨x0, x1, x2, x3, x4, x5⟩ := hx
  have hd : (startV x l).1 ≤ endV x l ∧ (startV x l).2 + x.f2 * (endV x l - (startV x l).1) > x.f3 := by
    unfold endV at he ⊢
    by_cases h1 : (startV x l).2 > x.f3
    · rw [if_pos h1, Int.sub_self, Int.mul_zero]; exact ⟨Int.le_refl _, by omega⟩
    · rw [if_neg h1] at he ⊢
      by_cases h2 : x.f2 = 0
      · rw [if_pos h2] at he; omega
      · rw [if_neg h2] at he ⊢
        by_cases h3 : (startV x l).1 + (x.f3 - (startV x l).2) / x.f2 + 1 > 20000
        · rw [if_pos h3] at he; omega
        · rw [if_neg h3]
          have hq0 : 0 ≤ (x.f3 - (startV x l).2) / x.f2 := Int.ediv_nonneg (by omega) (by omega)
          refine ⟨by omega, ?_⟩
          have e : (startV x l).1 + (x.f3 - (startV x l).2) / x.f2 + 1 - (startV x l).1 = (x.f3 - (startV x l).2) / x.f2 + 1 := by omega
          rw [e, Int.mul_comm]
          have := Int.lt_ediv_add_one_mul_self (x.f3 - (startV x l).2) (show 0 < x.f2 by omega)
          omega
  generalize endV x l = e at he hle hd ⊢
  obtain ⟨hd0, hd1⟩ := hd
  have hm := mulb x2 x3 (show 0 ≤ e - (startV x l).1 by omega) (by omega)
  unfold startV at s0 s1 s2 s3 hd0 hd1 hm
  cases hz : (ownL l x.f0).getLast? with
  | none =>
    rw [hz] at s0 s1 s2 s3 hd0 hd1 hm
    dsimp only at s0 s1 s2 s3 hd0 hd1 hm
    rw [lastOf_all l x.f0 e (by rw [hz]; simp), hz]
    show wrap64 (x.f2 * mx 0 (wrap64 (e - x.f1))) > x.f3
    rw [wrap_small (i := e - x.f1) (by omega) (by omega), mx_of (by omega), wrap_small (by omega) (by omega)]
    omega
  | some z =>
    rw [hz] at s0 s1 s2 s3 hd0 hd1 hm
    dsimp only at s0 s1 s2 s3 hd0 hd1 hm
    rw [lastOf_all l x.f0 e (by rw [hz]; intro y hy; injection hy with hy; subst hy; omega), hz]
    show wrap64 (z.f2 + wrap64 (x.f2 * wrap64 (e - z.f1))) > x.f3
    rw [wrap_small (i := e - z.f1) (by omega) (by omega), wrap_small (i := x.f2 * (e - z.f1)) (by omega) (by omega), wrap_small (by omega) (by omega)]
    omega
/-! ### a day more -/
theorem own_pair {l : List K} (a : ByteArray) (h : l.Pairwise Later) : (ownL l a).Pairwise (fun y z => y.f1 < z.f1) := by
  unfold ownL
  rw [List.pairwise_filter]
  refine h.imp (fun {y z} hyz hy hz => ?_)
  have e1 : y.f0.toList = a.toList := by simpa using hy
  have e2 : z.f0.toList = a.toList := by simpa using hz
  exact (hyz (e1.trans e2.symm)).1
theorem pair_last : ∀ (q : List K) (y : K), (q ++ [y]).Pairwise (fun y z => y.f1 < z.f1) → ∀ z ∈ q, z.f1 < y.f1 := by
  intro q y h z hz
  rw [List.pairwise_append] at h
  exact h.2.2 z hz y (by simp)
/-- An inspection on that very day is the last one. -/
theorem lastOf_at {l : List K} (a : ByteArray) (d : Int) (h : l.Pairwise Later) (z : K) (hz : z ∈ l) (hn : z.f0.toList = a.toList) (hd : z.f1 = d) : lastOf l a d = some z := by
  have hm : z ∈ (ownL l a).filter (fun x => decide (x.f1 ≤ d)) := List.mem_filter.2 ⟨List.mem_filter.2 ⟨hz, by simpa using hn⟩, by simp; omega⟩
  have hp : ((ownL l a).filter (fun x => decide (x.f1 ≤ d))).Pairwise (fun y z => y.f1 < z.f1) := (own_pair a h).filter _
  unfold lastOf
  have hall : ∀ y ∈ (ownL l a).filter (fun x => decide (x.f1 ≤ d)), y.f1 ≤ d := fun y hy => of_decide_eq_true (List.mem_filter.1 hy).2
  generalize (ownL l a).filter (fun x => decide (x.f1 ≤ d)) = f at hm hp hall
  rcases last_cases f with e | ⟨q, y, e⟩
  · rw [e] at hm; simp at hm
  · subst e
    rcases List.mem_append.1 hm with hm | hm
    · have := pair_last q y hp z hm
      have := hall y (by simp)
      omega
    · rw [List.mem_singleton.1 hm]; simp
theorem lastOf_next (l : List K) (a : ByteArray) (d : Int) (h : ∀ z ∈ l, z.f0.toList = a.toList → z.f1 ≠ d + 1) : lastOf l a (d + 1) = lastOf l a d := by
  unfold lastOf
  congr 1
  apply List.filter_congr
  intro z hz
  have hz2 := List.mem_filter.1 hz
  have := h z hz2.1 (by simpa using hz2.2)
  by_cases h1 : z.f1 ≤ d
  · rw [decide_eq_true h1, decide_eq_true (by omega)]
  · rw [decide_eq_false h1, decide_eq_false (by omega)]
theorem wear_next (x : G) (d : Int) (o : Option K) (hx : GearIn x) (hd0 : 0 ≤ d) (hd1 : d < 20000) (ho : ∀ z, o = some z → CheckIn z ∧ z.f1 ≤ d) : wearV x (d + 1) o ≥ wearV x d o := by
  obtain ⟨x0, x1, x2, x3, x4, x5⟩ := hx
  cases o with
  | none =>
    show wrap64 (x.f2 * mx 0 (wrap64 (d + 1 - x.f1))) ≥ wrap64 (x.f2 * mx 0 (wrap64 (d - x.f1)))
    rw [wrap_small (i := d + 1 - x.f1) (by omega) (by omega), wrap_small (i := d - x.f1) (by omega) (by omega)]
    have h1 : 0 ≤ mx 0 (d - x.f1) ∧ mx 0 (d - x.f1) ≤ mx 0 (d + 1 - x.f1) ∧ mx 0 (d + 1 - x.f1) ≤ 100000 := by unfold mx; split <;> split <;> omega
    have hm1 := mulb x2 x3 h1.1 (by omega)
    have hm2 := mulb x2 x3 (show 0 ≤ mx 0 (d + 1 - x.f1) by omega) h1.2.2
    rw [wrap_small (by omega) (by omega), wrap_small (by omega) (by omega)]
    exact Int.mul_le_mul_of_nonneg_left h1.2.1 x2
  | some z =>
    obtain ⟨⟨z0, z1, z2, z3⟩, z4⟩ := ho z rfl
    show wrap64 (z.f2 + wrap64 (x.f2 * wrap64 (d + 1 - z.f1))) ≥ wrap64 (z.f2 + wrap64 (x.f2 * wrap64 (d - z.f1)))
    have hm1 := mulb x2 x3 (show 0 ≤ d - z.f1 by omega) (by omega)
    have hm2 := mulb x2 x3 (show 0 ≤ d + 1 - z.f1 by omega) (by omega)
    have hle := Int.mul_le_mul_of_nonneg_left (show d - z.f1 ≤ d + 1 - z.f1 by omega) x2
    rw [wrap_small (i := d + 1 - z.f1) (by omega) (by omega), wrap_small (i := d - z.f1) (by omega) (by omega), wrap_small (i := x.f2 * (d + 1 - z.f1)) (by omega) (by omega), wrap_small (i := x.f2 * (d - z.f1)) (by omega) (by omega), wrap_small (by omega) (by omega), wrap_small (by omega) (by omega)]
    omega
theorem wear_at (x : G) (d : Int) (z : K) (hz : CheckIn z) (hd : z.f1 = d) : wearV x d (some z) = z.f2 := by
  obtain ⟨z0, z1, z2, z3⟩ := hz
  show wrap64 (z.f2 + wrap64 (x.f2 * wrap64 (d - z.f1))) = z.f2
  have e : d - z.f1 = 0 := by omega
  rw [e, wrap_small (i := 0) (by omega) (by omega), Int.mul_zero, wrap_small (i := 0) (by omega) (by omega), Int.add_zero, wrap_small (by omega) (by omega)]
theorem lastOf_in {l : List K} {a : ByteArray} {d : Int} {z : K} (h : lastOf l a d = some z) : z ∈ l ∧ z.f1 ≤ d := by
  unfold lastOf at h
  have := List.mem_filter.1 (List.mem_of_getLast? h)
  exact ⟨own_in this.1, of_decide_eq_true this.2⟩
/-! ### WornOn, DayOfEnd, NextToFail -/
def wornL (l : List K) (d : Int) (g : List G) : List ByteArray := (g.filter fun x => decide (wearV x d (lastOf l x.f0 d) > x.f3)).map fun x => x.f0
theorem wornL_length (l : List K) (d : Int) (g : List G) : (wornL l d g).length ≤ g.length := by
  unfold wornL; rw [List.length_map]; exact List.length_filter_le _ _
theorem worn_spec (l : List K) (d : Int) (hl : l.length ≤ 1048576) : ∀ (xs p : List G) (acc : List ByteArray), p.length + xs.length ≤ 1048576 → acc.length ≤ p.length →
    Ev (fun k => spec_WornOn.l0 k (p ++ xs) l d acc (p.length : Int)) (acc ++ wornL l d xs, 0) := by
  intro xs
  induction xs with
  | nil =>
    intro p acc hm ha
    refine Ev.step (fun k => by rw [spec_WornOn.l0]) ?_
    exact ev_neg (not_lt_end p) (ev_of (Ev.now _) (by simp [wornL]))
  | cons x xs ih =>
    intro p acc hm ha
    rw [List.length_cons] at hm
    have hw : wrap64 ((p.length : Int) + 1) = ((p ++ [x]).length : Int) := wrap_next p x (by omega)
    have hi := fun acc (h : acc.length ≤ p.length + 1) => ih (p ++ [x]) acc (by rw [List.length_append]; simp; omega) (by simpa using h)
    refine Ev.step (fun k => by rw [spec_WornOn.l0]) ?_
    refine ev_pos (lt_mid p x xs) (ev_pos (Int.natCast_nonneg _) ?_)
    rw [rd72_mid, hw, push_mid p x xs]
    refine Ev.bind (spec_wear x l d hl) ?_
    by_cases h : wearV x d (lastOf l x.f0 d) > x.f3
    · refine ev_pos h (ev_pos (by omega) (ev_of (hi _ (by simp; omega)) ?_))
      unfold wornL
      rw [List.filter_cons_of_pos (by simpa using h)]
      simp
    · refine ev_neg h (ev_of (hi _ (by omega)) ?_)
      unfold wornL
      rw [List.filter_cons_of_neg (by simpa using h)]
theorem next_loop (g : List G) (l : List K) (hl : l.length ≤ 1048576) (hin : ∀ y ∈ l, CheckIn y) (hg : ∀ y ∈ g, GearIn y) (hgl : g.length ≤ 1048576) : ∀ (xs p : List G), g = p ++ xs →
    ∀ (i e : Int), (i = -1 ∨ (0 ≤ i ∧ i < (p.length : Int))) → ∃ r, Ev (fun k => spec_NextToFail.l0 k g l i e (p.length : Int)) r ∧ (0 ≤ i → r.2.2 = 0 ∧ r.2.1 ≤ e) ∧ (∀ y ∈ xs, 0 ≤ endV y l → r.2.2 = 0 ∧ r.2.1 ≤ endV y l) := by
  intro xs
  induction xs with
  | nil =>
    intro p hp i e hi
    rw [List.append_nil] at hp
    rcases hi with rfl | ⟨h0, h1⟩
    · refine ⟨_, Ev.step (fun k => by rw [spec_NextToFail.l0]) (ev_neg (by rw [hp]; omega) (ev_pos (by omega) (Ev.now _))), fun h => absurd h (by decide), by simp⟩
    · refine ⟨_, Ev.step (fun k => by rw [spec_NextToFail.l0]) (ev_neg (by rw [hp]; omega) (ev_neg (by omega) (ev_pos h0 (ev_pos (by rw [hp]; exact h1) (Ev.now _))))), fun _ => ⟨rfl, Int.le_refl _⟩, by simp⟩
  | cons x xs ih =>
    intro p hp i e hi
    have hpl : (p.length : Int) + (xs.length + 1) = g.length := by rw [hp]; simp
    have hx : rd_T72 g (p.length : Int) = x := by rw [hp]; exact rd72_mid p x xs
    have hw : wrap64 ((p.length : Int) + 1) = ((p ++ [x]).length : Int) := wrap_next p x (by omega)
    have hz : ((p ++ [x]).length : Int) = (p.length : Int) + 1 := by simp
    have hxm : x ∈ g := by rw [hp]; simp
    have he := spec_end x l hl (hg x hxm) hin
    have ih2 := ih (p ++ [x]) (by rw [hp]; simp)
    have step : ∀ {r : ByteArray × Int × Int}, Ev (fun k => if endV x l ≥ 0 then (if i < 0 then (spec_NextToFail.l0 k g l (p.length : Int) (endV x l) ((p ++ [x]).length : Int)) else (if endV x l < e then (spec_NextToFail.l0 k g l (p.length : Int) (endV x l) ((p ++ [x]).length : Int)) else (spec_NextToFail.l0 k g l i e ((p ++ [x]).length : Int)))) else (spec_NextToFail.l0 k g l i e ((p ++ [x]).length : Int))) r → Ev (fun k => spec_NextToFail.l0 k g l i e (p.length : Int)) r := by
      intro r h
      refine Ev.step (fun k => by rw [spec_NextToFail.l0]) (ev_pos (by omega) (ev_pos (by omega) ?_))
      rw [hx, hw]
      exact Ev.bind he h
    by_cases h0 : endV x l ≥ 0
    · by_cases hi0 : i < 0
      · obtain ⟨r, h1, h2, h3⟩ := ih2 (p.length : Int) (endV x l) (.inr ⟨by omega, by omega⟩)
        refine ⟨r, step (ev_pos h0 (ev_pos hi0 h1)), fun h => absurd h (by omega), fun y hy hy0 => ?_⟩
        rcases List.mem_cons.1 hy with rfl | hy
        · exact h2 (by omega)
        · exact h3 y hy hy0
      · by_cases hlt : endV x l < e
        · obtain ⟨r, h1, h2, h3⟩ := ih2 (p.length : Int) (endV x l) (.inr ⟨by omega, by omega⟩)
          have h4 := h2 (by omega)
          refine ⟨r, step (ev_pos h0 (ev_neg hi0 (ev_pos hlt h1))), fun h => ⟨h4.1, by omega⟩, fun y hy hy0 => ?_⟩
          rcases List.mem_cons.1 hy with rfl | hy
          · exact h4
          · exact h3 y hy hy0
        · obtain ⟨r, h1, h2, h3⟩ := ih2 i e (by omega)
          have h4 := h2 (by omega)
          refine ⟨r, step (ev_pos h0 (ev_neg hi0 (ev_neg hlt h1))), h2, fun y hy hy0 => ?_⟩
          rcases List.mem_cons.1 hy with rfl | hy
          · exact ⟨h4.1, by omega⟩
          · exact h3 y hy hy0
    · obtain ⟨r, h1, h2, h3⟩ := ih2 i e (by omega)
      refine ⟨r, step (ev_neg h0 h1), h2, fun y hy hy0 => ?_⟩
      rcases List.mem_cons.1 hy with rfl | hy
      · omega
      · exact h3 y hy hy0
def dayOfEndV (r : Bool) (g : List G) (l : List K) (a : ByteArray) : Int × Int :=
  if r = true then (if goG g a 0 < 0 then (0, 3) else if endV (rd_T72 g (goG g a 0)) l < 0 then (0, 5) else (endV (rd_T72 g (goG g a 0)) l, 0)) else (0, 1)
section
variable {g : List G} {l : List K} {r : Bool} (hl : l.length ≤ 1048576) (h2 : ∀ d, Ev (fun k => impl_gearCode.f k g l d) (codeOf r d)) (h3 : r = true → GearsIn g ∧ ChecksIn l)
include hl h2 h3
theorem dayOfEnd_val (a : ByteArray) : Ev (fun k => impl_DayOfEnd.f k g l a) (dayOfEndV r g l a) := by
  unfold impl_DayOfEnd.f dayOfEndV
  refine Ev.bind (h2 0) ?_
  cases r with
  | false => exact ev_neg (by simp [codeOf]) (Ev.now _)
  | true =>
    rw [if_pos rfl]
    refine ev_pos (by simp [codeOf, dayB0]) (ev_bind0 (impl_find g a) ?_)
    have hr := goG_range g a 0
    by_cases hn : goG g a 0 < 0
    · rw [if_pos hn]; exact ev_pos hn (Ev.now _)
    · rw [if_neg hn]
      have he := impl_end (rd_T72 g (goG g a 0)) l hl ((h3 rfl).1.2 _ (rdG_goG hn).1) (h3 rfl).2.2.1
      refine ev_neg hn (ev_pos (by omega) (ev_pos (by omega) (Ev.bind he (ev_ite (fun h => ?_) (fun h => ?_)))))
      · rw [if_pos h]; exact Ev.now _
      · rw [if_neg h]; exact Ev.now _
end
end Go.Proofs.YtfenjlkopofopaaB
end

section
/- The choices that are read from bytes: each lies in its bounds. -/
namespace Go.Proofs.YtfenjlkopofopaaB
open Go.RowKit Go.Proofs.YtfenjlkopofopaaW.PrintWords Go.Proofs.YtfenjlkopofopaaW.PrintLast Go.Proofs.Ytfenjlkopofopaa.P

abbrev Code (c : List Int) : Prop := ∀ x ∈ c, 0 ≤ x ∧ x ≤ 255
theorem code_of {c : List Int} (h : ∀ x ∈ c, (Lit.int .u8 x).wf = true) : Code c := fun x hx => by
  have := h x hx
  simp [Lit.wf, IntKind.min, IntKind.max, IntKind.signed, IntKind.bits] at this
  omega
theorem rd_code {c : List Int} (h : Code c) (i : Int) : 0 ≤ rd c i ∧ rd c i ≤ 255 := by
  unfold rd
  rw [List.getD_eq_getElem?_getD]
  cases e : c[i.toNat]? with
  | none => simp
  | some x => simpa using h x (List.mem_of_getElem? e)
theorem wraps_u64 (n : Int) (h0 : 0 ≤ n) (h1 : n < 2 ^ 64) : IntKind.u64.wrap n = n := by
  simp [IntKind.wrap, IntKind.bits, IntKind.signed]
  omega
theorem u64_bound (n : Int) : 0 ≤ IntKind.u64.wrap n ∧ IntKind.u64.wrap n < 18446744073709551616 := by
  simp [IntKind.wrap, IntKind.bits, IntKind.signed]
  omega
theorem and255 (x : Int) (h0 : 0 ≤ x) (h1 : x < 18446744073709551616) : 0 ≤ bits .and .u64 x 255 ∧ bits .and .u64 x 255 ≤ 255 := by
  have := bits_mask .u64 64 (by decide) wraps_u64 8 (by decide) x h0 (by simpa using h1)
  have h2 : bits .and .u64 x 255 = x % 256 := by simpa using this
  rw [h2]
  omega
theorem seed_and (n : Int) : 0 ≤ bits .and .u64 (IntKind.u64.wrap n / 1099511627776) 255 ∧ bits .and .u64 (IntKind.u64.wrap n / 1099511627776) 255 ≤ 255 := by
  have := u64_bound n
  exact and255 _ (by omega) (by omega)
/-- Where the reading stands: there is room for n steps. -/
def Room (n at_ : Int) : Prop := 0 ≤ at_ ∧ at_ + n ≤ 4611686018427387904
theorem next_some {c : List Int} (hc : Code c) (at_ seed : Int) (h : Room 1 at_) : ∃ v s', spec_l00Src_next.f c at_ seed = some (v, at_ + 1, s') ∧ 0 ≤ v ∧ v ≤ 255 := by
  obtain ⟨h0, h1⟩ := h
  have hw : wrap64 (at_ + 1) = at_ + 1 := wrap_small (by omega) (by omega)
  have hr := rd_code hc at_
  have hv : wrap64 (rd c at_) = rd c at_ := wrap_small (by omega) (by omega)
  have hs : ∀ n, wrap64 (bits .and .u64 (IntKind.u64.wrap n / 1099511627776) 255) = bits .and .u64 (IntKind.u64.wrap n / 1099511627776) 255 := fun n => wrap_small (by have := seed_and n; omega) (by have := seed_and n; omega)
  unfold spec_l00Src_next.f
  rw [hw]
  by_cases h2 : at_ < (c.length : Int)
  · rw [if_pos h2, if_pos h0, if_pos (by omega), hv]
    exact ⟨_, _, rfl, hr.1, hr.2⟩
  · rw [if_neg h2, if_neg (by omega), hs]
    exact ⟨_, _, rfl, (seed_and _).1, (seed_and _).2⟩
theorem pick_some {c : List Int} (hc : Code c) (at_ seed n : Int) (h : Room 2 at_) (hn : n ≤ 4611686018427387904) : ∃ r at' s', spec_l00Src_pick.f c at_ seed n = some (r, at', s') ∧ 0 ≤ r ∧ (1 ≤ n → r < n) ∧ at_ ≤ at' ∧ at' ≤ at_ + 2 := by
  have h' := h
  obtain ⟨h0, h1⟩ := h'
  unfold spec_l00Src_pick.f
  by_cases h2 : n ≤ 1
  · rw [if_pos h2]
    exact ⟨_, _, _, rfl, by omega, fun _ => by omega, by omega, by omega⟩
  · obtain ⟨v, s1, e1, hv0, hv1⟩ := next_some hc at_ seed ⟨h0, by omega⟩
    rw [if_neg h2, e1, Option.bind_some]
    by_cases h3 : n > 200
    · obtain ⟨v2, s2, e2, hu0, hu1⟩ := next_some hc (at_ + 1) s1 ⟨by omega, by omega⟩
      rw [if_pos h3]
      dsimp only
      rw [e2, Option.bind_some, if_neg (by omega)]
      dsimp only
      rw [wrap_small (i := v * 256) (by omega) (by omega), wrap_small (by omega) (by omega)]
      exact ⟨_, _, _, rfl, Int.tmod_nonneg _ (by omega), fun _ => Int.tmod_lt_of_pos _ (by omega), by omega, by omega⟩
    · rw [if_neg h3, if_neg (by omega)]
      dsimp only
      exact ⟨_, _, _, rfl, Int.tmod_nonneg _ (by omega), fun _ => Int.tmod_lt_of_pos _ (by omega), by omega, by omega⟩
end Go.Proofs.YtfenjlkopofopaaB
end

section
/- Further choices that are read from bytes: one of some numbers, one of some texts. -/
namespace Go.Proofs.YtfenjlkopofopaaB
open Go.RowKit Go.Proofs.YtfenjlkopofopaaW.PrintWords Go.Proofs.YtfenjlkopofopaaW.PrintLast Go.Proofs.Ytfenjlkopofopaa.P

theorem one_some {c : List Int} (hc : Code c) (at_ seed n : Int) (h0 : 0 ≤ at_) (h1 : at_ ≤ 1000000) (hn : n ≤ 1000000) : ∃ b at' s', spec_l00Src_one.f c at_ seed n = some (b, at', s') ∧ at_ ≤ at' ∧ at' ≤ at_ + 2 := by
  obtain ⟨v, t, s, e, _, _, t0, t1⟩ := pick_some hc at_ seed n ⟨h0, by omega⟩ (by omega)
  unfold spec_l00Src_one.f
  rw [e, Option.bind_some]
  exact ⟨_, _, _, rfl, t0, t1⟩
theorem among_some {c : List Int} (hc : Code c) (at_ seed : Int) (l : List Int) (h0 : 0 ≤ at_) (h1 : at_ ≤ 1000000) (hl : 1 ≤ l.length) (hl2 : l.length ≤ 1000000) : ∃ b at' s', spec_l00Src_among.f c at_ seed l = some (b, at', s') ∧ b ∈ l ∧ at_ ≤ at' ∧ at' ≤ at_ + 2 := by
  obtain ⟨v, t, s, e, v0, v1, t0, t1⟩ := pick_some hc at_ seed (l.length : Int) ⟨h0, by omega⟩ (by omega)
  have v2 := v1 (by omega)
  unfold spec_l00Src_among.f
  rw [e, Option.bind_some]
  dsimp only
  rw [if_pos v0, if_pos v2]
  refine ⟨_, _, _, rfl, ?_, t0, t1⟩
  unfold rd
  rw [List.getD_eq_getElem?_getD, List.getElem?_eq_getElem (by omega)]
  exact List.getElem_mem _
theorem text_some {c : List Int} (hc : Code c) (at_ seed : Int) (l : List ByteArray) (h0 : 0 ≤ at_) (h1 : at_ ≤ 1000000) (hl : 1 ≤ l.length) (hl2 : l.length ≤ 1000000) : ∃ b at' s', spec_l00Src_text.f c at_ seed l = some (b, at', s') ∧ b ∈ l ∧ at_ ≤ at' ∧ at' ≤ at_ + 2 := by
  obtain ⟨v, t, s, e, v0, v1, t0, t1⟩ := pick_some hc at_ seed (l.length : Int) ⟨h0, by omega⟩ (by omega)
  have v2 := v1 (by omega)
  unfold spec_l00Src_text.f
  rw [e, Option.bind_some]
  dsimp only
  rw [if_pos v0, if_pos v2]
  refine ⟨_, _, _, rfl, ?_, t0, t1⟩
  unfold rdOf
  rw [List.getD_eq_getElem?_getD, List.getElem?_eq_getElem (by omega)]
  exact List.getElem_mem _
end Go.Proofs.YtfenjlkopofopaaB
end
