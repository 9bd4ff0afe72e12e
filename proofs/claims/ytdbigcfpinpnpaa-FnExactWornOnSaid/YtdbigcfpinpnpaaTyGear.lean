/- Gear: what a list of them weighs, its copy, its comparison, its marks. -/
import Derived.Test.YtdbigcfpinpnpaaBase
import Derived.Test.YtdbigcfpinpnpaaPx0
import Derived.Test.YtdbigcfpinpnpaaPx4
namespace Go.Proofs.YtdbigcfpinpnpaaB
open Go.RowKit Go.Proofs.YtdbigcfpinpnpaaW.PrintWords Go.Proofs.YtdbigcfpinpnpaaW.PrintLast Go.Proofs.Ytdbigcfpinpnpaa.P

def toGear (x : S72) : S73 := ⟨x.f0, x.f1, x.f2, x.f3⟩
theorem rd72_mid (p : List S72) (x : S72) (xs : List S72) : rd_T72 (p ++ x :: xs) (p.length : Int) = x := by
  unfold rd_T72
  exact getD_at p x xs _
theorem rd73_mid (p : List S73) (x : S73) (xs : List S73) : rd_T73 (p ++ x :: xs) (p.length : Int) = x := by
  unfold rd_T73
  exact getD_at p x xs _
theorem szGear_some (f0 : ByteArray) (f1 : Int) (f2 : Int) (f3 : Int) (left : Int) (h0 : 0 ≤ left) (h1 : left ≤ 1048576) (h2 : f0.size ≤ maxLen) : ∃ r, laws_szGear.f f0 f1 f2 f3 left = some r ∧ r ≤ left ∧ (0 ≤ r → (f0.size : Int) ≤ left) := by
  unfold maxLen at h2
  unfold laws_szGear.f
  rw [wrap_small (i := left - (f0.size : Int)) (by omega) (by omega)]
  by_cases c0 : left - (f0.size : Int) < 0
  · rw [if_pos c0]
    exact ⟨_, rfl, by omega, fun h => absurd h (by omega)⟩
  · rw [if_neg c0]
    exact ⟨_, rfl, by omega, fun _ => by omega⟩
theorem szGearS_loop : ∀ (xs p : List S72) (left : Int), p.length + xs.length ≤ 4611686018427387904 → 0 ≤ left → left ≤ 1048576 → (∀ x ∈ xs, (x.f0.size ≤ maxLen)) → ∃ r, Ev (fun k => laws_szGearS.l0 k (p ++ xs) left (p.length : Int)) r ∧ r ≤ left ∧ (0 ≤ r → ∀ x ∈ xs, ((x.f0.size : Int) ≤ left)) := by
  intro xs
  induction xs with
  | nil =>
    intro p left _ h0 h1 _
    exact ⟨left, Ev.step (fun k => by rw [laws_szGearS.l0]) (ev_neg (not_lt_end p) (Ev.now _)), Int.le_refl _, fun _ x hx => by simp at hx⟩
  | cons x xs ih =>
    intro p left hl h0 h1 hs
    have hx := hs x List.mem_cons_self
    rw [List.length_cons] at hl
    have hw : wrap64 ((p.length : Int) + 1) = ((p ++ [x]).length : Int) := wrap_next p x (by omega)
    obtain ⟨r, e, hr, b0⟩ := szGear_some x.f0 x.f1 x.f2 x.f3 left h0 h1 hx
    by_cases hn : r < 0
    · refine ⟨-1, Ev.step (fun k => by rw [laws_szGearS.l0]) (ev_pos (lt_mid p x xs) (ev_pos (Int.natCast_nonneg _) ?_)), by omega, fun h => absurd h (by decide)⟩
      rw [rd72_mid]
      exact ev_bind0 e (ev_pos hn (Ev.now _))
    · obtain ⟨q, h2, h3, h4⟩ := ih (p ++ [x]) r (by rw [List.length_append]; simp; omega) (by omega) (by omega) (fun y hy => hs y (List.mem_cons_of_mem _ hy))
      refine ⟨q, Ev.step (fun k => by rw [laws_szGearS.l0]) (ev_pos (lt_mid p x xs) (ev_pos (Int.natCast_nonneg _) ?_)), by omega, fun h y hy => ?_⟩
      · rw [rd72_mid, hw, push_mid p x xs]
        exact ev_bind0 e (ev_neg hn h2)
      · rcases List.mem_cons.1 hy with rfl | hy
        · exact b0 (by omega)
        · have := h4 h y hy
          omega
theorem szGearS_ev (l : List S72) (left : Int) (h0 : 0 ≤ left) (h1 : left ≤ 1048576) (hl : l.length ≤ maxLen ∧ ∀ x ∈ l, (x.f0.size ≤ maxLen ∧ (Lit.int .i64 x.f1).wf = true ∧ (Lit.int .i64 x.f2).wf = true ∧ (Lit.int .i64 x.f3).wf = true)) : ∃ r, Ev (fun k => laws_szGearS.f k l left) r ∧ r ≤ left ∧ (0 ≤ r → (l.length : Int) ≤ left ∧ ∀ x ∈ l, ((x.f0.size : Int) ≤ left)) := by
  obtain ⟨hm, hq⟩ := hl
  have hm2 := hm
  unfold maxLen at hm2
  unfold laws_szGearS.f
  rw [wrap_small (i := left - (l.length : Int)) (by omega) (by omega)]
  by_cases c : left - (l.length : Int) < 0
  · exact ⟨-1, ev_pos c (Ev.now _), by omega, fun h => absurd h (by decide)⟩
  · obtain ⟨r, h2, h3, h4⟩ := szGearS_loop l [] (left - (l.length : Int)) (by simp; omega) (by omega) (by omega) (fun x hx => by have := hq x hx; exact this.1)
    refine ⟨r, ev_neg c h2, by omega, fun h => ⟨by omega, fun x hx => ?_⟩⟩
    have := h4 h x hx
    omega
theorem toGear_some (f0 : ByteArray) (f1 : Int) (f2 : Int) (f3 : Int) : laws_toGear.f f0 f1 f2 f3 = some (f0, f1, f2, f3) := rfl
theorem toGearS_loop : ∀ (xs p : List S72), p.length + xs.length ≤ 1048576 → Ev (fun k => laws_toGearS.l0 k (p ++ xs) (p.map toGear ++ List.replicate xs.length z73) (p.length : Int)) ((p ++ xs).map toGear) := by
  intro xs
  induction xs with
  | nil =>
    intro p _
    refine Ev.step (fun k => by rw [laws_toGearS.l0]) ?_
    refine ev_neg (not_lt_end p) (ev_of (Ev.now _) ?_)
    simp
  | cons x xs ih =>
    intro p hl
    rw [List.length_cons] at hl
    have hw : wrap64 ((p.length : Int) + 1) = ((p ++ [x]).length : Int) := wrap_next p x (by omega)
    have hi := ih (p ++ [x]) (by rw [List.length_append]; simp; omega)
    refine Ev.step (fun k => by rw [laws_toGearS.l0]) ?_
    refine ev_pos (lt_mid p x xs) (ev_pos (Int.natCast_nonneg _) ?_)
    rw [rd72_mid, hw]
    refine ev_bind0 (toGear_some x.f0 x.f1 x.f2 x.f3) (ev_pos (by simp; omega) ?_)
    rw [List.length_cons, List.replicate_succ, set_mid' (p.map toGear) p (List.length_map _), push_mid p x xs]
    have e : (p ++ [x]).map toGear ++ List.replicate xs.length z73 = p.map toGear ++ toGear x :: List.replicate xs.length z73 := by simp
    rw [e] at hi
    exact hi
theorem toGearS_ev (l : List S72) (hl : l.length ≤ 1048576) : Ev (fun k => laws_toGearS.f k l) (l.map toGear) := by
  have h := toGearS_loop l [] (by simp; omega)
  unfold laws_toGearS.f
  refine ev_pos (Int.natCast_nonneg _) (ev_pos (by simp; omega) ?_)
  simpa using h
def GoodGear (x : S73) : Prop := x.f0.size ≤ 1048576 ∧ I64 x.f1 ∧ I64 x.f2 ∧ I64 x.f3
theorem goodGear_of (x : S72) (hq : (x.f0.size ≤ maxLen ∧ (Lit.int .i64 x.f1).wf = true ∧ (Lit.int .i64 x.f2).wf = true ∧ (Lit.int .i64 x.f3).wf = true)) (hs : ((x.f0.size : Int) ≤ 1048576)) : GoodGear (toGear x) := ⟨by have := hs; show x.f0.size ≤ 1048576; omega, i64_of_wf hq.2.1, i64_of_wf hq.2.2.1, i64_of_wf hq.2.2.2⟩
theorem goodGearS_of (l : List S72) (left : Int) (hle : left ≤ 1048576) (hq : l.length ≤ maxLen ∧ ∀ x ∈ l, (x.f0.size ≤ maxLen ∧ (Lit.int .i64 x.f1).wf = true ∧ (Lit.int .i64 x.f2).wf = true ∧ (Lit.int .i64 x.f3).wf = true)) (hs : (l.length : Int) ≤ left ∧ ∀ x ∈ l, ((x.f0.size : Int) ≤ left)) : (l.map toGear).length ≤ 1048576 ∧ ∀ y ∈ l.map toGear, GoodGear y := by
  refine ⟨by rw [List.length_map]; omega, fun y hy => ?_⟩
  obtain ⟨x, hx, rfl⟩ := List.mem_map.1 hy
  have := hs.2 x hx
  exact goodGear_of x (hq.2 x hx) (by omega)
theorem eqGear_refl (f0 : ByteArray) (f1 : Int) (f2 : Int) (f3 : Int) : laws_eqGear.f f0 f1 f2 f3 f0 f1 f2 f3 = some true := by
  unfold laws_eqGear.f
  simp
theorem eqGearS_loop : ∀ (xs p : List S73), p.length + xs.length ≤ 4611686018427387904 → Ev (fun k => laws_eqGearS.l0 k (p ++ xs) (p ++ xs) (p.length : Int)) true := by
  intro xs
  induction xs with
  | nil =>
    intro p _
    refine Ev.step (fun k => by rw [laws_eqGearS.l0]) ?_
    exact ev_neg (not_lt_end p) (Ev.now _)
  | cons x xs ih =>
    intro p hl
    rw [List.length_cons] at hl
    have hw : wrap64 ((p.length : Int) + 1) = ((p ++ [x]).length : Int) := wrap_next p x (by omega)
    have hi := ih (p ++ [x]) (by rw [List.length_append]; simp; omega)
    refine Ev.step (fun k => by rw [laws_eqGearS.l0]) ?_
    refine ev_pos (lt_mid p x xs) (ev_pos (Int.natCast_nonneg _) (ev_pos (lt_mid p x xs) ?_))
    rw [rd73_mid, hw, push_mid p x xs]
    exact ev_bind0 (eqGear_refl x.f0 x.f1 x.f2 x.f3) (ev_pos rfl hi)
theorem eqGearS_refl (l : List S73) (hl : l.length ≤ 4611686018427387904) : Ev (fun k => laws_eqGearS.f k l l) true := by
  unfold laws_eqGearS.f
  exact ev_pos rfl (eqGearS_loop l [] (by simp; omega))
end Go.Proofs.YtdbigcfpinpnpaaB
