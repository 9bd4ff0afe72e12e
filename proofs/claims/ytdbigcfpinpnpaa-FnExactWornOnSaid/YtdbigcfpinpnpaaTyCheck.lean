/- Check: what a list of them weighs, its copy, its comparison, its marks. -/
import Derived.Test.YtdbigcfpinpnpaaBase
import Derived.Test.YtdbigcfpinpnpaaPx0
import Derived.Test.YtdbigcfpinpnpaaPx2
namespace Go.Proofs.YtdbigcfpinpnpaaB
open Go.RowKit Go.Proofs.YtdbigcfpinpnpaaW.PrintWords Go.Proofs.YtdbigcfpinpnpaaW.PrintLast Go.Proofs.Ytdbigcfpinpnpaa.P

def toCheck (x : S49) : S53 := ⟨x.f0, x.f1, x.f2⟩
theorem rd49_mid (p : List S49) (x : S49) (xs : List S49) : rd_T49 (p ++ x :: xs) (p.length : Int) = x := by
  unfold rd_T49
  exact getD_at p x xs _
theorem rd53_mid (p : List S53) (x : S53) (xs : List S53) : rd_T53 (p ++ x :: xs) (p.length : Int) = x := by
  unfold rd_T53
  exact getD_at p x xs _
theorem szCheck_some (f0 : ByteArray) (f1 : Int) (f2 : Int) (left : Int) (h0 : 0 ≤ left) (h1 : left ≤ 1048576) (h2 : f0.size ≤ maxLen) : ∃ r, laws_szCheck.f f0 f1 f2 left = some r ∧ r ≤ left ∧ (0 ≤ r → (f0.size : Int) ≤ left) := by
  unfold maxLen at h2
  unfold laws_szCheck.f
  rw [wrap_small (i := left - (f0.size : Int)) (by omega) (by omega)]
  by_cases c0 : left - (f0.size : Int) < 0
  · rw [if_pos c0]
    exact ⟨_, rfl, by omega, fun h => absurd h (by omega)⟩
  · rw [if_neg c0]
    exact ⟨_, rfl, by omega, fun _ => by omega⟩
theorem szCheckS_loop : ∀ (xs p : List S49) (left : Int), p.length + xs.length ≤ 4611686018427387904 → 0 ≤ left → left ≤ 1048576 → (∀ x ∈ xs, (x.f0.size ≤ maxLen)) → ∃ r, Ev (fun k => laws_szCheckS.l0 k (p ++ xs) left (p.length : Int)) r ∧ r ≤ left ∧ (0 ≤ r → ∀ x ∈ xs, ((x.f0.size : Int) ≤ left)) := by
  intro xs
  induction xs with
  | nil =>
    intro p left _ h0 h1 _
    exact ⟨left, Ev.step (fun k => by rw [laws_szCheckS.l0]) (ev_neg (not_lt_end p) (Ev.now _)), Int.le_refl _, fun _ x hx => by simp at hx⟩
  | cons x xs ih =>
    intro p left hl h0 h1 hs
    have hx := hs x List.mem_cons_self
    rw [List.length_cons] at hl
    have hw : wrap64 ((p.length : Int) + 1) = ((p ++ [x]).length : Int) := wrap_next p x (by omega)
    obtain ⟨r, e, hr, b0⟩ := szCheck_some x.f0 x.f1 x.f2 left h0 h1 hx
    by_cases hn : r < 0
    · refine ⟨-1, Ev.step (fun k => by rw [laws_szCheckS.l0]) (ev_pos (lt_mid p x xs) (ev_pos (Int.natCast_nonneg _) ?_)), by omega, fun h => absurd h (by decide)⟩
      rw [rd49_mid]
      exact ev_bind0 e (ev_pos hn (Ev.now _))
    · obtain ⟨q, h2, h3, h4⟩ := ih (p ++ [x]) r (by rw [List.length_append]; simp; omega) (by omega) (by omega) (fun y hy => hs y (List.mem_cons_of_mem _ hy))
      refine ⟨q, Ev.step (fun k => by rw [laws_szCheckS.l0]) (ev_pos (lt_mid p x xs) (ev_pos (Int.natCast_nonneg _) ?_)), by omega, fun h y hy => ?_⟩
      · rw [rd49_mid, hw, push_mid p x xs]
        exact ev_bind0 e (ev_neg hn h2)
      · rcases List.mem_cons.1 hy with rfl | hy
        · exact b0 (by omega)
        · have := h4 h y hy
          omega
theorem szCheckS_ev (l : List S49) (left : Int) (h0 : 0 ≤ left) (h1 : left ≤ 1048576) (hl : l.length ≤ maxLen ∧ ∀ x ∈ l, (x.f0.size ≤ maxLen ∧ (Lit.int .i64 x.f1).wf = true ∧ (Lit.int .i64 x.f2).wf = true)) : ∃ r, Ev (fun k => laws_szCheckS.f k l left) r ∧ r ≤ left ∧ (0 ≤ r → (l.length : Int) ≤ left ∧ ∀ x ∈ l, ((x.f0.size : Int) ≤ left)) := by
  obtain ⟨hm, hq⟩ := hl
  have hm2 := hm
  unfold maxLen at hm2
  unfold laws_szCheckS.f
  rw [wrap_small (i := left - (l.length : Int)) (by omega) (by omega)]
  by_cases c : left - (l.length : Int) < 0
  · exact ⟨-1, ev_pos c (Ev.now _), by omega, fun h => absurd h (by decide)⟩
  · obtain ⟨r, h2, h3, h4⟩ := szCheckS_loop l [] (left - (l.length : Int)) (by simp; omega) (by omega) (by omega) (fun x hx => by have := hq x hx; exact this.1)
    refine ⟨r, ev_neg c h2, by omega, fun h => ⟨by omega, fun x hx => ?_⟩⟩
    have := h4 h x hx
    omega
theorem toCheck_some (f0 : ByteArray) (f1 : Int) (f2 : Int) : laws_toCheck.f f0 f1 f2 = some (f0, f1, f2) := rfl
theorem toCheckS_loop : ∀ (xs p : List S49), p.length + xs.length ≤ 1048576 → Ev (fun k => laws_toCheckS.l0 k (p ++ xs) (p.map toCheck ++ List.replicate xs.length z53) (p.length : Int)) ((p ++ xs).map toCheck) := by
  intro xs
  induction xs with
  | nil =>
    intro p _
    refine Ev.step (fun k => by rw [laws_toCheckS.l0]) ?_
    refine ev_neg (not_lt_end p) (ev_of (Ev.now _) ?_)
    simp
  | cons x xs ih =>
    intro p hl
    rw [List.length_cons] at hl
    have hw : wrap64 ((p.length : Int) + 1) = ((p ++ [x]).length : Int) := wrap_next p x (by omega)
    have hi := ih (p ++ [x]) (by rw [List.length_append]; simp; omega)
    refine Ev.step (fun k => by rw [laws_toCheckS.l0]) ?_
    refine ev_pos (lt_mid p x xs) (ev_pos (Int.natCast_nonneg _) ?_)
    rw [rd49_mid, hw]
    refine ev_bind0 (toCheck_some x.f0 x.f1 x.f2) (ev_pos (by simp; omega) ?_)
    rw [List.length_cons, List.replicate_succ, set_mid' (p.map toCheck) p (List.length_map _), push_mid p x xs]
    have e : (p ++ [x]).map toCheck ++ List.replicate xs.length z53 = p.map toCheck ++ toCheck x :: List.replicate xs.length z53 := by simp
    rw [e] at hi
    exact hi
theorem toCheckS_ev (l : List S49) (hl : l.length ≤ 1048576) : Ev (fun k => laws_toCheckS.f k l) (l.map toCheck) := by
  have h := toCheckS_loop l [] (by simp; omega)
  unfold laws_toCheckS.f
  refine ev_pos (Int.natCast_nonneg _) (ev_pos (by simp; omega) ?_)
  simpa using h
def GoodCheck (x : S53) : Prop := x.f0.size ≤ 1048576 ∧ I64 x.f1 ∧ I64 x.f2
theorem goodCheck_of (x : S49) (hq : (x.f0.size ≤ maxLen ∧ (Lit.int .i64 x.f1).wf = true ∧ (Lit.int .i64 x.f2).wf = true)) (hs : ((x.f0.size : Int) ≤ 1048576)) : GoodCheck (toCheck x) := ⟨by have := hs; show x.f0.size ≤ 1048576; omega, i64_of_wf hq.2.1, i64_of_wf hq.2.2⟩
theorem goodCheckS_of (l : List S49) (left : Int) (hle : left ≤ 1048576) (hq : l.length ≤ maxLen ∧ ∀ x ∈ l, (x.f0.size ≤ maxLen ∧ (Lit.int .i64 x.f1).wf = true ∧ (Lit.int .i64 x.f2).wf = true)) (hs : (l.length : Int) ≤ left ∧ ∀ x ∈ l, ((x.f0.size : Int) ≤ left)) : (l.map toCheck).length ≤ 1048576 ∧ ∀ y ∈ l.map toCheck, GoodCheck y := by
  refine ⟨by rw [List.length_map]; omega, fun y hy => ?_⟩
  obtain ⟨x, hx, rfl⟩ := List.mem_map.1 hy
  have := hs.2 x hx
  exact goodCheck_of x (hq.2 x hx) (by omega)
theorem eqCheck_refl (f0 : ByteArray) (f1 : Int) (f2 : Int) : laws_eqCheck.f f0 f1 f2 f0 f1 f2 = some true := by
  unfold laws_eqCheck.f
  simp
theorem eqCheckS_loop : ∀ (xs p : List S53), p.length + xs.length ≤ 4611686018427387904 → Ev (fun k => laws_eqCheckS.l0 k (p ++ xs) (p ++ xs) (p.length : Int)) true := by
  intro xs
  induction xs with
  | nil =>
    intro p _
    refine Ev.step (fun k => by rw [laws_eqCheckS.l0]) ?_
    exact ev_neg (not_lt_end p) (Ev.now _)
  | cons x xs ih =>
    intro p hl
    rw [List.length_cons] at hl
    have hw : wrap64 ((p.length : Int) + 1) = ((p ++ [x]).length : Int) := wrap_next p x (by omega)
    have hi := ih (p ++ [x]) (by rw [List.length_append]; simp; omega)
    refine Ev.step (fun k => by rw [laws_eqCheckS.l0]) ?_
    refine ev_pos (lt_mid p x xs) (ev_pos (Int.natCast_nonneg _) (ev_pos (lt_mid p x xs) ?_))
    rw [rd53_mid, hw, push_mid p x xs]
    exact ev_bind0 (eqCheck_refl x.f0 x.f1 x.f2) (ev_pos rfl hi)
theorem eqCheckS_refl (l : List S53) (hl : l.length ≤ 4611686018427387904) : Ev (fun k => laws_eqCheckS.f k l l) true := by
  unfold laws_eqCheckS.f
  exact ev_pos rfl (eqCheckS_loop l [] (by simp; omega))
end Go.Proofs.YtdbigcfpinpnpaaB
