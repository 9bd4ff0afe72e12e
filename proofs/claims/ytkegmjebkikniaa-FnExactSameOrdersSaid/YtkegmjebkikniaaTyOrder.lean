/- Order: what a list of them weighs, its copy, its comparison, its marks. -/
import Derived.Test.YtkegmjebkikniaaBase
import Derived.Test.YtkegmjebkikniaaPx0
import Derived.Test.YtkegmjebkikniaaPx2
namespace Go.Proofs.YtkegmjebkikniaaB
open Go.RowKit Go.Proofs.YtkegmjebkikniaaW.PrintWords Go.Proofs.YtkegmjebkikniaaW.PrintLast Go.Proofs.Ytkegmjebkikniaa.P

def toOrder (x : S61) : S62 := ⟨x.f0, x.f1, x.f2, x.f3, x.f4⟩
theorem rd61_mid (p : List S61) (x : S61) (xs : List S61) : rd_T61 (p ++ x :: xs) (p.length : Int) = x := by
  unfold rd_T61
  exact getD_at p x xs _
theorem rd62_mid (p : List S62) (x : S62) (xs : List S62) : rd_T62 (p ++ x :: xs) (p.length : Int) = x := by
  unfold rd_T62
  exact getD_at p x xs _
theorem szOrder_some (f0 : Int) (f1 : ByteArray) (f2 : Int) (f3 : Int) (f4 : Int) (left : Int) (h0 : 0 ≤ left) (h1 : left ≤ 1048576) (h3 : f1.size ≤ maxLen) : ∃ r, laws_szOrder.f f0 f1 f2 f3 f4 left = some r ∧ r ≤ left ∧ (0 ≤ r → (f1.size : Int) ≤ left) := by
  unfold maxLen at h3
  unfold laws_szOrder.f
  rw [wrap_small (i := left - (f1.size : Int)) (by omega) (by omega)]
  by_cases c0 : left - (f1.size : Int) < 0
  · rw [if_pos c0]
    exact ⟨_, rfl, by omega, fun h => absurd h (by omega)⟩
  · rw [if_neg c0]
    exact ⟨_, rfl, by omega, fun _ => by omega⟩
theorem szOrderS_loop : ∀ (xs p : List S61) (left : Int), p.length + xs.length ≤ 4611686018427387904 → 0 ≤ left → left ≤ 1048576 → (∀ x ∈ xs, (x.f1.size ≤ maxLen)) → ∃ r, Ev (fun k => laws_szOrderS.l0 k (p ++ xs) left (p.length : Int)) r ∧ r ≤ left ∧ (0 ≤ r → ∀ x ∈ xs, ((x.f1.size : Int) ≤ left)) := by
  intro xs
  induction xs with
  | nil =>
    intro p left _ h0 h1 _
    exact ⟨left, Ev.step (fun k => by rw [laws_szOrderS.l0]) (ev_neg (not_lt_end p) (Ev.now _)), Int.le_refl _, fun _ x hx => by simp at hx⟩
  | cons x xs ih =>
    intro p left hl h0 h1 hs
    have hx := hs x List.mem_cons_self
    rw [List.length_cons] at hl
    have hw : wrap64 ((p.length : Int) + 1) = ((p ++ [x]).length : Int) := wrap_next p x (by omega)
    obtain ⟨r, e, hr, b1⟩ := szOrder_some x.f0 x.f1 x.f2 x.f3 x.f4 left h0 h1 hx
    by_cases hn : r < 0
    · refine ⟨-1, Ev.step (fun k => by rw [laws_szOrderS.l0]) (ev_pos (lt_mid p x xs) (ev_pos (Int.natCast_nonneg _) ?_)), by omega, fun h => absurd h (by decide)⟩
      rw [rd61_mid]
      exact ev_bind0 e (ev_pos hn (Ev.now _))
    · obtain ⟨q, h2, h3, h4⟩ := ih (p ++ [x]) r (by rw [List.length_append]; simp; omega) (by omega) (by omega) (fun y hy => hs y (List.mem_cons_of_mem _ hy))
      refine ⟨q, Ev.step (fun k => by rw [laws_szOrderS.l0]) (ev_pos (lt_mid p x xs) (ev_pos (Int.natCast_nonneg _) ?_)), by omega, fun h y hy => ?_⟩
      · rw [rd61_mid, hw, push_mid p x xs]
        exact ev_bind0 e (ev_neg hn h2)
      · rcases List.mem_cons.1 hy with rfl | hy
        · exact b1 (by omega)
        · have := h4 h y hy
          omega
theorem szOrderS_ev (l : List S61) (left : Int) (h0 : 0 ≤ left) (h1 : left ≤ 1048576) (hl : l.length ≤ maxLen ∧ ∀ x ∈ l, ((Lit.int .i64 x.f0).wf = true ∧ x.f1.size ≤ maxLen ∧ (Lit.int .i64 x.f2).wf = true ∧ (Lit.int .i64 x.f3).wf = true ∧ (Lit.int .i64 x.f4).wf = true)) : ∃ r, Ev (fun k => laws_szOrderS.f k l left) r ∧ r ≤ left ∧ (0 ≤ r → (l.length : Int) ≤ left ∧ ∀ x ∈ l, ((x.f1.size : Int) ≤ left)) := by
  obtain ⟨hm, hq⟩ := hl
  have hm2 := hm
  unfold maxLen at hm2
  unfold laws_szOrderS.f
  rw [wrap_small (i := left - (l.length : Int)) (by omega) (by omega)]
  by_cases c : left - (l.length : Int) < 0
  · exact ⟨-1, ev_pos c (Ev.now _), by omega, fun h => absurd h (by decide)⟩
  · obtain ⟨r, h2, h3, h4⟩ := szOrderS_loop l [] (left - (l.length : Int)) (by simp; omega) (by omega) (by omega) (fun x hx => by have := hq x hx; exact this.2.1)
    refine ⟨r, ev_neg c h2, by omega, fun h => ⟨by omega, fun x hx => ?_⟩⟩
    have := h4 h x hx
    omega
theorem toOrder_some (f0 : Int) (f1 : ByteArray) (f2 : Int) (f3 : Int) (f4 : Int) : laws_toOrder.f f0 f1 f2 f3 f4 = some (f0, f1, f2, f3, f4) := rfl
theorem toOrderS_loop : ∀ (xs p : List S61), p.length + xs.length ≤ 1048576 → Ev (fun k => laws_toOrderS.l0 k (p ++ xs) (p.map toOrder ++ List.replicate xs.length z62) (p.length : Int)) ((p ++ xs).map toOrder) := by
  intro xs
  induction xs with
  | nil =>
    intro p _
    refine Ev.step (fun k => by rw [laws_toOrderS.l0]) ?_
    refine ev_neg (not_lt_end p) (ev_of (Ev.now _) ?_)
    simp
  | cons x xs ih =>
    intro p hl
    rw [List.length_cons] at hl
    have hw : wrap64 ((p.length : Int) + 1) = ((p ++ [x]).length : Int) := wrap_next p x (by omega)
    have hi := ih (p ++ [x]) (by rw [List.length_append]; simp; omega)
    refine Ev.step (fun k => by rw [laws_toOrderS.l0]) ?_
    refine ev_pos (lt_mid p x xs) (ev_pos (Int.natCast_nonneg _) ?_)
    rw [rd61_mid, hw]
    refine ev_bind0 (toOrder_some x.f0 x.f1 x.f2 x.f3 x.f4) (ev_pos (by simp; omega) ?_)
    rw [List.length_cons, List.replicate_succ, set_mid' (p.map toOrder) p (List.length_map _), push_mid p x xs]
    have e : (p ++ [x]).map toOrder ++ List.replicate xs.length z62 = p.map toOrder ++ toOrder x :: List.replicate xs.length z62 := by simp
    rw [e] at hi
    exact hi
theorem toOrderS_ev (l : List S61) (hl : l.length ≤ 1048576) : Ev (fun k => laws_toOrderS.f k l) (l.map toOrder) := by
  have h := toOrderS_loop l [] (by simp; omega)
  unfold laws_toOrderS.f
  refine ev_pos (Int.natCast_nonneg _) (ev_pos (by simp; omega) ?_)
  simpa using h
def GoodOrder (x : S62) : Prop := I64 x.f0 ∧ x.f1.size ≤ 1048576 ∧ I64 x.f2 ∧ I64 x.f3 ∧ I64 x.f4
theorem goodOrder_of (x : S61) (hq : ((Lit.int .i64 x.f0).wf = true ∧ x.f1.size ≤ maxLen ∧ (Lit.int .i64 x.f2).wf = true ∧ (Lit.int .i64 x.f3).wf = true ∧ (Lit.int .i64 x.f4).wf = true)) (hs : ((x.f1.size : Int) ≤ 1048576)) : GoodOrder (toOrder x) := ⟨i64_of_wf hq.1, by have := hs; show x.f1.size ≤ 1048576; omega, i64_of_wf hq.2.2.1, i64_of_wf hq.2.2.2.1, i64_of_wf hq.2.2.2.2⟩
theorem goodOrderS_of (l : List S61) (left : Int) (hle : left ≤ 1048576) (hq : l.length ≤ maxLen ∧ ∀ x ∈ l, ((Lit.int .i64 x.f0).wf = true ∧ x.f1.size ≤ maxLen ∧ (Lit.int .i64 x.f2).wf = true ∧ (Lit.int .i64 x.f3).wf = true ∧ (Lit.int .i64 x.f4).wf = true)) (hs : (l.length : Int) ≤ left ∧ ∀ x ∈ l, ((x.f1.size : Int) ≤ left)) : (l.map toOrder).length ≤ 1048576 ∧ ∀ y ∈ l.map toOrder, GoodOrder y := by
  refine ⟨by rw [List.length_map]; omega, fun y hy => ?_⟩
  obtain ⟨x, hx, rfl⟩ := List.mem_map.1 hy
  have := hs.2 x hx
  exact goodOrder_of x (hq.2 x hx) (by omega)
theorem eqOrder_refl (f0 : Int) (f1 : ByteArray) (f2 : Int) (f3 : Int) (f4 : Int) : laws_eqOrder.f f0 f1 f2 f3 f4 f0 f1 f2 f3 f4 = some true := by
  unfold laws_eqOrder.f
  simp
theorem eqOrderS_loop : ∀ (xs p : List S62), p.length + xs.length ≤ 4611686018427387904 → Ev (fun k => laws_eqOrderS.l0 k (p ++ xs) (p ++ xs) (p.length : Int)) true := by
  intro xs
  induction xs with
  | nil =>
    intro p _
    refine Ev.step (fun k => by rw [laws_eqOrderS.l0]) ?_
    exact ev_neg (not_lt_end p) (Ev.now _)
  | cons x xs ih =>
    intro p hl
    rw [List.length_cons] at hl
    have hw : wrap64 ((p.length : Int) + 1) = ((p ++ [x]).length : Int) := wrap_next p x (by omega)
    have hi := ih (p ++ [x]) (by rw [List.length_append]; simp; omega)
    refine Ev.step (fun k => by rw [laws_eqOrderS.l0]) ?_
    refine ev_pos (lt_mid p x xs) (ev_pos (Int.natCast_nonneg _) (ev_pos (lt_mid p x xs) ?_))
    rw [rd62_mid, hw, push_mid p x xs]
    exact ev_bind0 (eqOrder_refl x.f0 x.f1 x.f2 x.f3 x.f4) (ev_pos rfl hi)
theorem eqOrderS_refl (l : List S62) (hl : l.length ≤ 4611686018427387904) : Ev (fun k => laws_eqOrderS.f k l l) true := by
  unfold laws_eqOrderS.f
  exact ev_pos rfl (eqOrderS_loop l [] (by simp; omega))
end Go.Proofs.YtkegmjebkikniaaB
