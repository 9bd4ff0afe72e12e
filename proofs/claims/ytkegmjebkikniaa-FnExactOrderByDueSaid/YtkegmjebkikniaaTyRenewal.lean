/- Renewal: what a list of them weighs, its copy, its comparison, its marks. -/
import Derived.Test.YtkegmjebkikniaaBase
import Derived.Test.YtkegmjebkikniaaPx0
import Derived.Test.YtkegmjebkikniaaPx3
namespace Go.Proofs.YtkegmjebkikniaaB
open Go.RowKit Go.Proofs.YtkegmjebkikniaaW.PrintWords Go.Proofs.YtkegmjebkikniaaW.PrintLast Go.Proofs.Ytkegmjebkikniaa.P

def toRenewal (x : S66) : S55 := ⟨x.f0, x.f1, x.f2, x.f3⟩
theorem rd66_mid (p : List S66) (x : S66) (xs : List S66) : rd_T66 (p ++ x :: xs) (p.length : Int) = x := by
  unfold rd_T66
  exact getD_at p x xs _
theorem rd55_mid (p : List S55) (x : S55) (xs : List S55) : rd_T55 (p ++ x :: xs) (p.length : Int) = x := by
  unfold rd_T55
  exact getD_at p x xs _
theorem szRenewal_some (f0 : ByteArray) (f1 : Int) (f2 : Int) (f3 : Int) (left : Int) (h0 : 0 ≤ left) (h1 : left ≤ 1048576) (h2 : f0.size ≤ maxLen) : ∃ r, laws_szRenewal.f f0 f1 f2 f3 left = some r ∧ r ≤ left ∧ (0 ≤ r → (f0.size : Int) ≤ left) := by
  unfold maxLen at h2
  unfold laws_szRenewal.f
  rw [wrap_small (i := left - (f0.size : Int)) (by omega) (by omega)]
  by_cases c0 : left - (f0.size : Int) < 0
  · rw [if_pos c0]
    exact ⟨_, rfl, by omega, fun h => absurd h (by omega)⟩
  · rw [if_neg c0]
    exact ⟨_, rfl, by omega, fun _ => by omega⟩
theorem szRenewalS_loop : ∀ (xs p : List S66) (left : Int), p.length + xs.length ≤ 4611686018427387904 → 0 ≤ left → left ≤ 1048576 → (∀ x ∈ xs, (x.f0.size ≤ maxLen)) → ∃ r, Ev (fun k => laws_szRenewalS.l0 k (p ++ xs) left (p.length : Int)) r ∧ r ≤ left ∧ (0 ≤ r → ∀ x ∈ xs, ((x.f0.size : Int) ≤ left)) := by
  intro xs
  induction xs with
  | nil =>
    intro p left _ h0 h1 _
    exact ⟨left, Ev.step (fun k => by rw [laws_szRenewalS.l0]) (ev_neg (not_lt_end p) (Ev.now _)), Int.le_refl _, fun _ x hx => by simp at hx⟩
  | cons x xs ih =>
    intro p left hl h0 h1 hs
    have hx := hs x List.mem_cons_self
    rw [List.length_cons] at hl
    have hw : wrap64 ((p.length : Int) + 1) = ((p ++ [x]).length : Int) := wrap_next p x (by omega)
    obtain ⟨r, e, hr, b0⟩ := szRenewal_some x.f0 x.f1 x.f2 x.f3 left h0 h1 hx
    by_cases hn : r < 0
    · refine ⟨-1, Ev.step (fun k => by rw [laws_szRenewalS.l0]) (ev_pos (lt_mid p x xs) (ev_pos (Int.natCast_nonneg _) ?_)), by omega, fun h => absurd h (by decide)⟩
      rw [rd66_mid]
      exact ev_bind0 e (ev_pos hn (Ev.now _))
    · obtain ⟨q, h2, h3, h4⟩ := ih (p ++ [x]) r (by rw [List.length_append]; simp; omega) (by omega) (by omega) (fun y hy => hs y (List.mem_cons_of_mem _ hy))
      refine ⟨q, Ev.step (fun k => by rw [laws_szRenewalS.l0]) (ev_pos (lt_mid p x xs) (ev_pos (Int.natCast_nonneg _) ?_)), by omega, fun h y hy => ?_⟩
      · rw [rd66_mid, hw, push_mid p x xs]
        exact ev_bind0 e (ev_neg hn h2)
      · rcases List.mem_cons.1 hy with rfl | hy
        · exact b0 (by omega)
        · have := h4 h y hy
          omega
theorem szRenewalS_ev (l : List S66) (left : Int) (h0 : 0 ≤ left) (h1 : left ≤ 1048576) (hl : l.length ≤ maxLen ∧ ∀ x ∈ l, (x.f0.size ≤ maxLen ∧ (Lit.int .i64 x.f1).wf = true ∧ (Lit.int .i64 x.f2).wf = true ∧ (Lit.int .i64 x.f3).wf = true)) : ∃ r, Ev (fun k => laws_szRenewalS.f k l left) r ∧ r ≤ left ∧ (0 ≤ r → (l.length : Int) ≤ left ∧ ∀ x ∈ l, ((x.f0.size : Int) ≤ left)) := by
  obtain ⟨hm, hq⟩ := hl
  have hm2 := hm
  unfold maxLen at hm2
  unfold laws_szRenewalS.f
  rw [wrap_small (i := left - (l.length : Int)) (by omega) (by omega)]
  by_cases c : left - (l.length : Int) < 0
  · exact ⟨-1, ev_pos c (Ev.now _), by omega, fun h => absurd h (by decide)⟩
  · obtain ⟨r, h2, h3, h4⟩ := szRenewalS_loop l [] (left - (l.length : Int)) (by simp; omega) (by omega) (by omega) (fun x hx => by have := hq x hx; exact this.1)
    refine ⟨r, ev_neg c h2, by omega, fun h => ⟨by omega, fun x hx => ?_⟩⟩
    have := h4 h x hx
    omega
theorem toRenewal_some (f0 : ByteArray) (f1 : Int) (f2 : Int) (f3 : Int) : laws_toRenewal.f f0 f1 f2 f3 = some (f0, f1, f2, f3) := rfl
theorem toRenewalS_loop : ∀ (xs p : List S66), p.length + xs.length ≤ 1048576 → Ev (fun k => laws_toRenewalS.l0 k (p ++ xs) (p.map toRenewal ++ List.replicate xs.length z55) (p.length : Int)) ((p ++ xs).map toRenewal) := by
  intro xs
  induction xs with
  | nil =>
    intro p _
    refine Ev.step (fun k => by rw [laws_toRenewalS.l0]) ?_
    refine ev_neg (not_lt_end p) (ev_of (Ev.now _) ?_)
    simp
  | cons x xs ih =>
    intro p hl
    rw [List.length_cons] at hl
    have hw : wrap64 ((p.length : Int) + 1) = ((p ++ [x]).length : Int) := wrap_next p x (by omega)
    have hi := ih (p ++ [x]) (by rw [List.length_append]; simp; omega)
    refine Ev.step (fun k => by rw [laws_toRenewalS.l0]) ?_
    refine ev_pos (lt_mid p x xs) (ev_pos (Int.natCast_nonneg _) ?_)
    rw [rd66_mid, hw]
    refine ev_bind0 (toRenewal_some x.f0 x.f1 x.f2 x.f3) (ev_pos (by simp; omega) ?_)
    rw [List.length_cons, List.replicate_succ, set_mid' (p.map toRenewal) p (List.length_map _), push_mid p x xs]
    have e : (p ++ [x]).map toRenewal ++ List.replicate xs.length z55 = p.map toRenewal ++ toRenewal x :: List.replicate xs.length z55 := by simp
    rw [e] at hi
    exact hi
theorem toRenewalS_ev (l : List S66) (hl : l.length ≤ 1048576) : Ev (fun k => laws_toRenewalS.f k l) (l.map toRenewal) := by
  have h := toRenewalS_loop l [] (by simp; omega)
  unfold laws_toRenewalS.f
  refine ev_pos (Int.natCast_nonneg _) (ev_pos (by simp; omega) ?_)
  simpa using h
def GoodRenewal (x : S55) : Prop := x.f0.size ≤ 1048576 ∧ I64 x.f1 ∧ I64 x.f2 ∧ I64 x.f3
theorem goodRenewal_of (x : S66) (hq : (x.f0.size ≤ maxLen ∧ (Lit.int .i64 x.f1).wf = true ∧ (Lit.int .i64 x.f2).wf = true ∧ (Lit.int .i64 x.f3).wf = true)) (hs : ((x.f0.size : Int) ≤ 1048576)) : GoodRenewal (toRenewal x) := ⟨by have := hs; show x.f0.size ≤ 1048576; omega, i64_of_wf hq.2.1, i64_of_wf hq.2.2.1, i64_of_wf hq.2.2.2⟩
theorem goodRenewalS_of (l : List S66) (left : Int) (hle : left ≤ 1048576) (hq : l.length ≤ maxLen ∧ ∀ x ∈ l, (x.f0.size ≤ maxLen ∧ (Lit.int .i64 x.f1).wf = true ∧ (Lit.int .i64 x.f2).wf = true ∧ (Lit.int .i64 x.f3).wf = true)) (hs : (l.length : Int) ≤ left ∧ ∀ x ∈ l, ((x.f0.size : Int) ≤ left)) : (l.map toRenewal).length ≤ 1048576 ∧ ∀ y ∈ l.map toRenewal, GoodRenewal y := by
  refine ⟨by rw [List.length_map]; omega, fun y hy => ?_⟩
  obtain ⟨x, hx, rfl⟩ := List.mem_map.1 hy
  have := hs.2 x hx
  exact goodRenewal_of x (hq.2 x hx) (by omega)
theorem eqRenewal_refl (f0 : ByteArray) (f1 : Int) (f2 : Int) (f3 : Int) : laws_eqRenewal.f f0 f1 f2 f3 f0 f1 f2 f3 = some true := by
  unfold laws_eqRenewal.f
  simp
theorem eqRenewalS_loop : ∀ (xs p : List S55), p.length + xs.length ≤ 4611686018427387904 → Ev (fun k => laws_eqRenewalS.l0 k (p ++ xs) (p ++ xs) (p.length : Int)) true := by
  intro xs
  induction xs with
  | nil =>
    intro p _
    refine Ev.step (fun k => by rw [laws_eqRenewalS.l0]) ?_
    exact ev_neg (not_lt_end p) (Ev.now _)
  | cons x xs ih =>
    intro p hl
    rw [List.length_cons] at hl
    have hw : wrap64 ((p.length : Int) + 1) = ((p ++ [x]).length : Int) := wrap_next p x (by omega)
    have hi := ih (p ++ [x]) (by rw [List.length_append]; simp; omega)
    refine Ev.step (fun k => by rw [laws_eqRenewalS.l0]) ?_
    refine ev_pos (lt_mid p x xs) (ev_pos (Int.natCast_nonneg _) (ev_pos (lt_mid p x xs) ?_))
    rw [rd55_mid, hw, push_mid p x xs]
    exact ev_bind0 (eqRenewal_refl x.f0 x.f1 x.f2 x.f3) (ev_pos rfl hi)
theorem eqRenewalS_refl (l : List S55) (hl : l.length ≤ 4611686018427387904) : Ev (fun k => laws_eqRenewalS.f k l l) true := by
  unfold laws_eqRenewalS.f
  exact ev_pos rfl (eqRenewalS_loop l [] (by simp; omega))
end Go.Proofs.YtkegmjebkikniaaB
