/- Coil: what a list of them weighs, its copy, its comparison, its marks. -/
import Derived.Test.YtbglfbmnibhgeaaBase
import Derived.Test.YtbglfbmnibhgeaaPx0
import Derived.Test.YtbglfbmnibhgeaaPx2
namespace Go.Proofs.YtbglfbmnibhgeaaB
open Go.RowKit Go.Proofs.YtbglfbmnibhgeaaW.PrintWords Go.Proofs.YtbglfbmnibhgeaaW.PrintLast Go.Proofs.Ytbglfbmnibhgeaa.P

def toCoil (x : S41) : S45 := ⟨x.f0, x.f1⟩
theorem rd41_mid (p : List S41) (x : S41) (xs : List S41) : rd_T41 (p ++ x :: xs) (p.length : Int) = x := by
  unfold rd_T41
  exact getD_at p x xs _
theorem rd45_mid (p : List S45) (x : S45) (xs : List S45) : rd_T45 (p ++ x :: xs) (p.length : Int) = x := by
  unfold rd_T45
  exact getD_at p x xs _
theorem szCoil_some (f0 : ByteArray) (f1 : Int) (left : Int) (h0 : 0 ≤ left) (h1 : left ≤ 1048576) (h2 : f0.size ≤ maxLen) : ∃ r, laws_szCoil.f f0 f1 left = some r ∧ r ≤ left ∧ (0 ≤ r → (f0.size : Int) ≤ left) := by
  unfold maxLen at h2
  unfold laws_szCoil.f
  rw [wrap_small (i := left - (f0.size : Int)) (by omega) (by omega)]
  by_cases c0 : left - (f0.size : Int) < 0
  · rw [if_pos c0]
    exact ⟨_, rfl, by omega, fun h => absurd h (by omega)⟩
  · rw [if_neg c0]
    exact ⟨_, rfl, by omega, fun _ => by omega⟩
theorem szCoilS_loop : ∀ (xs p : List S41) (left : Int), p.length + xs.length ≤ 4611686018427387904 → 0 ≤ left → left ≤ 1048576 → (∀ x ∈ xs, (x.f0.size ≤ maxLen)) → ∃ r, Ev (fun k => laws_szCoilS.l0 k (p ++ xs) left (p.length : Int)) r ∧ r ≤ left ∧ (0 ≤ r → ∀ x ∈ xs, ((x.f0.size : Int) ≤ left)) := by
  intro xs
  induction xs with
  | nil =>
    intro p left _ h0 h1 _
    exact ⟨left, Ev.step (fun k => by rw [laws_szCoilS.l0]) (ev_neg (not_lt_end p) (Ev.now _)), Int.le_refl _, fun _ x hx => by simp at hx⟩
  | cons x xs ih =>
    intro p left hl h0 h1 hs
    have hx := hs x List.mem_cons_self
    rw [List.length_cons] at hl
    have hw : wrap64 ((p.length : Int) + 1) = ((p ++ [x]).length : Int) := wrap_next p x (by omega)
    obtain ⟨r, e, hr, b0⟩ := szCoil_some x.f0 x.f1 left h0 h1 hx
    by_cases hn : r < 0
    · refine ⟨-1, Ev.step (fun k => by rw [laws_szCoilS.l0]) (ev_pos (lt_mid p x xs) (ev_pos (Int.natCast_nonneg _) ?_)), by omega, fun h => absurd h (by decide)⟩
      rw [rd41_mid]
      exact ev_bind0 e (ev_pos hn (Ev.now _))
    · obtain ⟨q, h2, h3, h4⟩ := ih (p ++ [x]) r (by rw [List.length_append]; simp; omega) (by omega) (by omega) (fun y hy => hs y (List.mem_cons_of_mem _ hy))
      refine ⟨q, Ev.step (fun k => by rw [laws_szCoilS.l0]) (ev_pos (lt_mid p x xs) (ev_pos (Int.natCast_nonneg _) ?_)), by omega, fun h y hy => ?_⟩
      · rw [rd41_mid, hw, push_mid p x xs]
        exact ev_bind0 e (ev_neg hn h2)
      · rcases List.mem_cons.1 hy with rfl | hy
        · exact b0 (by omega)
        · have := h4 h y hy
          omega
theorem szCoilS_ev (l : List S41) (left : Int) (h0 : 0 ≤ left) (h1 : left ≤ 1048576) (hl : l.length ≤ maxLen ∧ ∀ x ∈ l, (x.f0.size ≤ maxLen ∧ (Lit.int .i64 x.f1).wf = true)) : ∃ r, Ev (fun k => laws_szCoilS.f k l left) r ∧ r ≤ left ∧ (0 ≤ r → (l.length : Int) ≤ left ∧ ∀ x ∈ l, ((x.f0.size : Int) ≤ left)) := by
  obtain ⟨hm, hq⟩ := hl
  have hm2 := hm
  unfold maxLen at hm2
  unfold laws_szCoilS.f
  rw [wrap_small (i := left - (l.length : Int)) (by omega) (by omega)]
  by_cases c : left - (l.length : Int) < 0
  · exact ⟨-1, ev_pos c (Ev.now _), by omega, fun h => absurd h (by decide)⟩
  · obtain ⟨r, h2, h3, h4⟩ := szCoilS_loop l [] (left - (l.length : Int)) (by simp; omega) (by omega) (by omega) (fun x hx => by have := hq x hx; exact this.1)
    refine ⟨r, ev_neg c h2, by omega, fun h => ⟨by omega, fun x hx => ?_⟩⟩
    have := h4 h x hx
    omega
theorem toCoil_some (f0 : ByteArray) (f1 : Int) : laws_toCoil.f f0 f1 = some (f0, f1) := rfl
theorem toCoilS_loop : ∀ (xs p : List S41), p.length + xs.length ≤ 1048576 → Ev (fun k => laws_toCoilS.l0 k (p ++ xs) (p.map toCoil ++ List.replicate xs.length z45) (p.length : Int)) ((p ++ xs).map toCoil) := by
  intro xs
  induction xs with
  | nil =>
    intro p _
    refine Ev.step (fun k => by rw [laws_toCoilS.l0]) ?_
    refine ev_neg (not_lt_end p) (ev_of (Ev.now _) ?_)
    simp
  | cons x xs ih =>
    intro p hl
    rw [List.length_cons] at hl
    have hw : wrap64 ((p.length : Int) + 1) = ((p ++ [x]).length : Int) := wrap_next p x (by omega)
    have hi := ih (p ++ [x]) (by rw [List.length_append]; simp; omega)
    refine Ev.step (fun k => by rw [laws_toCoilS.l0]) ?_
    refine ev_pos (lt_mid p x xs) (ev_pos (Int.natCast_nonneg _) ?_)
    rw [rd41_mid, hw]
    refine ev_bind0 (toCoil_some x.f0 x.f1) (ev_pos (by simp; omega) ?_)
    rw [List.length_cons, List.replicate_succ, set_mid' (p.map toCoil) p (List.length_map _), push_mid p x xs]
    have e : (p ++ [x]).map toCoil ++ List.replicate xs.length z45 = p.map toCoil ++ toCoil x :: List.replicate xs.length z45 := by simp
    rw [e] at hi
    exact hi
theorem toCoilS_ev (l : List S41) (hl : l.length ≤ 1048576) : Ev (fun k => laws_toCoilS.f k l) (l.map toCoil) := by
  have h := toCoilS_loop l [] (by simp; omega)
  unfold laws_toCoilS.f
  refine ev_pos (Int.natCast_nonneg _) (ev_pos (by simp; omega) ?_)
  simpa using h
def GoodCoil (x : S45) : Prop := x.f0.size ≤ 1048576 ∧ I64 x.f1
theorem goodCoil_of (x : S41) (hq : (x.f0.size ≤ maxLen ∧ (Lit.int .i64 x.f1).wf = true)) (hs : ((x.f0.size : Int) ≤ 1048576)) : GoodCoil (toCoil x) := ⟨by have := hs; show x.f0.size ≤ 1048576; omega, i64_of_wf hq.2⟩
theorem goodCoilS_of (l : List S41) (left : Int) (hle : left ≤ 1048576) (hq : l.length ≤ maxLen ∧ ∀ x ∈ l, (x.f0.size ≤ maxLen ∧ (Lit.int .i64 x.f1).wf = true)) (hs : (l.length : Int) ≤ left ∧ ∀ x ∈ l, ((x.f0.size : Int) ≤ left)) : (l.map toCoil).length ≤ 1048576 ∧ ∀ y ∈ l.map toCoil, GoodCoil y := by
  refine ⟨by rw [List.length_map]; omega, fun y hy => ?_⟩
  obtain ⟨x, hx, rfl⟩ := List.mem_map.1 hy
  have := hs.2 x hx
  exact goodCoil_of x (hq.2 x hx) (by omega)
theorem eqCoil_refl (f0 : ByteArray) (f1 : Int) : laws_eqCoil.f f0 f1 f0 f1 = some true := by
  unfold laws_eqCoil.f
  simp
theorem eqCoilS_loop : ∀ (xs p : List S45), p.length + xs.length ≤ 4611686018427387904 → Ev (fun k => laws_eqCoilS.l0 k (p ++ xs) (p ++ xs) (p.length : Int)) true := by
  intro xs
  induction xs with
  | nil =>
    intro p _
    refine Ev.step (fun k => by rw [laws_eqCoilS.l0]) ?_
    exact ev_neg (not_lt_end p) (Ev.now _)
  | cons x xs ih =>
    intro p hl
    rw [List.length_cons] at hl
    have hw : wrap64 ((p.length : Int) + 1) = ((p ++ [x]).length : Int) := wrap_next p x (by omega)
    have hi := ih (p ++ [x]) (by rw [List.length_append]; simp; omega)
    refine Ev.step (fun k => by rw [laws_eqCoilS.l0]) ?_
    refine ev_pos (lt_mid p x xs) (ev_pos (Int.natCast_nonneg _) (ev_pos (lt_mid p x xs) ?_))
    rw [rd45_mid, hw, push_mid p x xs]
    exact ev_bind0 (eqCoil_refl x.f0 x.f1) (ev_pos rfl hi)
theorem eqCoilS_refl (l : List S45) (hl : l.length ≤ 4611686018427387904) : Ev (fun k => laws_eqCoilS.f k l l) true := by
  unfold laws_eqCoilS.f
  exact ev_pos rfl (eqCoilS_loop l [] (by simp; omega))
end Go.Proofs.YtbglfbmnibhgeaaB
