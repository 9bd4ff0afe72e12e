/- Lists of texts: their comparison, their marks. -/
import Derived.Test.YtdbigcfpinpnpaaTyText
import Derived.Test.YtdbigcfpinpnpaaPx22
namespace Go.Proofs.YtdbigcfpinpnpaaB
open Go.RowKit Go.Proofs.YtdbigcfpinpnpaaW.PrintWords Go.Proofs.YtdbigcfpinpnpaaW.PrintLast Go.Proofs.Ytdbigcfpinpnpaa.P

theorem eqStringS_loop : ∀ (xs p : List ByteArray), p.length + xs.length ≤ 4611686018427387904 → Ev (fun k => laws_eqStringS.l0 k (p ++ xs) (p ++ xs) (p.length : Int)) true := by
  intro xs
  induction xs with
  | nil =>
    intro p _
    refine Ev.step (fun k => by rw [laws_eqStringS.l0]) ?_
    exact ev_neg (not_lt_end p) (Ev.now _)
  | cons x xs ih =>
    intro p hl
    rw [List.length_cons] at hl
    have hw : wrap64 ((p.length : Int) + 1) = ((p ++ [x]).length : Int) := wrap_next p x (by omega)
    have hi := ih (p ++ [x]) (by rw [List.length_append]; simp; omega)
    refine Ev.step (fun k => by rw [laws_eqStringS.l0]) ?_
    refine ev_pos (lt_mid p x xs) (ev_pos (Int.natCast_nonneg _) (ev_pos (lt_mid p x xs) ?_))
    rw [hw, push_mid p x xs]
    exact ev_pos rfl hi
theorem eqStringS_refl (l : List ByteArray) (hl : l.length ≤ 4611686018427387904) : Ev (fun k => laws_eqStringS.f k l l) true := by
  unfold laws_eqStringS.f
  exact ev_pos rfl (eqStringS_loop l [] (by simp; omega))
noncomputable def markString (k : Int) : List ByteArray → List ByteArray
  | [] => []
  | _ :: xs => mtxt k :: markString (k + 1) xs
theorem markStringS_loop : ∀ (xs p : List ByteArray) (k : Int), 0 < k → k + xs.length ≤ 1152921504606846976 → p.length + xs.length ≤ 1152921504606846976 → Ev (fun n => laws_markStringS.l0 n (p ++ xs) k (p.length : Int)) (k + xs.length, p ++ markString k xs) := by
  intro xs
  induction xs with
  | nil =>
    intro p k h0 h1 _
    refine Ev.step (fun k => by rw [laws_markStringS.l0]) ?_
    refine ev_neg (not_lt_end p) (ev_of (Ev.now _) ?_)
    simp [markString]
  | cons x xs ih =>
    intro p k h0 h1 hl
    rw [List.length_cons] at hl h1
    have hw : wrap64 ((p.length : Int) + 1) = ((p ++ [mtxt k]).length : Int) := wrap_next p (mtxt k) (by omega)
    have hi := ih (p ++ [mtxt k]) (k + 1) (by omega) (by omega) (by rw [List.length_append]; simp; omega)
    have w1 : wrap64 (k + 1) = k + 1 := wrap_small (by omega) (by omega)
    refine Ev.step (fun k => by rw [laws_markStringS.l0]) ?_
    refine ev_pos (lt_mid p x xs) (Ev.bind (mtxt_ev k h0 (by omega)) (ev_pos (Int.natCast_nonneg _) ?_))
    rw [set_mid, w1, hw, push_mid p (mtxt k) xs]
    refine ev_of hi ?_
    rw [List.length_cons]
    simp [markString]
    omega
theorem markStringS_at (l : List ByteArray) (k : Int) (h0 : 0 < k) (h1 : k ≤ 1099511627776) (hl : l.length ≤ 1048576) : Ev (fun n => laws_markStringS.f n l k) (k + (l.length : Int), markString k l) := by
  unfold laws_markStringS.f
  exact markStringS_loop l [] k h0 (by omega) (by simp; omega)
theorem markStringS_ev (l : List ByteArray) (hl : l.length ≤ 1048576) : Ev (fun n => laws_markStringS.f n l 1) (1 + (l.length : Int), markString 1 l) := by
  unfold laws_markStringS.f
  exact markStringS_loop l [] 1 (by omega) (by omega) (by simp; omega)
theorem heldStringS_loop : ∀ (xs p : List ByteArray) (k : Int), 0 < k → k + xs.length ≤ 1152921504606846976 → p.length + xs.length ≤ 1152921504606846976 → Ev (fun n => laws_heldStringS.l0 n (p ++ markString k xs) k (p.length : Int)) (k + xs.length) := by
  intro xs
  induction xs with
  | nil =>
    intro p k h0 h1 _
    refine Ev.step (fun k => by rw [laws_heldStringS.l0]) ?_
    refine ev_neg (not_lt_end p) (ev_of (Ev.now _) ?_)
    simp
  | cons x xs ih =>
    intro p k h0 h1 hl
    rw [List.length_cons] at hl h1
    have hw : wrap64 ((p.length : Int) + 1) = ((p ++ [mtxt k]).length : Int) := wrap_next p (mtxt k) (by omega)
    have hi := ih (p ++ [mtxt k]) (k + 1) (by omega) (by omega) (by rw [List.length_append]; simp; omega)
    have w1 : wrap64 (k + 1) = k + 1 := wrap_small (by omega) (by omega)
    rw [markString]
    refine Ev.step (fun k => by rw [laws_heldStringS.l0]) ?_
    refine ev_pos (lt_mid p _ _) (ev_pos (Int.natCast_nonneg _) (Ev.bind (mtxt_ev k h0 (by omega)) ?_))
    rw [rdOf_mid, w1, hw, push_mid p (mtxt k) (markString (k + 1) xs)]
    refine ev_pos rfl (ev_of hi ?_)
    rw [List.length_cons]
    omega
theorem heldStringS_ev (l : List ByteArray) (hl : l.length ≤ 1048576) : Ev (fun n => laws_heldStringS.f n (markString 1 l) 1) (1 + (l.length : Int)) := by
  unfold laws_heldStringS.f
  exact heldStringS_loop l [] 1 (by omega) (by omega) (by simp; omega)
end Go.Proofs.YtdbigcfpinpnpaaB
