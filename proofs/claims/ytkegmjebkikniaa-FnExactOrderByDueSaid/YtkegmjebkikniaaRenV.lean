/- Renewals: whether a list of them is valid; orders; ends: of both. -/
import Derived.Test.YtkegmjebkikniaaNames
import Derived.Test.YtkegmjebkikniaaTyRenewal
import Derived.Test.YtkegmjebkikniaaPx0
import Derived.Test.YtkegmjebkikniaaPx11
import Derived.Test.YtkegmjebkikniaaPx13
import Derived.Test.YtkegmjebkikniaaPx16
import Derived.Test.YtkegmjebkikniaaPx18
import Derived.Test.YtkegmjebkikniaaPx3
import Derived.Test.YtkegmjebkikniaaPx4
import Derived.Test.YtkegmjebkikniaaPx5
import Derived.Test.YtkegmjebkikniaaPx7
namespace Go.Proofs.YtkegmjebkikniaaB
open Go.RowKit Go.Proofs.YtkegmjebkikniaaW.PrintWords Go.Proofs.YtkegmjebkikniaaW.PrintLast Go.Proofs.Ytkegmjebkikniaa.P

abbrev R := S55
abbrev GoodRenewals (l : List R) : Prop := l.length ≤ 1048576 ∧ ∀ x ∈ l, GoodRenewal x
def renB (x : R) : Bool := nameB x.f0 && ((decide (1 ≤ x.f1) && decide (x.f1 ≤ 200)) && ((decide (0 ≤ x.f2) && decide (x.f2 ≤ 1000)) && (decide (0 ≤ x.f3) && decide (x.f3 ≤ 1000))))
def smR (a : ByteArray) (y : R) : Bool := y.f0.toList == a.toList
theorem smR_pos {a : ByteArray} {y : R} (h : y.f0.toList = a.toList) : smR a y = true := by simp [smR, h]
theorem smR_neg {a : ByteArray} {y : R} (h : ¬ y.f0.toList = a.toList) : smR a y = false := by simp [smR, h]
def okFrom : List R → List R → Bool
  | _, [] => true
  | p, x :: xs => renB x && (!(p.any (smR x.f0)) && okFrom (p ++ [x]) xs)
theorem spec_one (x : R) (hs : x.f0.size ≤ maxLen) : Ev (fun k => spec_l22One.f k x.f0 x.f1 x.f2 x.f3) (renB x) := by
  unfold spec_l22One.f renB
  refine Ev.bind (spec_name x.f0 hs) ?_
  cases nameB x.f0 with
  | false => exact ev_neg (by simp) (Ev.now _)
  | true =>
    refine ev_pos rfl (ev_bind0 (in_some _ _ _) ?_)
    cases decide (1 ≤ x.f1) && decide (x.f1 ≤ 200) with
    | false => exact ev_neg (by simp) (Ev.now _)
    | true =>
      refine ev_pos rfl (ev_bind0 (in_some _ _ _) ?_)
      cases decide (0 ≤ x.f2) && decide (x.f2 ≤ 1000) with
      | false => exact ev_neg (by simp) (Ev.now _)
      | true => exact ev_pos rfl (ev_bind0 (in_some _ _ _) (Ev.now _))
theorem go_any : ∀ (xs : List R) (a : ByteArray) (i : Int), 0 ≤ i → decide (0 ≤ impl_Renewal_60.go xs a i) = xs.any (smR a) := by
  intro xs
  induction xs with
  | nil => intro a i _; simp [impl_Renewal_60.go]
  | cons x xs ih =>
    intro a i hi
    rw [impl_Renewal_60.go, List.any_cons]
    by_cases h : x.f0.toList = a.toList
    · rw [if_pos h, smR_pos h, decide_eq_true hi]
      rfl
    · rw [if_neg h, smR_neg h, Bool.false_or]
      exact ih a (i + 1) (by omega)
theorem ok_inner (l : List R) (q : List R) (x : R) (ys : List R) (hq : l = q ++ x :: ys) (hm : l.length ≤ 1048576) {r : Bool} (h : Ev (fun k => spec_l22Ok.l0 k l ((q.length : Int) + 1)) r) :
    ∀ (b a : List R), q = a ++ b → Ev (fun k => spec_l22Ok.l1 k l (q.length : Int) (a.length : Int)) (!(b.any (smR x.f0)) && r) := by
  have hL : (l.length : Int) = (q.length : Int) + (ys.length + 1) := by rw [hq]; simp
  have hx : rd_T55 l (q.length : Int) = x := by rw [hq]; exact rd55_mid q x ys
  intro b
  induction b with
  | nil =>
    intro a ha
    have e : a = q := by rw [ha]; simp
    refine Ev.step (fun k => by rw [spec_l22Ok.l1]) ?_
    refine ev_neg (by rw [e]; omega) ?_
    rw [wrap_small (by omega) (by omega)]
    refine ev_of h ?_
    simp
  | cons y b ih =>
    intro a ha
    have hql : (q.length : Int) = a.length + (b.length + 1) := by rw [ha]; simp
    have hy : rd_T55 l (a.length : Int) = y := by
      rw [hq, ha, List.append_assoc, List.cons_append]
      exact rd55_mid a y (b ++ x :: ys)
    have hw : wrap64 ((a.length : Int) + 1) = ((a ++ [y]).length : Int) := wrap_next a y (by omega)
    have hi := ih (a ++ [y]) (by rw [ha]; simp)
    refine Ev.step (fun k => by rw [spec_l22Ok.l1]) ?_
    refine ev_pos (by omega) (ev_pos (by omega) (ev_pos (by omega) (ev_pos (by omega) (ev_pos (by omega) ?_))))
    rw [hx, hy, hw]
    refine ev_ite (fun hs => ?_) (fun hs => ?_)
    · refine ev_of (Ev.now _) ?_
      rw [List.any_cons, smR_pos hs]
      rfl
    · refine ev_of hi ?_
      rw [List.any_cons, smR_neg hs, Bool.false_or]
theorem spec_ok_loop (l : List R) (hm : l.length ≤ 1048576) (hs : ∀ x ∈ l, x.f0.size ≤ maxLen) : ∀ (xs p : List R), l = p ++ xs → Ev (fun k => spec_l22Ok.l0 k l (p.length : Int)) (okFrom p xs && decide ((l.length : Int) ≤ 7)) := by
  intro xs
  induction xs with
  | nil =>
    intro p hp
    have e : p = l := by rw [hp]; simp
    refine Ev.step (fun k => by rw [spec_l22Ok.l0]) ?_
    refine ev_neg (by rw [e]; omega) (ev_of (Ev.now _) ?_)
    simp [okFrom]
  | cons x xs ih =>
    intro p hp
    have hpl : (p.length : Int) + (xs.length + 1) = l.length := by rw [hp]; simp
    have hx : rd_T55 l (p.length : Int) = x := by rw [hp]; exact rd55_mid p x xs
    have hi := ih (p ++ [x]) (by rw [hp]; simp)
    have hz : ((p ++ [x]).length : Int) = (p.length : Int) + 1 := by simp
    rw [hz] at hi
    have hin := ok_inner l p x xs hp hm hi p [] rfl
    refine Ev.step (fun k => by rw [spec_l22Ok.l0]) ?_
    refine ev_pos (by omega) (ev_pos (Int.natCast_nonneg _) ?_)
    rw [hx]
    refine Ev.bind (spec_one x (hs x (by rw [hp]; simp))) (ev_ite (fun h => ?_) (fun h => ?_))
    · refine ev_of hin ?_
      simp [okFrom, h, Bool.and_assoc]
    · refine ev_of (Ev.now _) ?_
      simp only [Bool.not_eq_true] at h
      simp [okFrom, h]
theorem spec_ok (l : List R) (hm : l.length ≤ 1048576) (hs : ∀ x ∈ l, x.f0.size ≤ maxLen) : Ev (fun k => spec_l22Ok.f k l) (okFrom [] l && decide ((l.length : Int) ≤ 7)) := by
  unfold spec_l22Ok.f
  exact spec_ok_loop l hm hs l [] rfl
theorem impl_ok_loop (l : List R) (hm : l.length ≤ 1048576) (hs : ∀ x ∈ l, x.f0.size ≤ maxLen) : ∀ (xs p : List R), l = p ++ xs → Ev (fun k => impl_ValidRenewals.l0 k l l (l.length : Int) (p.length : Int)) (okFrom p xs) := by
  intro xs
  induction xs with
  | nil =>
    intro p hp
    have e : p = l := by rw [hp]; simp
    refine Ev.step (fun k => by rw [impl_ValidRenewals.l0]) ?_
    exact ev_neg (by rw [e]; omega) (Ev.now _)
  | cons x xs ih =>
    intro p hp
    have hpl : (p.length : Int) + (xs.length + 1) = l.length := by rw [hp]; simp
    have hx : rd_T55 l (p.length : Int) = x := by rw [hp]; exact rd55_mid p x xs
    have hw : wrap64 ((p.length : Int) + 1) = ((p ++ [x]).length : Int) := wrap_next p x (by omega)
    have hi := ih (p ++ [x]) (by rw [hp]; simp)
    have ht : l.take ((p.length : Int)).toNat = p := by rw [hp]; simp
    have bad : renB x = false → Ev (fun k => impl_ValidRenewals.j1 k l (p.length : Int) l (l.length : Int) (p.length : Int) true x.f0 x.f1 x.f2 x.f3) (okFrom p (x :: xs)) := fun h => by
      refine Ev.step (fun k => by rw [impl_ValidRenewals.j1]) (ev_pos rfl (ev_of (Ev.now _) ?_))
      simp [okFrom, h]
    have good : renB x = true → Ev (fun k => impl_ValidRenewals.j1 k l (p.length : Int) l (l.length : Int) (p.length : Int) false x.f0 x.f1 x.f2 x.f3) (okFrom p (x :: xs)) := fun h => by
      refine Ev.step (fun k => by rw [impl_ValidRenewals.j1]) (ev_neg (by simp) (ev_pos (Int.natCast_nonneg _) (ev_pos (by omega) ?_)))
      rw [ht, hw]
      refine ev_bind0 (a := p.any (smR x.f0)) (by unfold impl_Renewal_60.f; rw [go_any p x.f0 0 (by omega)]) (ev_ite (fun h2 => ?_) (fun h2 => ?_))
      · refine ev_of (Ev.now _) ?_
        simp only [okFrom, h2]
        simp
      · simp only [Bool.not_eq_true] at h2
        refine ev_of hi ?_
        simp only [okFrom, h, h2]
        simp
    refine Ev.step (fun k => by rw [impl_ValidRenewals.l0]) ?_
    refine ev_pos (by omega) (ev_pos (Int.natCast_nonneg _) (ev_pos (by omega) ?_))
    rw [hx]
    refine Ev.bind (impl_name x.f0 (hs x (by rw [hp]; simp))) (ev_ite (fun h1 => ?_) (fun h1 => bad (by simp only [Bool.not_eq_true] at h1; simp [renB, h1])))
    refine ev_bind0 (within_some _ _ _) (ev_ite (fun h2 => ?_) (fun h2 => bad (by simp only [Bool.not_eq_true] at h2; simp [renB, h2])))
    refine ev_bind0 (within_some _ _ _) (ev_ite (fun h3 => ?_) (fun h3 => bad (by simp only [Bool.not_eq_true] at h3; simp [renB, h3])))
    refine ev_bind0 (within_some _ _ _) ?_
    cases h4 : decide (0 ≤ x.f3) && decide (x.f3 ≤ 1000) with
    | true => exact good (by rw [renB, h1, h2, h3, h4]; rfl)
    | false => exact bad (by rw [renB, h4]; simp)
theorem impl_ok (l : List R) (hm : l.length ≤ 1048576) (hs : ∀ x ∈ l, x.f0.size ≤ maxLen) : Ev (fun k => impl_ValidRenewals.f k l) (okFrom [] l && decide ((l.length : Int) ≤ 7)) := by
  unfold impl_ValidRenewals.f
  refine ev_ite (fun h => ?_) (fun h => ?_)
  · refine ev_of (Ev.now _) ?_
    rw [decide_eq_false (by omega)]
    simp
  · refine ev_of (impl_ok_loop l hm hs l [] rfl) ?_
    rw [decide_eq_true (by omega)]
    simp
theorem good_sizes {l : List R} (h : GoodRenewals l) : ∀ x ∈ l, x.f0.size ≤ maxLen := fun x hx => by
  have := (h.2 x hx).1
  unfold maxLen
  omega
theorem ValidRenewals_both (l : List R) (h : GoodRenewals l) : Both (fun _ => True) (fun k => spec_ValidRenewals.f k l) (fun k => impl_ValidRenewals.f k l) := by
  unfold spec_ValidRenewals.f
  exact both_of (Ev.bind (spec_ok l h.1 (good_sizes h)) (Ev.now _)) (impl_ok l h.1 (good_sizes h)) trivial

/-! ### orders -/
def ndF : List Int → List Int → Bool
  | _, [] => true
  | p, x :: xs => !(p.contains x) && ndF (p ++ [x]) xs
def inR (n x : Int) : Bool := decide (0 ≤ x) && decide (x ≤ n - 1)
theorem has_loop (a : Int) : ∀ (xs p : List Int), p.length + xs.length ≤ 1048576 → Ev (fun k => spec_l00Has.l0 k (p ++ xs) a (p.length : Int)) (xs.contains a) := by
  intro xs
  induction xs with
  | nil =>
    intro p _
    refine Ev.step (fun k => by rw [spec_l00Has.l0]) ?_
    exact ev_neg (not_lt_end p) (Ev.now _)
  | cons x xs ih =>
    intro p hl
    rw [List.length_cons] at hl
    have hw : wrap64 ((p.length : Int) + 1) = ((p ++ [x]).length : Int) := wrap_next p x (by omega)
    have hi := ih (p ++ [x]) (by rw [List.length_append]; simp; omega)
    refine Ev.step (fun k => by rw [spec_l00Has.l0]) ?_
    refine ev_pos (lt_mid p x xs) (ev_pos (Int.natCast_nonneg _) ?_)
    rw [rd_mid, hw, push_mid p x xs]
    refine ev_ite (fun h => ?_) (fun h => ?_)
    · refine ev_of (Ev.now _) ?_
      simp [h]
    · refine ev_of hi ?_
      rw [List.contains_cons]
      have : (a == x) = false := by simp; omega
      rw [this, Bool.false_or]
theorem has_ev (l : List Int) (a : Int) (h : l.length ≤ 1048576) : Ev (fun k => spec_l00Has.f k l a) (l.contains a) := by
  unfold spec_l00Has.f
  exact has_loop a l [] (by simp; omega)
theorem index_loop (a : Int) : ∀ (xs p : List Int), p.length + xs.length ≤ 1048576 → ∃ r, Ev (fun k => slices_Index_int64_int64.l0 k (p ++ xs) a ((p ++ xs).length : Int) (p.length : Int)) r ∧ decide (r ≥ 0) = xs.contains a := by
  intro xs
  induction xs with
  | nil =>
    intro p _
    refine ⟨-1, Ev.step (fun k => by rw [slices_Index_int64_int64.l0]) ?_, rfl⟩
    exact ev_neg (not_lt_end p) (Ev.now _)
  | cons x xs ih =>
    intro p hl
    rw [List.length_cons] at hl
    have hw : wrap64 ((p.length : Int) + 1) = ((p ++ [x]).length : Int) := wrap_next p x (by omega)
    obtain ⟨r, h1, h2⟩ := ih (p ++ [x]) (by rw [List.length_append]; simp; omega)
    by_cases h : a = x
    · refine ⟨(p.length : Int), Ev.step (fun k => by rw [slices_Index_int64_int64.l0]) ?_, ?_⟩
      · refine ev_pos (lt_mid p x xs) (ev_pos (Int.natCast_nonneg _) (ev_pos (lt_mid p x xs) ?_))
        rw [rd_mid]
        exact ev_pos h (Ev.now _)
      · rw [decide_eq_true (by omega)]
        simp [h]
    · refine ⟨r, Ev.step (fun k => by rw [slices_Index_int64_int64.l0]) ?_, ?_⟩
      · refine ev_pos (lt_mid p x xs) (ev_pos (Int.natCast_nonneg _) (ev_pos (lt_mid p x xs) ?_))
        rw [rd_mid, hw, push_mid p x xs]
        exact ev_neg h h1
      · rw [h2, List.contains_cons]
        have : (a == x) = false := by simp; omega
        rw [this, Bool.false_or]
theorem contains_ev (l : List Int) (a : Int) (h : l.length ≤ 1048576) : Ev (fun k => slices_Contains_int64_int64.f k l a) (l.contains a) := by
  obtain ⟨r, h1, h2⟩ := index_loop a l [] (by simp; omega)
  unfold slices_Contains_int64_int64.f slices_Index_int64_int64.f
  exact Ev.bind h1 (ev_of (Ev.now _) h2)
theorem order_loop (n : Int) (h0 : 0 ≤ n) (h1 : n ≤ 1048576) : ∀ (xs p : List Int), p.length + xs.length ≤ 1048576 → Ev (fun k => spec_l22Order.l0 k n (p ++ xs) (p.length : Int)) (xs.all (inR n) && ndF p xs && decide (((p ++ xs).length : Int) = n)) := by
  intro xs
  induction xs with
  | nil =>
    intro p _
    refine Ev.step (fun k => by rw [spec_l22Order.l0]) ?_
    refine ev_neg (not_lt_end p) (ev_of (Ev.now _) ?_)
    simp [ndF, Bool.beq_eq_decide_eq]
  | cons x xs ih =>
    intro p hl
    rw [List.length_cons] at hl
    have hw : wrap64 ((p.length : Int) + 1) = ((p ++ [x]).length : Int) := wrap_next p x (by omega)
    have hn : wrap64 (n - 1) = n - 1 := wrap_small (by omega) (by omega)
    have hi := ih (p ++ [x]) (by rw [List.length_append]; simp; omega)
    have ht : (p ++ x :: xs).take ((p.length : Int)).toNat = p := by simp
    have hle : (p.length : Int) ≤ ((p ++ x :: xs).length : Int) := by simp; omega
    refine Ev.step (fun k => by rw [spec_l22Order.l0]) ?_
    refine ev_pos (lt_mid p x xs) (ev_pos (Int.natCast_nonneg _) ?_)
    rw [rd_mid, hn, ht, hw, push_mid p x xs]
    rw [push_mid p x xs] at hle
    refine ev_bind0 (in_some _ _ _) (ev_ite (fun h => ?_) (fun h => ?_))
    · refine ev_pos hle (Ev.bind (has_ev p x (by omega)) (ev_ite (fun h2 => ?_) (fun h2 => ?_)))
      · refine ev_of (Ev.now _) ?_
        rw [ndF, h2]
        simp
      · simp only [Bool.not_eq_true] at h2
        refine ev_of hi ?_
        rw [ndF, h2, List.all_cons, show inR n x = true from h]
        rfl
    · refine ev_of (Ev.now _) ?_
      simp only [Bool.not_eq_true] at h
      rw [List.all_cons, show inR n x = false from h]
      rfl
theorem areIn_loop (n : Int) : ∀ (xs p : List Int), p.length + xs.length ≤ 1048576 → Ev (fun k => impl_areIn.l0 k 0 (n - 1) (p ++ xs) ((p ++ xs).length : Int) (p.length : Int)) (xs.all (inR n)) := by
  intro xs
  induction xs with
  | nil =>
    intro p _
    refine Ev.step (fun k => by rw [impl_areIn.l0]) ?_
    exact ev_neg (not_lt_end p) (Ev.now _)
  | cons x xs ih =>
    intro p hl
    rw [List.length_cons] at hl
    have hw : wrap64 ((p.length : Int) + 1) = ((p ++ [x]).length : Int) := wrap_next p x (by omega)
    have hi := ih (p ++ [x]) (by rw [List.length_append]; simp; omega)
    refine Ev.step (fun k => by rw [impl_areIn.l0]) ?_
    refine ev_pos (lt_mid p x xs) (ev_pos (Int.natCast_nonneg _) (ev_pos (lt_mid p x xs) ?_))
    rw [rd_mid, hw, push_mid p x xs]
    refine ev_bind0 (within_some _ _ _) (ev_ite (fun h => ?_) (fun h => ?_))
    · refine ev_of hi ?_
      rw [List.all_cons, show inR n x = true from h]
      rfl
    · refine ev_of (Ev.now _) ?_
      simp only [Bool.not_eq_true] at h
      rw [List.all_cons, show inR n x = false from h]
      rfl
theorem dup_loop (o : List Int) (ho : o.length ≤ 1048576) : ∀ (xs p : List Int), o = p ++ xs → Ev (fun k => impl_orderCode.l0 k o o (o.length : Int) (p.length : Int)) (if ndF p xs = true then 0 else 2) := by
  intro xs
  induction xs with
  | nil =>
    intro p hp
    have e : p = o := by rw [hp]; simp
    refine Ev.step (fun k => by rw [impl_orderCode.l0]) ?_
    exact ev_neg (by rw [e]; omega) (Ev.now _)
  | cons x xs ih =>
    intro p hp
    have hpl : (p.length : Int) + (xs.length + 1) = o.length := by rw [hp]; simp
    have hx : rd o (p.length : Int) = x := by rw [hp]; exact rd_mid p x xs
    have hw : wrap64 ((p.length : Int) + 1) = ((p ++ [x]).length : Int) := wrap_next p x (by omega)
    have ht : o.take ((p.length : Int)).toNat = p := by rw [hp]; simp
    have hi := ih (p ++ [x]) (by rw [hp]; simp)
    refine Ev.step (fun k => by rw [impl_orderCode.l0]) ?_
    refine ev_pos (by omega) (ev_pos (Int.natCast_nonneg _) (ev_pos (by omega) (ev_pos (by omega) ?_)))
    rw [hx, ht, hw]
    refine Ev.bind (contains_ev p x (by omega)) (ev_ite (fun h => ?_) (fun h => ?_))
    · refine ev_of (Ev.now _) ?_
      rw [ndF, h]
      rfl
    · simp only [Bool.not_eq_true] at h
      refine ev_of hi ?_
      rw [ndF, h]
      rfl
def codeR (l : List R) (o : List Int) : Int := if (okFrom [] l && decide ((l.length : Int) ≤ 7)) = true then (if (o.all (inR (l.length : Int)) && ndF [] o && decide ((o.length : Int) = (l.length : Int))) = true then 0 else 2) else 1
theorem spec_code (l : List R) (o : List Int) (h : GoodRenewals l) (ho : o.length ≤ 1048576) : Ev (fun k => spec_l22Code.f k l o) (codeR l o) := by
  unfold spec_l22Code.f codeR spec_l22Order.f
  have hl := h.1
  refine Ev.bind (spec_ok l h.1 (good_sizes h)) (ev_ite (fun h1 => ?_) (fun h1 => ev_of (Ev.now _) (if_neg h1).symm))
  rw [if_pos h1]
  have ho2 := order_loop (l.length : Int) (by omega) (by omega) o [] (by simp; omega)
  exact Ev.bind ho2 (ev_ite (fun h2 => ev_of (Ev.now _) (if_pos h2).symm) (fun h2 => ev_of (Ev.now _) (if_neg h2).symm))
theorem impl_code (l : List R) (o : List Int) (h : GoodRenewals l) (ho : o.length ≤ 1048576) : Ev (fun k => impl_orderCode.f k l o) (codeR l o) := by
  unfold impl_orderCode.f codeR impl_areIn.f
  have hl := h.1
  refine Ev.bind (impl_ok l h.1 (good_sizes h)) (ev_ite (fun h1 => ?_) (fun h1 => ev_of (Ev.now _) (if_neg h1).symm))
  rw [if_pos h1]
  have hn1 : wrap64 ((l.length : Int) - 1) = (l.length : Int) - 1 := wrap_small (by omega) (by omega)
  rw [hn1]
  have hA := areIn_loop (l.length : Int) o [] (by simp; omega)
  by_cases hlen : (o.length : Int) = (l.length : Int)
  · refine Ev.bind (ev_pos hlen hA) (ev_ite (fun h2 => ?_) (fun h2 => ?_))
    · refine ev_of (dup_loop o ho o [] rfl) ?_
      rw [h2, decide_eq_true hlen]
      simp
    · refine ev_of (Ev.now _) ?_
      simp only [Bool.not_eq_true] at h2
      rw [h2]
      rfl
  · refine Ev.bind (a := false) (ev_neg hlen (Ev.now _)) (ev_neg (by simp) (ev_of (Ev.now _) ?_))
    rw [decide_eq_false hlen]
    simp
theorem codeR_in {l : List R} {o : List Int} (h : codeR l o = 0) : (l.length : Int) ≤ 7 ∧ o.length = l.length ∧ ∀ x ∈ o, 0 ≤ x ∧ x < (l.length : Int) := by
  unfold codeR at h
  split at h
  · rename_i h1
    split at h
    · rename_i h2
      simp only [Bool.and_eq_true, decide_eq_true_eq, List.all_eq_true] at h1 h2
      refine ⟨h1.2, by omega, fun x hx => ?_⟩
      have := h2.1.1 x hx
      simp [inR] at this
      omega
    · simp at h
  · simp at h

/-! ### ends -/
theorem ends_loop (l : List R) (o : List Int) (ho : o.length ≤ 1048576) (hin : ∀ x ∈ o, 0 ≤ x ∧ x < (l.length : Int)) : ∀ (xs p e : List Int) (d : Int), o = p ++ xs → e.length = l.length →
    Both (fun r => r.length = l.length) (fun k => spec_l22Ends.l0 k l o e d (p.length : Int)) (fun k => impl_endsOf.l0 k l e d o (o.length : Int) (p.length : Int)) := by
  intro xs
  induction xs with
  | nil =>
    intro p e d hp he
    have ee : p = o := by rw [hp]; simp
    exact both_step (fun k => by rw [spec_l22Ends.l0]) (fun k => by rw [impl_endsOf.l0]) (both_negL (by rw [ee]; omega) (both_negR (by rw [ee]; omega) (both_now _ he)))
  | cons x xs ih =>
    intro p e d hp he
    have hpl : (p.length : Int) + (xs.length + 1) = o.length := by rw [hp]; simp
    have hx : rd o (p.length : Int) = x := by rw [hp]; exact rd_mid p x xs
    have hw : wrap64 ((p.length : Int) + 1) = ((p ++ [x]).length : Int) := wrap_next p x (by omega)
    have hxi := hin x (by rw [hp]; simp)
    refine both_step (fun k => by rw [spec_l22Ends.l0]) (fun k => by rw [impl_endsOf.l0]) ?_
    refine both_posL (by omega) (both_posL (Int.natCast_nonneg _) (both_posR (by omega) (both_posR (Int.natCast_nonneg _) (both_posR (by omega) ?_))))
    rw [hx, hw]
    refine both_posL hxi.1 (both_posL hxi.2 (both_posL (by omega) (both_posR hxi.1 (both_posR hxi.2 (both_posR (by omega) ?_)))))
    exact ih (p ++ [x]) _ _ (by rw [hp]; simp) (by rw [List.length_set]; exact he)
theorem ends_both (l : List R) (o : List Int) (ho : o.length ≤ 1048576) (hl : l.length ≤ 1048576) (hin : ∀ x ∈ o, 0 ≤ x ∧ x < (l.length : Int)) : Both (fun r => r.length = l.length) (fun k => spec_l22Ends.f k l o) (fun k => impl_endsOf.f k l o) := by
  unfold spec_l22Ends.f impl_endsOf.f
  refine both_posL (by omega) (both_posL (by omega) (both_posR (by omega) (both_posR (by omega) ?_)))
  exact ends_loop l o ho hin o [] _ 0 rfl (by simp)
end Go.Proofs.YtkegmjebkikniaaB
