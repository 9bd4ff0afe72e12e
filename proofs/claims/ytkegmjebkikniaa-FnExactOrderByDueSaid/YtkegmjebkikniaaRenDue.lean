/- OrderByDue, of both: each renewal is put behind the last one that is due no later. -/
import Derived.Test.YtkegmjebkikniaaRenHarm
import Derived.Test.YtkegmjebkikniaaPx0
import Derived.Test.YtkegmjebkikniaaPx10
import Derived.Test.YtkegmjebkikniaaPx33
import Derived.Test.YtkegmjebkikniaaPx34
namespace Go.Proofs.YtkegmjebkikniaaB
open Go.RowKit Go.Proofs.YtkegmjebkikniaaW.PrintWords Go.Proofs.YtkegmjebkikniaaW.PrintLast Go.Proofs.YtkegmjebkikniaaW.Hand Go.Proofs.Ytkegmjebkikniaa.P

/-- Where x goes among the first k of a list: behind the last one that is due no later. -/
def posD (l : List R) (o : List Int) (x : Int) : Nat → Nat
  | 0 => 0
  | k + 1 => if (rd_T55 l (rd o (k : Int))).f2 > (rd_T55 l x).f2 then posD l o x k else k + 1
theorem posD_le (l : List R) (o : List Int) (x : Int) : ∀ k, posD l o x k ≤ k := by
  intro k
  induction k with
  | zero => exact Nat.le_refl _
  | succ k ih =>
    rw [posD]
    split <;> omega
def putD (l : List R) (x : Int) (o : List Int) : List Int := o.take (posD l o x o.length) ++ x :: o.drop (posD l o x o.length)
def dueFrom (l : List R) : Nat → Nat → List Int → List Int
  | 0, _, o => o
  | m + 1, i, o => dueFrom l m (i + 1) (putD l (i : Int) o)
def upD (i m : Nat) : List Int := (List.range' i m).map fun (i : Nat) => (i : Int)
theorem upD_succ (i m : Nat) : upD i (m + 1) = (i : Int) :: upD (i + 1) m := by unfold upD; rw [List.range'_succ]; rfl
theorem putD_length (l : List R) (x : Int) (o : List Int) : (putD l x o).length = o.length + 1 := by
  have := posD_le l o x o.length
  unfold putD
  rw [List.length_append, List.length_cons, List.length_take, List.length_drop]
  omega
theorem posD_app (l : List R) (o q : List Int) (x : Int) : ∀ k, k ≤ o.length → posD l (o ++ q) x k = posD l o x k := by
  intro k
  induction k with
  | zero => intro _; rfl
  | succ k ih =>
    intro h
    have e : rd (o ++ q) (k : Int) = rd o (k : Int) := by
      unfold rd
      rw [List.getD_eq_getElem?_getD, List.getD_eq_getElem?_getD, List.getElem?_append_left (by omega)]
    rw [posD, posD, ih (by omega), e]
theorem insJ_put (l : List R) (x : Int) : ∀ (n : Nat) (p q : List Int), p.length = n → insJ l n (p ++ x :: q) = p.take (posD l p x n) ++ x :: (p.drop (posD l p x n) ++ q) := by
  intro n
  induction n with
  | zero =>
    intro p q h
    rw [List.length_eq_zero_iff.1 h]
    rfl
  | succ n ih =>
    intro p q h
    have hne : p ≠ [] := by
      intro e
      rw [e] at h
      simp at h
    obtain ⟨p', y, rfl⟩ : ∃ p' y, p = p' ++ [y] := ⟨p.dropLast, p.getLast hne, (List.dropLast_concat_getLast hne).symm⟩
    have hp : p'.length = n := by simpa using h
    have h1 : rd (p' ++ [y] ++ x :: q) ((n + 1 : Nat) : Int) = x := by
      have := rd_mid (p' ++ [y]) x q
      rwa [List.length_append, List.length_singleton, hp] at this
    have h2 : rd (p' ++ [y] ++ x :: q) (n : Int) = y := by
      have := rd_mid p' y (x :: q)
      rw [hp] at this
      rw [List.append_assoc]
      exact this
    have h3 : rd (p' ++ [y]) (n : Int) = y := by
      have := rd_mid p' y []
      rwa [hp] at this
    rw [insJ, h1, h2, posD, h3]
    by_cases hd : (rd_T55 l y).f2 > (rd_T55 l x).f2
    · have hs : swapL (p' ++ [y] ++ x :: q) n (n + 1) = p' ++ x :: (y :: q) := by
        unfold swapL
        rw [h1, h2]
        have e1 : (p' ++ [y] ++ x :: q).set (n + 1) y = p' ++ [y] ++ y :: q := by
          have := set_mid (p' ++ [y]) x y q
          rw [List.length_append, List.length_singleton, hp, Int.toNat_natCast] at this
          exact this
        rw [e1, List.append_assoc]
        have := set_mid p' y x (y :: q)
        rw [hp, Int.toNat_natCast] at this
        exact this
      rw [if_pos (by unfold ltD; exact decide_eq_true (by omega)), if_pos hd, hs, ih p' (y :: q) hp, posD_app l p' [y] x n (by omega)]
      have hle := posD_le l p' x n
      rw [List.take_append_of_le_length (by omega), List.drop_append_of_le_length (by omega), List.append_assoc]
      rfl
    · rw [if_neg (by unfold ltD; rw [decide_eq_false (by omega)]; simp), if_neg hd, List.take_of_length_le (by omega), List.drop_eq_nil_of_le (by omega)]
      rfl
theorem insFrom_due (l : List R) : ∀ (m i : Nat) (o : List Int), o.length = i → insFrom l m i (o ++ upD i m) = dueFrom l m i o := by
  intro m
  induction m with
  | zero => intro i o _; rw [insFrom, dueFrom]; simp [upD]
  | succ m ih =>
    intro i o h
    rw [insFrom, dueFrom, upD_succ, insJ_put l (i : Int) i o (upD (i + 1) m) h]
    have e : o.take (posD l o (i : Int) i) ++ (i : Int) :: (o.drop (posD l o (i : Int) i) ++ upD (i + 1) m) = putD l (i : Int) o ++ upD (i + 1) m := by
      unfold putD
      rw [h, List.append_assoc]
      rfl
    rw [e]
    exact ih _ _ (by rw [putD_length, h])
theorem insFrom_all (l : List R) (n : Nat) : insFrom l (n - 1) 1 (iotaL n) = dueFrom l n 0 [] := by
  cases n with
  | zero => rfl
  | succ n =>
    have e : iotaL (n + 1) = [(0 : Int)] ++ upD 1 n := by
      unfold iotaL upD
      rw [List.range_eq_range', List.range'_succ]
      rfl
    rw [e, Nat.add_sub_cancel, insFrom_due l n 1 [0] rfl]
    rfl
theorem putD_in (l : List R) (n : Nat) (x : Int) (o : List Int) (hx : 0 ≤ x ∧ x < (n : Int)) (h : ∀ y ∈ o, 0 ≤ y ∧ y < (n : Int)) : ∀ y ∈ putD l x o, 0 ≤ y ∧ y < (n : Int) := by
  intro y hy
  unfold putD at hy
  rcases List.mem_append.1 hy with hy | hy
  · exact h y (List.mem_of_mem_take hy)
  · rcases List.mem_cons.1 hy with rfl | hy
    · exact hx
    · exact h y (List.mem_of_mem_drop hy)
theorem ownD (o : List Int) (h : o.length ≤ 1048576) : spec_l00Own.f o = some o := by
  unfold spec_l00Own.f
  rw [Option.bind_some, if_pos (by simp; omega)]
  rfl
section
variable (l : List R) (hl : l.length ≤ 7)
include hl
theorem due_pos {r : List Int × Int} (o : List Int) (i : Nat) (hi : i < l.length) (ho : o.length = i) (hin : ∀ y ∈ o, 0 ≤ y ∧ y < (l.length : Int)) (hnext : Ev (fun k => spec_OrderByDue.l0 k l (putD l (i : Int) o) ((i : Int) + 1)) r) : ∀ (d : Nat), d ≤ o.length → posD l o (i : Int) d = posD l o (i : Int) o.length →
    Ev (fun k => spec_OrderByDue.l1 k l o (i : Int) (d : Int)) r := by
  intro d
  have hend : ∀ d : Nat, d ≤ o.length → posD l o (i : Int) o.length = d → Ev (fun k => if 0 ≤ (d : Int) then (if (d : Int) ≤ (o.length : Int) then ((spec_l00Own.f (o.take ((d : Int) : Int).toNat)).bind fun t577 => (if t577.length < 17592186044416 then ((some (t577 ++ [(i : Int)] : List Int)).bind fun y580 => ((some (o.drop ((d : Int) : Int).toNat : List Int)).bind fun y583 => (if y580.length + y583.length < 17592186044416 then (spec_OrderByDue.l0 k l (y580 ++ y583) (wrap64 ((i : Int) + 1))) else (none)))) else (none))) else (none)) else (none)) r := by
    intro d hd he
    have hw : wrap64 ((i : Int) + 1) = (i : Int) + 1 := wrap_small (by omega) (by omega)
    rw [Int.toNat_natCast, hw]
    refine ev_pos (by omega) (ev_pos (by omega) (ev_bind0 (ownD _ (by rw [List.length_take]; omega)) (ev_pos (by rw [List.length_take]; omega) (ev_bind0 rfl (ev_bind0 rfl (ev_pos (by rw [List.length_append, List.length_take, List.length_drop, List.length_singleton]; omega) ?_))))))
    have e : o.take d ++ [(i : Int)] ++ o.drop d = putD l (i : Int) o := by
      unfold putD
      rw [he, List.append_assoc]
      rfl
    rw [e]
    exact hnext
  induction d with
  | zero =>
    intro _ hd
    refine Ev.step (fun k => by rw [spec_OrderByDue.l1]) (ev_neg (by omega) ?_)
    exact hend 0 (by omega) (by rw [← hd]; rfl)
  | succ d ih =>
    intro hle hd
    have hw : wrap64 (((d + 1 : Nat) : Int) - 1) = (d : Int) := (wrap_small (by omega) (by omega)).trans (by omega)
    have hy : 0 ≤ rd o (d : Int) ∧ rd o (d : Int) < (l.length : Int) := by
      refine hin _ ?_
      unfold rd
      rw [Int.toNat_natCast, List.getD_eq_getElem?_getD, List.getElem?_eq_getElem (by omega)]
      exact List.getElem_mem _
    refine Ev.step (fun k => by rw [spec_OrderByDue.l1]) (ev_pos (by omega) ?_)
    rw [hw]
    refine ev_pos (by omega) (ev_pos (by omega) (ev_pos hy.1 (ev_pos hy.2 (ev_pos (by omega) (ev_pos (by omega) (ev_ite (fun h => ?_) (fun h => ?_)))))))
    · refine ih (by omega) ?_
      rw [← hd, posD, if_pos h]
    · refine hend (d + 1) hle ?_
      rw [← hd, posD, if_neg h]
theorem due_loop : ∀ (m i : Nat) (o : List Int), i + m = l.length → o.length = i → (∀ y ∈ o, 0 ≤ y ∧ y < (l.length : Int)) → Ev (fun k => spec_OrderByDue.l0 k l o (i : Int)) (dueFrom l m i o, 0) := by
  intro m
  induction m with
  | zero =>
    intro i o hi ho _
    refine Ev.step (fun k => by rw [spec_OrderByDue.l0]) ?_
    exact ev_neg (by omega) (Ev.now _)
  | succ m ih =>
    intro i o hi ho hin
    refine Ev.step (fun k => by rw [spec_OrderByDue.l0]) (ev_pos (by omega) ?_)
    refine due_pos l hl o i (by omega) ho hin ?_ o.length (Nat.le_refl _) rfl
    have := ih (i + 1) (putD l (i : Int) o) (by omega) (by rw [putD_length, ho]) (putD_in l l.length (i : Int) o (by omega) hin)
    rw [dueFrom]
    exact this
end
theorem dueFrom_length (l : List R) : ∀ (m i : Nat) (o : List Int), (dueFrom l m i o).length = o.length + m := by
  intro m
  induction m with
  | zero => intro i o; rfl
  | succ m ih => intro i o; rw [dueFrom, ih, putD_length]; omega
theorem OrderByDue_both (l : List R) (h : GoodRenewals l) : Both (fun r => r.1.length ≤ 1048576) (fun k => spec_OrderByDue.f k l) (fun k => impl_OrderByDue.f k l) := by
  unfold spec_OrderByDue.f impl_OrderByDue.f
  obtain ⟨b, b1, b2, b3⟩ := valid_ev l h
  refine both_bindL b1 (both_bindR b2 ?_)
  cases b with
  | false => exact both_negL (by simp) (both_negR (by simp) (both_now _ (by simp)))
  | true =>
    refine both_posL rfl (both_posR rfl (both_posR (b3 rfl) ?_))
    rw [insFrom_all]
    exact both_of (due_loop l (b3 rfl) l.length 0 [] (by omega) rfl (fun y hy => by simp at hy)) (Ev.now _) (by dsimp only; rw [dueFrom_length]; have := b3 rfl; simp; omega)
end Go.Proofs.YtkegmjebkikniaaB
