/- CutPiece, of both. -/
import Derived.Test.YtbglfbmnibhgeaaCoilBest
import Derived.Test.YtbglfbmnibhgeaaPx0
import Derived.Test.YtbglfbmnibhgeaaPx16
import Derived.Test.YtbglfbmnibhgeaaPx18
namespace Go.Proofs.YtbglfbmnibhgeaaB
open Go.RowKit Go.Proofs.YtbglfbmnibhgeaaW.PrintWords Go.Proofs.YtbglfbmnibhgeaaW.PrintLast Go.Proofs.Ytbglfbmnibhgeaa.P

theorem split_at {α : Type} (l : List α) (b : Int) (h0 : 0 ≤ b) (h1 : b < (l.length : Int)) : ∃ p x xs, l = p ++ x :: xs ∧ (p.length : Int) = b := by
  have hlt : b.toNat < l.length := by omega
  refine ⟨l.take b.toNat, l[b.toNat], l.drop (b.toNat + 1), ?_, ?_⟩
  · rw [← List.drop_eq_getElem_cons hlt, List.take_append_drop]
  · rw [List.length_take]
    omega
theorem erase_mid {α : Type} (p : List α) (x : α) (xs : List α) : (p ++ x :: xs).eraseIdx ((p.length : Int)).toNat = p ++ xs := by
  rw [Int.toNat_natCast, List.eraseIdx_append_of_length_le (Nat.le_refl _)]
  simp
theorem ite_pos {α : Type} {c : Prop} [Decidable c] {a b r : α} (h : c) (e : a = r) : (if c then a else b) = r := (if_pos h).trans e
theorem ite_neg {α : Type} {c : Prop} [Decidable c] {a b r : α} (h : ¬ c) (e : b = r) : (if c then a else b) = r := (if_neg h).trans e
theorem some_bind {α β : Type} {a : α} {f : α → Option β} {r : Option β} (e : f a = r) : (some a).bind f = r := e
theorem take_p {α : Type} (p xs : List α) : (p ++ xs).take ((p.length : Int)).toNat = p := by simp
theorem drop_p {α : Type} (p : List α) (y : α) (xs : List α) : (p ++ y :: xs).drop ((p.length : Int) + 1).toNat = xs := by
  have e : ((p.length : Int) + 1).toNat = (p ++ [y]).length := by simp
  rw [e, push_mid p y xs, List.drop_left]
theorem cut_spec (p : List C) (y : C) (xs : List C) (n : Int) (hlen : p.length + (xs.length + 1) ≤ 1048576) (hw : wrap64 (y.f1 - n) = y.f1 - n) :
    spec_l23Cut.f (p ++ y :: xs) (p.length : Int) n = some (if y.f1 > n then p ++ [⟨y.f0, y.f1 - n⟩] ++ xs else p ++ xs) := by
  have hw1 : wrap64 ((p.length : Int) + 1) = (p.length : Int) + 1 := wrap_small (by omega) (by omega)
  have hL : ((p ++ y :: xs).length : Int) = (p.length : Int) + (xs.length + 1) := by simp
  have hd := drop_p p y xs
  have ht := take_p p (y :: xs)
  unfold spec_l23Cut.f
  rw [rd45_mid, hw, hw1, ht, hd]
  refine some_bind (ite_pos (Int.natCast_nonneg _) (ite_pos (by omega) (some_bind (ite_pos (by rw [List.length_nil]; omega) (some_bind (ite_pos (by omega) ?_))))))
  rw [List.nil_append]
  by_cases hg : y.f1 > n
  · refine ite_pos hg (ite_pos (by omega) (some_bind (ite_pos (by omega) (ite_pos (by omega) (some_bind (ite_pos (by rw [List.length_append, List.length_singleton]; omega) ?_))))))
    rw [if_pos hg]
  · refine ite_neg hg (ite_pos (by omega) (ite_pos (by omega) (some_bind (ite_pos (by omega) ?_))))
    rw [if_neg hg]
theorem cut_impl (p : List C) (y : C) (xs : List C) (s : ByteArray) (n : Int) (hlen : p.length + (xs.length + 1) ≤ 1048576) (hn : n ≤ y.f1) (hw : wrap64 (y.f1 - n) = y.f1 - n)
    (hB : Ev (fun k => impl_BestCoil.f k (p ++ y :: xs) s n) ((p.length : Int), 0)) :
    Ev (fun k => impl_CutPiece.f k (p ++ y :: xs) s n) (if y.f1 > n then p ++ [⟨y.f0, y.f1 - n⟩] ++ xs else p ++ xs, (p.length : Int), 0) := by
  have hw1 : wrap64 ((p.length : Int) + 1) = (p.length : Int) + 1 := wrap_small (by omega) (by omega)
  have hL : ((p ++ y :: xs).length : Int) = (p.length : Int) + (xs.length + 1) := by simp
  have hL2 : (p ++ y :: xs).length = p.length + (xs.length + 1) := by simp
  unfold impl_CutPiece.f
  refine Ev.bind hB (ev_pos rfl (ev_bind0 rfl (ev_pos (by rw [List.length_nil]; omega) (ev_bind0 rfl ?_))))
  simp only [List.nil_append]
  rw [rd45_mid, hw, hw1, set_mid]
  refine ev_pos (Int.natCast_nonneg _) (ev_pos (by omega) (ev_bind0 rfl ?_))
  by_cases hg : y.f1 > n
  · rw [if_pos hg]
    refine ev_neg (by omega) ?_
    rw [List.append_assoc]
    exact Ev.now _
  · rw [if_neg hg]
    exact ev_pos (by omega) (ev_pos (by omega) (ev_pos (by omega) (ev_pos (by omega) (ev_of (Ev.now _) (by rw [erase_mid])))))
theorem CutPiece_both (l : List C) (x : W') (h : GoodCoils l) (hx : GoodWant x) : Both (fun r => r.1.length ≤ 1048576) (fun k => spec_CutPiece.f k l x.f0 x.f1) (fun k => impl_CutPiece.f k l x.f0 x.f1) := by
  have bad : ∀ c : Int, ¬ c = 0 → Ev (fun k => spec_l23Code.f k l x.f0 x.f1) c → Ev (fun k => impl_BestCoil.f k l x.f0 x.f1) (0, c) → Both (fun r => r.1.length ≤ 1048576) (fun k => spec_CutPiece.f k l x.f0 x.f1) (fun k => impl_CutPiece.f k l x.f0 x.f1) := by
    intro c hc h1 h2
    unfold spec_CutPiece.f impl_CutPiece.f
    exact both_bindL h1 (both_negL hc (both_bindR h2 (both_negR hc (both_now _ (by simp)))))
  have hcode := code_ev l x.f0 x.f1 h hx.1
  by_cases h1 : okCoils l = true
  · by_cases h2 : (nameB x.f0 && rangeB x.f1) = true
    · rw [if_pos h1, if_pos h2] at hcode
      have hn : 1 ≤ x.f1 ∧ x.f1 ≤ 100000 := by
        simp [rangeB] at h2
        exact h2.2
      obtain ⟨b, b1, b2, b3⟩ := best_both l x.f0 x.f1 h.1
      by_cases hb : b < 0
      · have hB : Ev (fun k => impl_BestCoil.f k l x.f0 x.f1) (0, 3) := by
          unfold impl_BestCoil.f
          exact Ev.bind (impl_ok l h.1 (good_sizes h)) (ev_pos h1 (Ev.bind (impl_want x.f0 x.f1 (max_of hx.1)) (ev_pos h2 (Ev.bind b2 (ev_pos hb (Ev.now _))))))
        unfold spec_CutPiece.f impl_CutPiece.f
        refine both_bindL hcode (both_posL rfl (both_bindL b1 (both_posL hb (both_bindR hB (both_negR (by decide) (both_now _ (by simp)))))))
      · have hB : Ev (fun k => impl_BestCoil.f k l x.f0 x.f1) (b, 0) := by
          unfold impl_BestCoil.f
          exact Ev.bind (impl_ok l h.1 (good_sizes h)) (ev_pos h1 (Ev.bind (impl_want x.f0 x.f1 (max_of hx.1)) (ev_pos h2 (Ev.bind b2 (ev_neg hb (Ev.now _))))))
        have hb3 : 0 ≤ b ∧ b < (l.length : Int) ∧ x.f1 ≤ (rd_T45 l b).f1 := by
          rcases b3 with e | e
          · omega
          · exact e
        obtain ⟨p, y, xs, rfl, hpb⟩ := split_at l b hb3.1 hb3.2.1
        subst hpb
        have hle := hb3.2.2
        rw [rd45_mid] at hle
        have hy := (h.2 y (by simp)).2
        unfold I64 at hy
        have hlen := h.1
        rw [List.length_append, List.length_cons] at hlen
        have hw : wrap64 (y.f1 - x.f1) = y.f1 - x.f1 := wrap_small (by omega) (by omega)
        unfold spec_CutPiece.f
        have hI := cut_impl p y xs x.f0 x.f1 hlen hle hw hB
        refine both_bindL hcode (both_posL rfl (both_bindL b1 (both_negL hb (both_bind0L (cut_spec p y xs x.f1 hlen hw) (both_of (Ev.now _) hI ?_)))))
        by_cases hg : y.f1 > x.f1
        · rw [if_pos hg]
          simp
          omega
        · rw [if_neg hg]
          simp
          omega
    · rw [if_pos h1, if_neg h2] at hcode
      refine bad 2 (by decide) hcode ?_
      unfold impl_BestCoil.f
      exact Ev.bind (impl_ok l h.1 (good_sizes h)) (ev_pos h1 (Ev.bind (impl_want x.f0 x.f1 (max_of hx.1)) (ev_neg h2 (Ev.now _))))
  · rw [if_neg h1] at hcode
    refine bad 1 (by decide) hcode ?_
    unfold impl_BestCoil.f
    exact Ev.bind (impl_ok l h.1 (good_sizes h)) (ev_neg h1 (Ev.now _))
end Go.Proofs.YtbglfbmnibhgeaaB
