/- IsName, within and their kin: the reference's and the program's functions, as one plain function of the bytes. -/
import Derived.Test.YtkegmjebkikniaaBase
import Derived.Test.YtkegmjebkikniaaPx3
import Derived.Test.YtkegmjebkikniaaPx5
namespace Go.Proofs.YtkegmjebkikniaaB
open Go.RowKit Go.Proofs.YtkegmjebkikniaaW.PrintWords Go.Proofs.YtkegmjebkikniaaW.PrintLast Go.Proofs.Ytkegmjebkikniaa.P

theorem in_some (a b c : Int) : spec_l00In.f a b c = some (decide (b ≤ a) && decide (a ≤ c)) := by
  unfold spec_l00In.f
  by_cases h : a ≥ b
  · rw [if_pos h, decide_eq_true (show b ≤ a from h)]
    simp
  · rw [if_neg h, decide_eq_false (show ¬ b ≤ a from h)]
    simp
theorem within_some (a b c : Int) : impl_within.f a b c = some (decide (b ≤ a) && decide (a ≤ c)) := by
  unfold impl_within.f
  by_cases h : a ≥ b
  · rw [if_pos h, decide_eq_true (show b ≤ a from h)]
    simp
  · rw [if_neg h, decide_eq_false (show ¬ b ≤ a from h)]
    simp
theorem small_some (a : Int) : spec_l01Small.f a = some (smallB a) := by
  unfold spec_l01Small.f smallB
  by_cases h : a ≥ 97
  · rw [if_pos h, decide_eq_true (show 97 ≤ a from h)]
    simp
  · rw [if_neg h, decide_eq_false (show ¬ 97 ≤ a from h)]
    simp
theorem digit_some (a : Int) : spec_l01Digit.f a = some (decide (48 ≤ a) && decide (a ≤ 57)) := by
  unfold spec_l01Digit.f
  by_cases h : a ≥ 48
  · rw [if_pos h, decide_eq_true (show 48 ≤ a from h)]
    simp
  · rw [if_neg h, decide_eq_false (show ¬ 48 ≤ a from h)]
    simp

theorem spec_name_loop (s : ByteArray) (hs : s.size ≤ 1048576) : ∀ (xs p : List Int), bytesOf s = p ++ xs → Ev (fun k => spec_IsName.l0 k s (p.length : Int)) (xs.all partB) := by
  intro xs
  induction xs with
  | nil =>
    intro p hp
    have hz : (s.size : Int) = p.length := by rw [← bytes_length, hp]; simp
    refine Ev.step (fun k => by rw [spec_IsName.l0]) ?_
    exact ev_neg (by omega) (Ev.now _)
  | cons x xs ih =>
    intro p hp
    have hz : (s.size : Int) = p.length + (xs.length + 1) := by rw [← bytes_length, hp]; simp
    have hb : bt s (p.length : Int) = x := by rw [bt_rd, hp]; exact rd_mid p x xs
    have hw : wrap64 ((p.length : Int) + 1) = ((p ++ [x]).length : Int) := wrap_next p x (by omega)
    have hi := ih (p ++ [x]) (by rw [hp]; simp)
    refine Ev.step (fun k => by rw [spec_IsName.l0]) ?_
    refine ev_pos (by omega) (ev_pos (by omega) ?_)
    rw [hb, hw]
    refine ev_bind0 (small_some x) ?_
    refine ev_ite (fun h => ?_) (fun h => ?_)
    · refine ev_of hi ?_
      simp [partB, h]
    · refine ev_bind0 (digit_some x) (ev_ite (fun h2 => ?_) (fun h2 => ?_))
      · refine ev_of hi ?_
        simp [partB, h2]
      · refine ev_ite (fun h3 => ?_) (fun h3 => ?_)
        · refine ev_of hi ?_
          simp [partB, h3]
        · refine ev_of (Ev.now _) ?_
          simp only [Bool.not_eq_true] at h h2
          simp [partB, h, h2, h3]

theorem impl_name_loop (s : ByteArray) (hs : s.size ≤ 1048576) : ∀ (xs p : List Int), bytesOf s = p ++ xs → Ev (fun k => impl_IsName.l0 k s (p.length : Int)) (xs.all partB) := by
  intro xs
  induction xs with
  | nil =>
    intro p hp
    have hz : (s.size : Int) = p.length := by rw [← bytes_length, hp]; simp
    refine Ev.step (fun k => by rw [impl_IsName.l0]) ?_
    exact ev_neg (by omega) (Ev.now _)
  | cons x xs ih =>
    intro p hp
    have hz : (s.size : Int) = p.length + (xs.length + 1) := by rw [← bytes_length, hp]; simp
    have hb : bt s (p.length : Int) = x := by rw [bt_rd, hp]; exact rd_mid p x xs
    have hw : wrap64 ((p.length : Int) + 1) = ((p ++ [x]).length : Int) := wrap_next p x (by omega)
    have hi := ih (p ++ [x]) (by rw [hp]; simp)
    have hy : partB x = true → Ev (fun k => impl_IsName.l0 k s ((p ++ [x]).length : Int)) ((x :: xs).all partB) := fun h => ev_of hi (by simp [h])
    have hn : partB x = false → Ev (fun _ => some false) ((x :: xs).all partB) := fun h => ev_of (Ev.now _) (by simp [h])
    refine Ev.step (fun k => by rw [impl_IsName.l0]) ?_
    refine ev_pos (by omega) (ev_pos (by omega) ?_)
    rw [hb, hw]
    have tail : (¬ smallB x = true) → Ev (fun k => if x < 48 then if x = 45 then impl_IsName.l0 k s ((p ++ [x]).length : Int) else some false else if x > 57 then if x = 45 then impl_IsName.l0 k s ((p ++ [x]).length : Int) else some false else impl_IsName.l0 k s ((p ++ [x]).length : Int)) ((x :: xs).all partB) := by
      intro hsm
      refine ev_ite (fun h => ?_) (fun h => ?_)
      · refine ev_ite (fun h2 => hy ?_) (fun h2 => hn ?_)
        · simp [partB, h2]
        · simp only [Bool.not_eq_true] at hsm
          simp [partB, hsm, h2]; omega
      · refine ev_ite (fun h2 => ?_) (fun h2 => hy ?_)
        · refine ev_ite (fun h3 => hy ?_) (fun h3 => hn ?_)
          · simp [partB, h3]
          · simp only [Bool.not_eq_true] at hsm
            simp [partB, hsm, h3]; omega
        · simp [partB]; omega
    refine ev_ite (fun h => tail (by simp [smallB]; omega)) (fun h => ?_)
    refine ev_ite (fun h2 => tail (by simp [smallB]; omega)) (fun h2 => hy ?_)
    simp [partB, smallB]; omega

theorem spec_name (s : ByteArray) (_hs : s.size ≤ maxLen) : Ev (fun k => spec_IsName.f k s) (nameB s) := by
  have hl := bytes_length s
  unfold spec_IsName.f nameB nameL
  refine ev_ite (fun h => ?_) (fun h => ?_)
  · rw [bytes_nil] at h
    rw [h]
    refine Ev.step (fun k => by rw [spec_IsName.j0]) ?_
    exact ev_pos rfl (Ev.now _)
  · rw [bytes_nil] at h
    cases hb : bytesOf s with
    | nil => exact absurd hb h
    | cons c cs =>
      rw [hb] at hl
      have hl2 : (s.size : Int) = cs.length + 1 := by rw [← hl]; simp
      have hc : bt s 0 = c := by rw [bt_rd, hb]; rfl
      refine ev_ite (fun h1 => ?_) (fun h1 => ?_)
      · refine Ev.step (fun k => by rw [spec_IsName.j0]) ?_
        refine ev_pos rfl (ev_of (Ev.now _) ?_)
        simp; omega
      · refine ev_pos (by omega) ?_
        rw [hc]
        refine ev_bind0 (small_some c) ?_
        refine Ev.step (fun k => by rw [spec_IsName.j0]) ?_
        refine ev_ite (fun h2 => ?_) (fun h2 => ?_)
        · refine ev_of (Ev.now _) ?_
          simp at h2
          simp [h2]
        · simp at h2
          refine ev_of (spec_name_loop s (by omega) (c :: cs) [] hb) ?_
          simp [h2]; omega
theorem impl_name (s : ByteArray) (_hs : s.size ≤ maxLen) : Ev (fun k => impl_IsName.f k s) (nameB s) := by
  have hl := bytes_length s
  unfold impl_IsName.f nameB nameL
  have no : ∀ v : Bool, v = false → Ev (fun k => impl_IsName.j0 k s true) v := fun v h => Ev.step (fun k => by rw [impl_IsName.j0]) (ev_pos rfl (ev_of (Ev.now _) h.symm))
  cases hb : bytesOf s with
  | nil =>
    rw [hb] at hl
    exact ev_pos (by simp at hl; omega) (no _ rfl)
  | cons c cs =>
    rw [hb] at hl
    have hl2 : (s.size : Int) = cs.length + 1 := by rw [← hl]; simp
    have hc : bt s 0 = c := by rw [bt_rd, hb]; rfl
    refine ev_neg (by omega) (ev_ite (fun h1 => no _ ?_) (fun h1 => ?_))
    · simp; omega
    · refine ev_pos (by omega) ?_
      rw [hc]
      refine ev_ite (fun h2 => no _ ?_) (fun h2 => ?_)
      · simp [smallB]; omega
      · refine Ev.step (fun k => by rw [impl_IsName.j0]) ?_
        refine ev_ite (fun h3 => ?_) (fun h3 => ?_)
        · refine ev_of (Ev.now _) ?_
          simp at h3
          simp [smallB]; omega
        · simp at h3
          refine ev_of (impl_name_loop s (by omega) (c :: cs) [] hb) ?_
          simp [smallB]; omega
end Go.Proofs.YtkegmjebkikniaaB
