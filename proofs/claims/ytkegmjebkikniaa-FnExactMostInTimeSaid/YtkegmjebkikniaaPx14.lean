-- Written by gprint.py (own program, over the printer of the kit) out of the translation. Lean checks it.
import Derived.Test.YtkegmjebkikniaaPx0
import Derived.Test.YtkegmjebkikniaaPx13
import Derived.Test.YtkegmjebkikniaaWPk
namespace Go.Proofs.Ytkegmjebkikniaa.P
open Go.RowKit Go.Proofs.YtkegmjebkikniaaW.PrintWords Go.Proofs.YtkegmjebkikniaaW.PrintLast Go.Proofs.YtkegmjebkikniaaW.PrintMore Go.Proofs.YtkegmjebkikniaaW.Pk
open Bool renaming true → T_, false → F_
open List renaming setIfInBounds_toArray → sT_, set_cons_zero → s0_, set_cons_succ → sS_
attribute [local go_sem] max2_int min2_int max_two min_two max_three min_three max_four min_four   -- for this text's walks alone
set_option linter.unusedVariables false
set_option linter.unusedSimpArgs false

/-! ### impl_eachOrder: function 64 -/
-- (by hand)
open Go.Proofs.YtkegmjebkikniaaW.Hand
theorem info2e : (Try.prog.info? 2).map (fun i => (i.zero, i.size, i.bytes)) = some (some (.int .i64 0), 1, 8) := by kernel_rfl
theorem index_loop_h (a : Int) : ∀ (xs p : List Int), p.length + xs.length ≤ 100 → ∃ r, slices_Index_int64_int64.l0 (xs.length + 1) (p ++ xs) a ((p ++ xs).length : Int) (p.length : Int) = some r ∧ decide (r ≥ 0) = decide (a ∈ xs) := by
 intro xs
 induction xs with
 | nil =>
  intro p _
  refine ⟨-1, ?_, by simp⟩
  rw [List.length_nil, slices_Index_int64_int64.l0, if_neg (by simp)]
 | cons x xs ih =>
  intro p hl
  rw [List.length_cons] at hl ⊢
  have hw : wrap64 ((p.length : Int) + 1) = ((p ++ [x]).length : Int) := by rw [List.length_append]; unfold wrap64; simp; omega
  have hr : rd (p ++ x :: xs) (p.length : Int) = x := by unfold rd; simp
  obtain ⟨r, hi, hd⟩ := ih (p ++ [x]) (by rw [List.length_append]; simp; omega)
  by_cases h : a = x
  ·refine ⟨(p.length : Int), ?_, by simp [h]⟩
   rw [slices_Index_int64_int64.l0, if_pos (by simp; omega), if_pos (by omega), if_pos (by simp; omega), hr, if_pos h]
  ·refine ⟨r, ?_, by rw [hd]; simp [h]⟩
   rw [slices_Index_int64_int64.l0, if_pos (by simp; omega), if_pos (by omega), if_pos (by simp; omega), hr, if_neg h, hw, show p ++ x :: xs = (p ++ [x]) ++ xs by simp]
   exact hi
theorem contains_f (a : Int) (o : List Int) (h : o.length ≤ 100) : slices_Contains_int64_int64.f (o.length + 1) o a = some (decide (a ∈ o)) := by
 unfold slices_Contains_int64_int64.f slices_Index_int64_int64.f
 obtain ⟨r, h1, h2⟩ := index_loop_h a o [] (by simpa using h)
 have h1' : slices_Index_int64_int64.l0 (o.length + 1) o a (o.length : Int) 0 = some r := h1
 rw [h1', Option.bind_some, h2]

theorem ends_at {A A1 A3 A5 : Option Addr} {n1 n3 c c1 c3 c5 : Nat} {b1 b2 b3 : Nat} (h1 : (Value.slice A1 n1 c1).ownBlock = (Value.slice A n1 c).ownBlock ∨ ∃ b, (Value.slice A1 n1 c1).ownBlock = some b ∧ b1 ≤ b) (h3 : (Value.slice A3 n3 c3).ownBlock = (Value.slice A1 n1 c1).ownBlock ∨ ∃ b, (Value.slice A3 n3 c3).ownBlock = some b ∧ b2 ≤ b)
  (h5 : (Value.slice A5 n3 c5).ownBlock = (Value.slice A3 n3 c3).ownBlock ∨ ∃ b, (Value.slice A5 n3 c5).ownBlock = some b ∧ b3 ≤ b) (l2 : b1 ≤ b2) (l3 : b1 ≤ b3) : (Value.slice A5 n1 c5).ownBlock = (Value.slice A n1 c).ownBlock ∨ ∃ b, (Value.slice A5 n1 c5).ownBlock = some b ∧ b1 ≤ b := by
 have e : (Value.slice A5 n1 c5).ownBlock = (Value.slice A5 n3 c5).ownBlock := by cases A5 <;> rfl
 rw [e]
 rcases h5 with h5 | ⟨b, h5, hb⟩
 ·rw [h5]
  rcases h3 with h3 | ⟨b, h3, hb⟩
  ·rw [h3]; exact h1
  ·exact Or.inr ⟨b, h3, by omega⟩
 ·exact Or.inr ⟨b, h5, by omega⟩


end Go.Proofs.Ytkegmjebkikniaa.P
