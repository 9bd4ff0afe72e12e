/- The texts of the marks: each number has one. -/
import Derived.Test.YtkegmjebkikniaaBase
import Derived.Test.YtkegmjebkikniaaPx23
namespace Go.Proofs.YtkegmjebkikniaaB
open Go.RowKit Go.Proofs.YtkegmjebkikniaaW.PrintWords Go.Proofs.YtkegmjebkikniaaW.PrintLast Go.Proofs.Ytkegmjebkikniaa.P

theorem size_one (c : Int) : (strOfNums [c]).size = 1 := rfl
theorem markText_loop : ∀ (m : Nat) (n : Int) (s : ByteArray), n.toNat ≤ m → 0 ≤ n → n + s.size ≤ 4611686018427387904 → ∃ r, Ev (fun k => laws_markText.l0 k n s) r := by
  intro m
  induction m with
  | zero =>
    intro n s h0 h1 h2
    exact ⟨_, Ev.step (fun k => by rw [laws_markText.l0]) (ev_neg (by omega) (ev_pos (by omega) (Ev.now _)))⟩
  | succ m ih =>
    intro n s h0 h1 h2
    by_cases hn : n > 0
    · have hd : Int.tdiv n 10 = n / 10 := Int.tdiv_eq_ediv_of_nonneg h1
      have hw : wrap64 (n / 10) = n / 10 := wrap_small (by omega) (by omega)
      obtain ⟨r, hr⟩ := ih (n / 10) (strOfNums [(wrap64 (48 + (Int.tmod n 10))) % 256] ++ s) (by omega) (by omega) (by rw [ByteArray.size_append, size_one]; omega)
      refine ⟨r, Ev.step (fun k => by rw [laws_markText.l0]) (ev_pos hn ?_)⟩
      simp only [Option.bind_some]
      refine ev_pos (by rw [size_one]; omega) ?_
      rw [hd, hw]
      exact hr
    · exact ⟨_, Ev.step (fun k => by rw [laws_markText.l0]) (ev_neg hn (ev_pos (by omega) (Ev.now _)))⟩
theorem markText_some (n : Int) (h0 : 0 < n) (h1 : n ≤ 1152921504606846976) : ∃ r, Ev (fun k => laws_markText.f k n) r := by
  obtain ⟨r, hr⟩ := markText_loop n.toNat n (⟨#[]⟩ : ByteArray) (Nat.le_refl _) (by omega) (by show n + ((0 : Nat) : Int) ≤ _; omega)
  refine ⟨r, ?_⟩
  unfold laws_markText.f
  exact ev_neg (by omega) hr
open Classical in
noncomputable def mtxt (n : Int) : ByteArray := if h : ∃ r, Ev (fun k => laws_markText.f k n) r then Classical.choose h else ⟨#[]⟩
theorem mtxt_ev (n : Int) (h0 : 0 < n) (h1 : n ≤ 1152921504606846976) : Ev (fun k => laws_markText.f k n) (mtxt n) := by
  have h := markText_some n h0 h1
  unfold mtxt
  rw [dif_pos h]
  exact Classical.choose_spec h
end Go.Proofs.YtkegmjebkikniaaB
