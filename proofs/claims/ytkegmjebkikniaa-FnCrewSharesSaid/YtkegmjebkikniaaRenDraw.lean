/- The renewals that are drawn are valid. -/
import Derived.Test.YtkegmjebkikniaaRenV
import Derived.Test.YtkegmjebkikniaaSrc
import Derived.Test.YtkegmjebkikniaaPx35
namespace Go.Proofs.YtkegmjebkikniaaB
open Go.RowKit Go.Proofs.YtkegmjebkikniaaW.PrintWords Go.Proofs.YtkegmjebkikniaaW.PrintLast Go.Proofs.Ytkegmjebkikniaa.P

def drawNames : List ByteArray := [(⟨#[115, 104, 114, 111, 117, 100]⟩ : ByteArray), (⟨#[104, 97, 108, 121, 97, 114, 100]⟩ : ByteArray), (⟨#[98, 108, 111, 99, 107, 45, 52]⟩ : ByteArray), (⟨#[108, 105, 102, 116]⟩ : ByteArray), (⟨#[98, 114, 97, 99, 101]⟩ : ByteArray), (⟨#[115, 116, 97, 121]⟩ : ByteArray)]
theorem names_ok (n : Nat) (h : n < 6) : nameB (drawNames.getD n ByteArray.empty) = true ∧ (drawNames.take n).any (fun b => b.data.toList == (drawNames.getD n ByteArray.empty).data.toList) = false ∧ (drawNames.getD n ByteArray.empty).size ≤ 12 ∧ drawNames.take (n + 1) = drawNames.take n ++ [drawNames.getD n ByteArray.empty] := by
  have : n = 0 ∨ n = 1 ∨ n = 2 ∨ n = 3 ∨ n = 4 ∨ n = 5 := by omega
  rcases this with rfl | rfl | rfl | rfl | rfl | rfl <;> exact ⟨by decide, by decide, by decide, rfl⟩
theorem okFrom_snoc : ∀ (xs p : List R) (x : R), okFrom p (xs ++ [x]) = (okFrom p xs && (renB x && !((p ++ xs).any (smR x.f0)))) := by
  intro xs
  induction xs with
  | nil => intro p x; simp [okFrom]
  | cons y xs ih =>
    intro p x
    rw [List.cons_append, okFrom, okFrom, ih, List.append_assoc, List.singleton_append, Bool.and_assoc, Bool.and_assoc]
def fineR (x : R) : Prop := x.f0.size ≤ 12 ∧ 1 ≤ x.f1 ∧ x.f1 ≤ 9 ∧ 0 ≤ x.f2 ∧ x.f2 ≤ 29 ∧ 0 ≤ x.f3 ∧ x.f3 ≤ 7
structure Drawn (l : List R) : Prop where
  ok : okFrom [] l = true
  names : l.map (fun x => x.f0) = drawNames.take l.length
  fine : ∀ x ∈ l, fineR x
theorem any_names (a : ByteArray) (l : List R) : l.any (smR a) = (l.map fun x => x.f0).any (fun b => b.data.toList == a.data.toList) := by
  induction l with
  | nil => rfl
  | cons x l ih =>
    rw [List.any_cons, List.map_cons, List.any_cons, ih]
    unfold smR
    rw [Lib.toList_data, Lib.toList_data]
theorem new_some {c : List Int} (hc : Code c) (at_ seed : Int) (a : ByteArray) (h : Room 6 at_) : ∃ d u m at' s', spec_l22New.f c at_ seed a = some (a, d, u, m, at', s') ∧ 1 ≤ d ∧ d ≤ 9 ∧ 0 ≤ u ∧ u ≤ 29 ∧ 0 ≤ m ∧ m ≤ 7 ∧ at_ ≤ at' ∧ at' ≤ at_ + 6 := by
  obtain ⟨h0, h1⟩ := h
  obtain ⟨d, t1, s1, e1, d0, d1, q0, q1⟩ := pick_some hc at_ seed 9 ⟨h0, by omega⟩ (by omega)
  obtain ⟨u, t2, s2, e2, u0, u1, q2, q3⟩ := pick_some hc t1 s1 30 ⟨by omega, by omega⟩ (by omega)
  obtain ⟨m, t3, s3, e3, m0, m1, q4, q5⟩ := pick_some hc t2 s2 8 ⟨by omega, by omega⟩ (by omega)
  have d2 := d1 (by omega)
  have u2 := u1 (by omega)
  have m2 := m1 (by omega)
  unfold spec_l22New.f
  rw [e1, Option.bind_some]
  dsimp only
  rw [e2, Option.bind_some]
  dsimp only
  rw [e3, Option.bind_some]
  dsimp only
  rw [wrap_small (by omega) (by omega)]
  exact ⟨_, _, _, _, _, rfl, by omega, by omega, u0, by omega, m0, by omega, by omega, by omega⟩
theorem draw_loop {c : List Int} (hc : Code c) : ∀ (d : Nat) (l : List R) (n at_ seed : Int), n = d → l.length + d ≤ 5 → Drawn l → Room (6 * d) at_ →
    ∃ r at' s', Ev (fun k => spec_l22Draw.l0 k drawNames l n c at_ seed) (r, at', s') ∧ Drawn r ∧ r.length ≤ 5 := by
  intro d
  induction d with
  | zero =>
    intro l n at_ seed hn hl hd _
    exact ⟨l, at_, seed, Ev.step (fun k => by rw [spec_l22Draw.l0]) (ev_neg (by omega) (Ev.now _)), hd, by omega⟩
  | succ d ih =>
    intro l n at_ seed hn hl hd hr
    obtain ⟨h0, h1⟩ := hr
    obtain ⟨n1, n2, n3, n4⟩ := names_ok l.length (by omega)
    obtain ⟨x, u, m, t, s, e, x0, x1, u0, u1, m0, m1, t0, t1⟩ := new_some hc at_ seed (rdOf ByteArray.empty drawNames (l.length : Int)) ⟨h0, by omega⟩
    have en : rdOf ByteArray.empty drawNames (l.length : Int) = drawNames.getD l.length ByteArray.empty := by unfold rdOf; rw [Int.toNat_natCast]
    rw [en] at e
    have hb : renB ⟨drawNames.getD l.length ByteArray.empty, x, u, m⟩ = true := by
      simp only [renB, n1, Bool.true_and, Bool.and_eq_true, decide_eq_true_eq]
      omega
    have hd' : Drawn (l ++ [⟨drawNames.getD l.length ByteArray.empty, x, u, m⟩]) := by
      refine ⟨?_, ?_, ?_⟩
      · rw [okFrom_snoc, hd.ok, hb, List.nil_append, any_names, hd.names, n2]
        rfl
      · rw [List.map_append, hd.names, List.length_append, List.length_singleton, n4]
        rfl
      · intro y hy
        rcases List.mem_append.1 hy with hy | hy
        · exact hd.fine y hy
        · rw [List.mem_singleton.1 hy]
          exact ⟨n3, x0, x1, u0, u1, m0, m1⟩
    obtain ⟨r, at', s', r1, r2, r3⟩ := ih (l ++ [⟨drawNames.getD l.length ByteArray.empty, x, u, m⟩]) (n - 1) t s (by omega) (by rw [List.length_append, List.length_singleton]; omega) hd' ⟨by omega, by omega⟩
    refine ⟨r, at', s', Ev.step (fun k => by rw [spec_l22Draw.l0]) ?_, r2, r3⟩
    refine ev_pos (by omega) (ev_pos (by omega) (ev_pos (show (l.length : Int) < (6 : Nat) by omega) ?_))
    rw [en]
    refine ev_bind0 e (ev_pos (by omega) ?_)
    rw [wrap_small (i := n - 1) (by omega) (by omega)]
    exact r1
theorem draw_ev {c : List Int} (hc : Code c) : ∃ r, Ev (fun k => spec_A2Renewals.f k c) r ∧ Drawn r ∧ r.length ≤ 5 := by
  obtain ⟨d, t, s, e, d0, d1, q0, q1⟩ := pick_some hc 0 0 6 ⟨by omega, by omega⟩ (by omega)
  have d2 := d1 (by omega)
  obtain ⟨r, at', s', r1, r2, r3⟩ := draw_loop hc d.toNat [] d t s (by omega) (by simp; omega) ⟨rfl, rfl, fun x hx => by simp at hx⟩ ⟨by omega, by omega⟩
  refine ⟨r, ?_, r2, r3⟩
  unfold spec_A2Renewals.f spec_l00From.f
  refine ev_bind0 rfl (Ev.bind (a := (r, at', s')) ?_ (Ev.now _))
  unfold spec_l22Draw.f
  exact ev_bind0 e r1
theorem drawn_good {l : List R} (h : Drawn l) (hl : l.length ≤ 5) : GoodRenewals l := ⟨by omega, fun x hx => by
  obtain ⟨h0, h1, h2, h3, h4, h5, h6⟩ := h.fine x hx
  exact ⟨by omega, ⟨by omega, by omega⟩, ⟨by omega, by omega⟩, ⟨by omega, by omega⟩⟩⟩
end Go.Proofs.YtkegmjebkikniaaB
