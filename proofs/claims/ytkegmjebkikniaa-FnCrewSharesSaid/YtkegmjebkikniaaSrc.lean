/- The choices that are read from bytes: each lies in its bounds. -/
import Derived.Test.YtkegmjebkikniaaBase
import Derived.Laws.BitsLemmas
import Derived.Test.YtkegmjebkikniaaPx35
namespace Go.Proofs.YtkegmjebkikniaaB
open Go.RowKit Go.Proofs.YtkegmjebkikniaaW.PrintWords Go.Proofs.YtkegmjebkikniaaW.PrintLast Go.Proofs.Ytkegmjebkikniaa.P

abbrev Code (c : List Int) : Prop := ∀ x ∈ c, 0 ≤ x ∧ x ≤ 255
theorem code_of {c : List Int} (h : ∀ x ∈ c, (Lit.int .u8 x).wf = true) : Code c := fun x hx => by
  have := h x hx
  simp [Lit.wf, IntKind.min, IntKind.max, IntKind.signed, IntKind.bits] at this
  omega
theorem rd_code {c : List Int} (h : Code c) (i : Int) : 0 ≤ rd c i ∧ rd c i ≤ 255 := by
  unfold rd
  rw [List.getD_eq_getElem?_getD]
  cases e : c[i.toNat]? with
  | none => simp
  | some x => simpa using h x (List.mem_of_getElem? e)
theorem wraps_u64 (n : Int) (h0 : 0 ≤ n) (h1 : n < 2 ^ 64) : IntKind.u64.wrap n = n := by
  simp [IntKind.wrap, IntKind.bits, IntKind.signed]
  omega
theorem u64_bound (n : Int) : 0 ≤ IntKind.u64.wrap n ∧ IntKind.u64.wrap n < 18446744073709551616 := by
  simp [IntKind.wrap, IntKind.bits, IntKind.signed]
  omega
theorem and255 (x : Int) (h0 : 0 ≤ x) (h1 : x < 18446744073709551616) : 0 ≤ bits .and .u64 x 255 ∧ bits .and .u64 x 255 ≤ 255 := by
  have := bits_mask .u64 64 (by decide) wraps_u64 8 (by decide) x h0 (by simpa using h1)
  have h2 : bits .and .u64 x 255 = x % 256 := by simpa using this
  rw [h2]
  omega
theorem seed_and (n : Int) : 0 ≤ bits .and .u64 (IntKind.u64.wrap n / 1099511627776) 255 ∧ bits .and .u64 (IntKind.u64.wrap n / 1099511627776) 255 ≤ 255 := by
  have := u64_bound n
  exact and255 _ (by omega) (by omega)
/-- Where the reading stands: there is room for n steps. -/
def Room (n at_ : Int) : Prop := 0 ≤ at_ ∧ at_ + n ≤ 4611686018427387904
theorem next_some {c : List Int} (hc : Code c) (at_ seed : Int) (h : Room 1 at_) : ∃ v s', spec_l00Src_next.f c at_ seed = some (v, at_ + 1, s') ∧ 0 ≤ v ∧ v ≤ 255 := by
  obtain ⟨h0, h1⟩ := h
  have hw : wrap64 (at_ + 1) = at_ + 1 := wrap_small (by omega) (by omega)
  have hr := rd_code hc at_
  have hv : wrap64 (rd c at_) = rd c at_ := wrap_small (by omega) (by omega)
  have hs : ∀ n, wrap64 (bits .and .u64 (IntKind.u64.wrap n / 1099511627776) 255) = bits .and .u64 (IntKind.u64.wrap n / 1099511627776) 255 := fun n => wrap_small (by have := seed_and n; omega) (by have := seed_and n; omega)
  unfold spec_l00Src_next.f
  rw [hw]
  by_cases h2 : at_ < (c.length : Int)
  · rw [if_pos h2, if_pos h0, if_pos (by omega), hv]
    exact ⟨_, _, rfl, hr.1, hr.2⟩
  · rw [if_neg h2, if_neg (by omega), hs]
    exact ⟨_, _, rfl, (seed_and _).1, (seed_and _).2⟩
theorem pick_some {c : List Int} (hc : Code c) (at_ seed n : Int) (h : Room 2 at_) (hn : n ≤ 4611686018427387904) : ∃ r at' s', spec_l00Src_pick.f c at_ seed n = some (r, at', s') ∧ 0 ≤ r ∧ (1 ≤ n → r < n) ∧ at_ ≤ at' ∧ at' ≤ at_ + 2 := by
  have h' := h
  obtain ⟨h0, h1⟩ := h'
  unfold spec_l00Src_pick.f
  by_cases h2 : n ≤ 1
  · rw [if_pos h2]
    exact ⟨_, _, _, rfl, by omega, fun _ => by omega, by omega, by omega⟩
  · obtain ⟨v, s1, e1, hv0, hv1⟩ := next_some hc at_ seed ⟨h0, by omega⟩
    rw [if_neg h2, e1, Option.bind_some]
    by_cases h3 : n > 200
    · obtain ⟨v2, s2, e2, hu0, hu1⟩ := next_some hc (at_ + 1) s1 ⟨by omega, by omega⟩
      rw [if_pos h3]
      dsimp only
      rw [e2, Option.bind_some, if_neg (by omega)]
      dsimp only
      rw [wrap_small (i := v * 256) (by omega) (by omega), wrap_small (by omega) (by omega)]
      exact ⟨_, _, _, rfl, Int.tmod_nonneg _ (by omega), fun _ => Int.tmod_lt_of_pos _ (by omega), by omega, by omega⟩
    · rw [if_neg h3, if_neg (by omega)]
      dsimp only
      exact ⟨_, _, _, rfl, Int.tmod_nonneg _ (by omega), fun _ => Int.tmod_lt_of_pos _ (by omega), by omega, by omega⟩
end Go.Proofs.YtkegmjebkikniaaB
