/- The law FnExactRigText: for every input it returns true and its arguments read as before: the row, out of its plain statement and the printed contracts. No condition beside the form's own. -/
import Derived.Lib.ItoaNum
import Derived.Test.YtcenjcgfdghfnaaDoorRows
import Derived.WalkKit
import Derived.ProofKit
import Derived.OpenShut
import Derived.ShutString
import Derived.ChangeOld
import Derived.Below
import Derived.SizedLaws
import Derived.LaidMore
import Derived.LaidLaws
import Derived.Stop.Joined
import Derived.Stop.LaidErr
import Derived.SevenTiedAt
import Derived.Test.YtcenjcgfdghfnaaDoorCards
import Derived.Test.YtcenjcgfdghfnaaDoorTie
import Derived.Test.YtcenjcgfdghfnaaDoorZYtcenjcgfdghfnaaDoorCardFnExactRigText3
section
/- A number's text: the reference's digits are the library's. -/
namespace Go.Proofs.YtcenjcgfdghfnaaDoorB
open Go.RowKit Go.Proofs.YtcenjcgfdghfnaaDoorW.PrintWords Go.Proofs.YtcenjcgfdghfnaaDoorW.PrintLast Go.Proofs.YtcenjcgfdghfnaaDoor.P

def numsOf (l : List UInt8) : List Int := l.map fun b => (b.toNat : Int)
theorem str_nums (l : List UInt8) : strOfNums (numsOf l) = ⟨l.toArray⟩ := by
  simp [strOfNums, numsOf, Function.comp_def]
def decL (u : Nat) : List Int := if u = 0 then [] else numsOf (Lib.decDigits u)
theorem decL_step {u : Nat} (h : 0 < u) (ds : List Int) : decL u ++ ds = decL (u / 10) ++ ((48 + ((u % 10 : Nat) : Int)) :: ds) := by
  have hd : ∀ d : Nat, d < 10 → ((UInt8.ofNat (48 + d)).toNat : Int) = 48 + (d : Int) := by
    intro d hd
    rw [UInt8.toNat_ofNat']
    omega
  unfold decL
  rw [if_neg (by omega)]
  by_cases h1 : u < 10
  · rw [if_pos (by omega), Lib.decDigits, dif_pos h1]
    simp only [numsOf, List.map_cons, List.map_nil, List.cons_append, List.nil_append]
    rw [hd u h1, Nat.mod_eq_of_lt h1]
  · rw [if_neg (by omega), Lib.decDigits, dif_neg h1]
    simp only [numsOf, List.map_append, List.map_cons, List.map_nil, List.append_assoc, List.cons_append, List.nil_append]
    rw [hd (u % 10) (by omega)]
theorem dec_fin (x0 : Int) (ds : List Int) (hb : ds.length ≤ 1000) (hne : ds ≠ []) : Ev (fun k => spec_l01Dec.l0 k x0 ds 0) (if x0 < 0 then (⟨#[45]⟩ : ByteArray) ++ strOfNums ds else strOfNums ds) := by
  refine Ev.step (fun k => by rw [spec_l01Dec.l0]) ?_
  refine ev_pos rfl (ev_neg ?_ ?_)
  · intro h
    exact hne (List.length_eq_zero_iff.1 (by omega))
  · by_cases hx : x0 < 0
    · refine ev_pos hx (ev_pos (by rw [strOfNums_size]; omega) (ev_of (Ev.now _) ?_))
      rw [if_pos hx]
    · exact ev_neg hx (ev_of (Ev.now _) (by rw [if_neg hx]))
theorem spec_dec_loop : ∀ (m u : Nat) (x0 v : Int) (ds : List Int), u ≤ m → u ≤ 9223372036854775808 → (v = u ∨ v = -u) → (decL u ++ ds).length ≤ 1000 → (0 < u ∨ ds ≠ []) →
    Ev (fun k => spec_l01Dec.l0 k x0 ds v) (if x0 < 0 then (⟨#[45]⟩ : ByteArray) ++ strOfNums (decL u ++ ds) else strOfNums (decL u ++ ds)) := by
  intro m
  induction m with
  | zero =>
    intro u x0 v ds hu _ hv hb hn
    obtain rfl : u = 0 := by omega
    obtain rfl : v = 0 := by omega
    exact dec_fin x0 ds hb (hn.resolve_left (by omega))
  | succ m ih =>
    intro u x0 v ds hu hU hv hb hn
    by_cases h0 : u = 0
    · subst h0
      obtain rfl : v = 0 := by omega
      exact dec_fin x0 ds hb (hn.resolve_left (by omega))
    · have hm0 : Int.tmod (u : Int) 10 = ((u % 10 : Nat) : Int) := by rw [Int.tmod_eq_emod_of_nonneg (by omega)]; omega
      have hd0 : Int.tdiv (u : Int) 10 = ((u / 10 : Nat) : Int) := by rw [Int.tdiv_eq_ediv_of_nonneg (by omega)]; omega
      have hw2 : wrap64 (48 + ((u % 10 : Nat) : Int)) % 256 = 48 + ((u % 10 : Nat) : Int) := by rw [wrap_small (by omega) (by omega)]; omega
      have hq : u / 10 ≤ m := by omega
      have hqU : u / 10 ≤ 9223372036854775808 := Nat.le_trans (Nat.div_le_self _ _) hU
      have hw : wrap64 ((u / 10 : Nat) : Int) = ((u / 10 : Nat) : Int) := wrap_small (by omega) (by omega)
      have hwn : wrap64 (-((u / 10 : Nat) : Int)) = -((u / 10 : Nat) : Int) := wrap_small (by omega) (by omega)
      have hwp : wrap64 (- -((u % 10 : Nat) : Int)) = ((u % 10 : Nat) : Int) := by rw [Int.neg_neg]; exact wrap_small (by omega) (by omega)
      have hp : 0 < u := by omega
      have hv0 : v ≠ 0 := by omega
      have hr : u % 10 < 10 := by omega
      clear hU hu h0
      rw [decL_step hp ds] at hb ⊢
      have hl1 : ∀ z : Int, [z].length + ds.length < 140737488355328 := by
        intro z
        simp at hb ⊢
        omega
      generalize u % 10 = d at *
      generalize u / 10 = q at *
      rcases hv with hv | hv
      · refine Ev.step (fun k => by rw [spec_l01Dec.l0]) ?_
        refine ev_neg hv0 ?_
        rw [hv, hm0, hd0, hw, hw2]
        refine ev_neg (Int.not_lt.2 (Int.natCast_nonneg _)) (ev_bind0 rfl (ev_pos (hl1 _) ?_))
        exact ih q x0 _ ((48 + (d : Int)) :: ds) hq hqU (.inl rfl) hb (.inr (List.cons_ne_nil _ _))
      · have hm : Int.tmod (-(u : Int)) 10 = -(d : Int) := by rw [Int.neg_tmod, hm0]
        have hd : Int.tdiv (-(u : Int)) 10 = -(q : Int) := by rw [Int.neg_tdiv, hd0]
        refine Ev.step (fun k => by rw [spec_l01Dec.l0]) ?_
        refine ev_neg hv0 ?_
        rw [hv, hm, hd, hwn]
        refine ev_ite (fun h => ?_) (fun h => ?_)
        · rw [hwp, hw2]
          refine ev_bind0 rfl (ev_pos (hl1 _) ?_)
          exact ih q x0 _ ((48 + (d : Int)) :: ds) hq hqU (.inr rfl) hb (.inr (List.cons_ne_nil _ _))
        · obtain rfl : d = 0 := by omega
          rw [show (48 : Int) + -((0 : Nat) : Int) = 48 + ((0 : Nat) : Int) by simp, hw2]
          refine ev_bind0 rfl (ev_pos (hl1 _) ?_)
          exact ih q x0 _ ((48 + ((0 : Nat) : Int)) :: ds) hq hqU (.inr rfl) hb (.inr (List.cons_ne_nil _ _))
theorem decDigits_len : ∀ (j u : Nat), u < 10 ^ (j + 1) → (Lib.decDigits u).length ≤ j + 1 := by
  intro j
  induction j with
  | zero =>
    intro u hu
    rw [Lib.decDigits, dif_pos (by simpa using hu)]
    simp
  | succ j ih =>
    intro u hu
    by_cases h1 : u < 10
    · rw [Lib.decDigits, dif_pos h1]
      simp
    · rw [Lib.decDigits, dif_neg h1]
      have hq : u / 10 < 10 ^ (j + 1) := by rw [Nat.pow_succ] at hu; omega
      have := ih (u / 10) hq
      simp
      omega
theorem spec_dec (n : Int) (h0 : -9223372036854775808 ≤ n) (h1 : n ≤ 9223372036854775807) : Ev (fun k => spec_l01Dec.f k n) (⟨(Lib.itoa n).toArray⟩ : ByteArray) := by
  unfold spec_l01Dec.f
  by_cases hz : n = 0
  · subst hz
    refine Ev.step (fun k => by rw [spec_l01Dec.l0]) ?_
    refine ev_pos rfl (ev_pos rfl (ev_of (Ev.now _) ?_))
    rw [Lib.itoa, if_neg (by omega), show (0 : Int).toNat = 0 from rfl, Lib.decDigits, dif_pos (by omega)]
    rfl
  · have hl : (Lib.decDigits n.natAbs).length ≤ 20 := decDigits_len 19 n.natAbs (by omega)
    have hL : decL n.natAbs = numsOf (Lib.decDigits n.natAbs) := by rw [decL, if_neg (by omega)]
    have h := spec_dec_loop n.natAbs n.natAbs n n [] (Nat.le_refl _) (by omega) (by omega) (by rw [hL, List.append_nil, numsOf, List.length_map]; omega) (.inl (by omega))
    refine ev_of h ?_
    rw [List.append_nil, hL, str_nums]
    by_cases hn : n < 0
    · rw [if_pos hn, Lib.itoa, if_pos hn]
      apply bytes_inj
      simp [bytesOf]
    · rw [if_neg hn, Lib.itoa, if_neg hn, show n.natAbs = n.toNat by omega]
theorem impl_dec (n : Int) (h0 : -9223372036854775808 ≤ n) (h1 : n ≤ 9223372036854775807) : impl_Decimal.f n = some (⟨(Lib.itoa n).toArray⟩ : ByteArray) := by
  unfold impl_Decimal.f
  rw [if_pos (by omega), if_pos (by omega)]
end Go.Proofs.YtcenjcgfdghfnaaDoorB
end

section
/- The text of a rig, of both. -/
namespace Go.Proofs.YtcenjcgfdghfnaaDoorB
open Go.RowKit Go.Proofs.YtcenjcgfdghfnaaDoorW.PrintWords Go.Proofs.YtcenjcgfdghfnaaDoorW.PrintLast Go.Proofs.YtcenjcgfdghfnaaDoor.P

theorem itoa_small (n : Int) (h : I64 n) : (⟨(Lib.itoa n).toArray⟩ : ByteArray).size ≤ 30 := by
  unfold I64 at h
  have hd := decDigits_len 19 n.natAbs (by omega)
  show (Lib.itoa n).toArray.size ≤ 30
  rw [List.size_toArray]
  unfold Lib.itoa
  split
  · rw [List.length_cons]; omega
  · have e : n.natAbs = n.toNat := by omega
    rw [e] at hd; omega
theorem text2_loop : ∀ (xs p : List L) (acc : ByteArray), p.length + xs.length ≤ 1048576 → acc.size ≤ 9000000000000 + 2100000 * p.length → (∀ x ∈ xs, GoodBelay x) → ∀ (f0 : List R) (f1 : List ByteArray),
    Both (fun _ => True) (fun k => spec_l19Text.l2 k acc (p.length : Int) f0 f1 (p ++ xs)) (fun k => impl_RigText.l2 k acc (p ++ xs) ((p ++ xs).length : Int) (p.length : Int)) := by
  intro xs
  induction xs with
  | nil =>
    intro p acc _ _ _ f0 f1
    exact both_step (fun k => by rw [spec_l19Text.l2]) (fun k => by rw [impl_RigText.l2]) (both_negL (not_lt_end p) (both_negR (not_lt_end p) (both_now _ trivial)))
  | cons x xs ih =>
    intro p acc hl ha hg f0 f1
    rw [List.length_cons] at hl
    have hw : wrap64 ((p.length : Int) + 1) = ((p ++ [x]).length : Int) := wrap_next p x (by omega)
    obtain ⟨x0, x1, x2⟩ := hg x List.mem_cons_self
    have hz := itoa_small x.f2 x2
    have hI : -9223372036854775808 ≤ x.f2 ∧ x.f2 ≤ 9223372036854775807 := x2
    refine both_step (fun k => by rw [spec_l19Text.l2]) (fun k => by rw [impl_RigText.l2]) ?_
    refine both_posL (lt_mid p x xs) (both_posL (Int.natCast_nonneg _) (both_posR (lt_mid p x xs) (both_posR (Int.natCast_nonneg _) (both_posR (lt_mid p x xs) ?_))))
    rw [rd67_mid, hw]
    refine both_posL (by omega) (both_posL (by omega) (both_posL (by omega) (both_posL (by omega) (both_bindL (spec_dec x.f2 hI.1 hI.2) (both_posL (by omega) (both_posL (by omega) (both_posL (by omega) ?_)))))))
    refine both_posR (by omega) (both_posR (by omega) (both_posR (by omega) (both_posR (by omega) (both_bind0R (impl_dec x.f2 hI.1 hI.2) (both_posR (by omega) (both_posR (by omega) (both_posR (by omega) ?_)))))))
    rw [push_mid p x xs]
    refine ih (p ++ [x]) _ (by rw [List.length_append]; simp; omega) ?_ (fun y hy => hg y (List.mem_cons_of_mem _ hy)) f0 f1
    have e1 : ∀ b : ByteArray, (⟨#[32]⟩ : ByteArray).size = 1 := fun _ => rfl
    have e2 : (⟨#[98, 101, 108, 97, 121, 32]⟩ : ByteArray).size = 6 := rfl
    have e3 : (⟨#[32]⟩ : ByteArray).size = 1 := rfl
    have e4 : (⟨#[10]⟩ : ByteArray).size = 1 := rfl
    simp only [ByteArray.size_append, e2, e3, e4, List.length_append, List.length_singleton]
    omega
theorem text1_loop (f2 : List L) (n2 : f2.length ≤ 1048576) (g2 : ∀ x ∈ f2, GoodBelay x) : ∀ (xs p : List ByteArray) (acc : ByteArray), p.length + xs.length ≤ 1048576 → acc.size ≤ 6000000000000 + 1100000 * p.length → (∀ x ∈ xs, x.size ≤ 1048576) → ∀ (f0 g0 : List R) (f1 : List ByteArray),
    Both (fun _ => True) (fun k => spec_l19Text.l1 k acc (p.length : Int) f0 (p ++ xs) f2) (fun k => impl_RigText.l1 k acc (p ++ xs) ((p ++ xs).length : Int) (p.length : Int) g0 f1 f2) := by
  intro xs
  induction xs with
  | nil =>
    intro p acc hl ha _ f0 _ f1
    refine both_step (fun k => by rw [spec_l19Text.l1]) (fun k => by rw [impl_RigText.l1]) (both_negL (not_lt_end p) (both_negR (not_lt_end p) ?_))
    exact text2_loop f2 [] acc (by simpa using n2) (by simp; omega) g2 f0 _
  | cons x xs ih =>
    intro p acc hl ha hg f0 g0 f1
    rw [List.length_cons] at hl
    have hw : wrap64 ((p.length : Int) + 1) = ((p ++ [x]).length : Int) := wrap_next p x (by omega)
    have x0 := hg x List.mem_cons_self
    refine both_step (fun k => by rw [spec_l19Text.l1]) (fun k => by rw [impl_RigText.l1]) ?_
    refine both_posL (lt_mid p x xs) (both_posL (Int.natCast_nonneg _) (both_posR (lt_mid p x xs) (both_posR (Int.natCast_nonneg _) (both_posR (lt_mid p x xs) ?_))))
    rw [rdOf_mid, hw]
    refine both_posL (by omega) (both_posL (by omega) (both_posL (by omega) (both_posR (by omega) (both_posR (by omega) (both_posR (by omega) ?_)))))
    rw [push_mid p x xs]
    refine ih (p ++ [x]) _ (by rw [List.length_append]; simp; omega) ?_ (fun y hy => hg y (List.mem_cons_of_mem _ hy)) f0 g0 f1
    have e2 : (⟨#[108, 105, 110, 101, 32]⟩ : ByteArray).size = 5 := rfl
    have e4 : (⟨#[10]⟩ : ByteArray).size = 1 := rfl
    simp only [ByteArray.size_append, e2, e4, List.length_append, List.length_singleton]
    omega
theorem text0_loop (f1 : List ByteArray) (n1 : f1.length ≤ 1048576) (g1 : ∀ x ∈ f1, x.size ≤ 1048576) (f2 : List L) (n2 : f2.length ≤ 1048576) (g2 : ∀ x ∈ f2, GoodBelay x) : ∀ (xs p : List R) (acc : ByteArray), p.length + xs.length ≤ 1048576 → acc.size ≤ 2100000 * p.length → (∀ x ∈ xs, GoodRail x) → ∀ f0 : List R,
    Both (fun _ => True) (fun k => spec_l19Text.l0 k acc (p.length : Int) (p ++ xs) f1 f2) (fun k => impl_RigText.l0 k acc (p ++ xs) ((p ++ xs).length : Int) (p.length : Int) f0 f1 f2) := by
  intro xs
  induction xs with
  | nil =>
    intro p acc hl ha _ f0
    refine both_step (fun k => by rw [spec_l19Text.l0]) (fun k => by rw [impl_RigText.l0]) (both_negL (not_lt_end p) (both_negR (not_lt_end p) ?_))
    exact text1_loop f2 n2 g2 f1 [] acc (by simpa using n1) (by simp; simp at hl; omega) g1 (p ++ []) f0 _
  | cons x xs ih =>
    intro p acc hl ha hg f0
    rw [List.length_cons] at hl
    have hw : wrap64 ((p.length : Int) + 1) = ((p ++ [x]).length : Int) := wrap_next p x (by omega)
    obtain ⟨x0, x1, x2⟩ := hg x List.mem_cons_self
    have hz := itoa_small x.f2 x2
    have hI : -9223372036854775808 ≤ x.f2 ∧ x.f2 ≤ 9223372036854775807 := x2
    refine both_step (fun k => by rw [spec_l19Text.l0]) (fun k => by rw [impl_RigText.l0]) ?_
    refine both_posL (lt_mid p x xs) (both_posL (Int.natCast_nonneg _) (both_posR (lt_mid p x xs) (both_posR (Int.natCast_nonneg _) (both_posR (lt_mid p x xs) ?_))))
    rw [rd64_mid, hw]
    refine both_posL (by omega) (both_posL (by omega) (both_posL (by omega) (both_posL (by omega) (both_bindL (spec_dec x.f2 hI.1 hI.2) (both_posL (by omega) (both_posL (by omega) (both_posL (by omega) ?_)))))))
    refine both_posR (by omega) (both_posR (by omega) (both_posR (by omega) (both_posR (by omega) (both_bind0R (impl_dec x.f2 hI.1 hI.2) (both_posR (by omega) (both_posR (by omega) (both_posR (by omega) ?_)))))))
    rw [push_mid p x xs]
    refine ih (p ++ [x]) _ (by rw [List.length_append]; simp; omega) ?_ (fun y hy => hg y (List.mem_cons_of_mem _ hy)) f0
    have e2 : (⟨#[114, 97, 105, 108, 32]⟩ : ByteArray).size = 5 := rfl
    have e3 : (⟨#[32]⟩ : ByteArray).size = 1 := rfl
    have e4 : (⟨#[10]⟩ : ByteArray).size = 1 := rfl
    simp only [ByteArray.size_append, e2, e3, e4, List.length_append, List.length_singleton]
    omega
theorem RigText_both (l0 : List R) (l1 : List ByteArray) (l2 : List L) (h : GoodRig l0 l1 l2) : Both (fun _ => True) (fun k => spec_RigText.f k l0 l1 l2) (fun k => impl_RigText.f k l0 l1 l2) := by
  obtain ⟨e1, e2⟩ := ok_ev l0 l1 l2 h
  obtain ⟨⟨n0, g0⟩, ⟨n1, g1⟩, ⟨n2, g2⟩⟩ := h
  unfold spec_RigText.f impl_RigText.f
  refine both_bindL e1 (both_bindR e2 (both_ite (fun _ => ?_) (fun _ => both_now _ trivial)))
  unfold spec_l19Text.f
  obtain ⟨r, s, i, _⟩ := text0_loop l1 n1 g1 l2 n2 g2 l0 [] (⟨#[]⟩ : ByteArray) (by simpa using n0) (by show (0:Nat) ≤ _; omega) g0 l0
  exact ⟨r, Ev.bind s (Ev.now _), i, trivial⟩
end Go.Proofs.YtcenjcgfdghfnaaDoorB
end

section
/- Lists of texts: what they weigh, their copy, their comparison. -/
namespace Go.Proofs.YtcenjcgfdghfnaaDoorB
open Go.RowKit Go.Proofs.YtcenjcgfdghfnaaDoorW.PrintWords Go.Proofs.YtcenjcgfdghfnaaDoorW.PrintLast Go.Proofs.YtcenjcgfdghfnaaDoor.P

theorem eqStringS_loop : ∀ (xs p : List ByteArray), p.length + xs.length ≤ 4611686018427387904 → Ev (fun k => laws_eqStringS.l0 k (p ++ xs) (p ++ xs) (p.length : Int)) true := by
  intro xs
  induction xs with
  | nil =>
    intro p _
    refine Ev.step (fun k => by rw [laws_eqStringS.l0]) ?_
    exact ev_neg (not_lt_end p) (Ev.now _)
  | cons x xs ih =>
    intro p hl
    rw [List.length_cons] at hl
    have hw : wrap64 ((p.length : Int) + 1) = ((p ++ [x]).length : Int) := wrap_next p x (by omega)
    have hi := ih (p ++ [x]) (by rw [List.length_append]; simp; omega)
    refine Ev.step (fun k => by rw [laws_eqStringS.l0]) ?_
    refine ev_pos (lt_mid p x xs) (ev_pos (Int.natCast_nonneg _) (ev_pos (lt_mid p x xs) ?_))
    rw [hw, push_mid p x xs]
    exact ev_pos rfl hi
theorem eqStringS_refl (l : List ByteArray) (hl : l.length ≤ 4611686018427387904) : Ev (fun k => laws_eqStringS.f k l l) true := by
  unfold laws_eqStringS.f
  exact ev_pos rfl (eqStringS_loop l [] (by simp; omega))
theorem szStringS_loop : ∀ (xs p : List ByteArray) (left : Int), p.length + xs.length ≤ 4611686018427387904 → 0 ≤ left → left ≤ 1048576 → (∀ x ∈ xs, x.size ≤ maxLen) → ∃ r, Ev (fun k => laws_szStringS.l0 k (p ++ xs) left (p.length : Int)) r ∧ r ≤ left ∧ (0 ≤ r → ∀ x ∈ xs, (x.size : Int) ≤ left) := by
  intro xs
  induction xs with
  | nil =>
    intro p left _ h0 h1 _
    exact ⟨left, Ev.step (fun k => by rw [laws_szStringS.l0]) (ev_neg (not_lt_end p) (Ev.now _)), Int.le_refl _, fun _ x hx => by simp at hx⟩
  | cons x xs ih =>
    intro p left hl h0 h1 hs
    have hx := hs x List.mem_cons_self
    unfold maxLen at hx
    rw [List.length_cons] at hl
    have hw : wrap64 ((p.length : Int) + 1) = ((p ++ [x]).length : Int) := wrap_next p x (by omega)
    have hz : wrap64 (left - (x.size : Int)) = left - (x.size : Int) := wrap_small (by omega) (by omega)
    by_cases hn : left - (x.size : Int) < 0
    · refine ⟨-1, Ev.step (fun k => by rw [laws_szStringS.l0]) (ev_pos (lt_mid p x xs) (ev_pos (Int.natCast_nonneg _) ?_)), by omega, fun h => absurd h (by decide)⟩
      rw [rdOf_mid, hz]
      exact ev_pos hn (Ev.now _)
    · obtain ⟨r, e, hr, hb⟩ := ih (p ++ [x]) (left - (x.size : Int)) (by rw [List.length_append]; simp; omega) (by omega) (by omega) (fun y hy => hs y (List.mem_cons_of_mem _ hy))
      refine ⟨r, Ev.step (fun k => by rw [laws_szStringS.l0]) (ev_pos (lt_mid p x xs) (ev_pos (Int.natCast_nonneg _) ?_)), by omega, fun h y hy => ?_⟩
      · rw [rdOf_mid, hz, hw, push_mid p x xs]
        exact ev_neg hn e
      · rcases List.mem_cons.1 hy with rfl | hy
        · omega
        · have := hb h y hy
          omega
theorem szStringS_ev (l : List ByteArray) (left : Int) (h0 : 0 ≤ left) (h1 : left ≤ 1048576) (hl : l.length ≤ maxLen ∧ ∀ x ∈ l, x.size ≤ maxLen) : ∃ r, Ev (fun k => laws_szStringS.f k l left) r ∧ r ≤ left ∧ (0 ≤ r → (l.length : Int) ≤ left ∧ ∀ x ∈ l, (x.size : Int) ≤ left) := by
  have h2 := hl.1
  unfold maxLen at h2
  unfold laws_szStringS.f
  rw [wrap_small (i := left - (l.length : Int)) (by omega) (by omega)]
  by_cases c : left - (l.length : Int) < 0
  · exact ⟨-1, ev_pos c (Ev.now _), by omega, fun h => absurd h (by decide)⟩
  · obtain ⟨r, e, hr, hb⟩ := szStringS_loop l [] (left - (l.length : Int)) (by simp; omega) (by omega) (by omega) hl.2
    exact ⟨r, ev_neg c e, by omega, fun h => ⟨by omega, fun x hx => by have := hb h x hx; omega⟩⟩
theorem toStringS_loop : ∀ (xs p : List ByteArray), p.length + xs.length ≤ 1048576 → Ev (fun k => laws_toStringS.l0 k (p ++ xs) (p ++ List.replicate xs.length (⟨#[]⟩ : ByteArray)) (p.length : Int)) (p ++ xs) := by
  intro xs
  induction xs with
  | nil =>
    intro p _
    refine Ev.step (fun k => by rw [laws_toStringS.l0]) ?_
    exact ev_neg (not_lt_end p) (ev_of (Ev.now _) (by simp))
  | cons x xs ih =>
    intro p hl
    rw [List.length_cons] at hl
    have hw : wrap64 ((p.length : Int) + 1) = ((p ++ [x]).length : Int) := wrap_next p x (by omega)
    have hi := ih (p ++ [x]) (by rw [List.length_append]; simp; omega)
    refine Ev.step (fun k => by rw [laws_toStringS.l0]) ?_
    refine ev_pos (lt_mid p x xs) (ev_pos (Int.natCast_nonneg _) (ev_pos (by simp; omega) ?_))
    rw [rdOf_mid, hw, List.length_cons, List.replicate_succ, set_mid, push_mid p x xs]
    rw [push_mid p x (List.replicate xs.length (⟨#[]⟩ : ByteArray))]
    exact hi
theorem toStringS_ev (l : List ByteArray) (hl : l.length ≤ 1048576) : Ev (fun k => laws_toStringS.f k l) l := by
  unfold laws_toStringS.f
  have h2 := toStringS_loop l [] (by simpa using hl)
  refine ev_pos (Int.natCast_nonneg _) (ev_pos (by omega) ?_)
  simpa using h2
end Go.Proofs.YtcenjcgfdghfnaaDoorB
end

section
/- Rig: what it weighs, its copy, its comparison. -/
namespace Go.Proofs.YtcenjcgfdghfnaaDoorB
open Go.RowKit Go.Proofs.YtcenjcgfdghfnaaDoorW.PrintWords Go.Proofs.YtcenjcgfdghfnaaDoorW.PrintLast Go.Proofs.YtcenjcgfdghfnaaDoor.P

abbrev RawRail (l : List S92) : Prop := l.length ≤ maxLen ∧ ∀ x ∈ l, (x.f0.size ≤ maxLen ∧ x.f1.size ≤ maxLen ∧ (Lit.int .i64 x.f2).wf = true)
abbrev RawBelay (l : List S94) : Prop := l.length ≤ maxLen ∧ ∀ x ∈ l, (x.f0.size ≤ maxLen ∧ x.f1.size ≤ maxLen ∧ (Lit.int .i64 x.f2).wf = true)
theorem szRig_ev (a : List S92) (b : List ByteArray) (c : List S94) (ha : RawRail a) (hb : b.length ≤ maxLen ∧ ∀ r ∈ b, r.size ≤ maxLen) (hc : RawBelay c) :
    ∃ r, Ev (fun k => laws_szRig.f k a b c 1048576) r ∧ (0 ≤ r → GoodRig (a.map toRail) b (c.map toBelay)) := by
  unfold laws_szRig.f
  obtain ⟨r, e, hr, h2⟩ := szRailS_ev a 1048576 (by decide) (by decide) ha
  by_cases hn : r < 0
  · exact ⟨-1, Ev.bind e (ev_pos hn (Ev.now _)), fun h => absurd h (by decide)⟩
  · have g2 := h2 (by omega)
    obtain ⟨q, e3, hq, h4⟩ := szStringS_ev b r (by omega) (by omega) hb
    by_cases hm : q < 0
    · exact ⟨-1, Ev.bind e (ev_neg hn (Ev.bind e3 (ev_pos hm (Ev.now _)))), fun h => absurd h (by decide)⟩
    · have g4 := h4 (by omega)
      obtain ⟨s, e5, hs, h6⟩ := szBelayS_ev c q (by omega) (by omega) hc
      by_cases ho : s < 0
      · exact ⟨-1, Ev.bind e (ev_neg hn (Ev.bind e3 (ev_neg hm (Ev.bind e5 (ev_pos ho (Ev.now _)))))), fun h => absurd h (by decide)⟩
      · have g6 := h6 (by omega)
        exact ⟨s, Ev.bind e (ev_neg hn (Ev.bind e3 (ev_neg hm (Ev.bind e5 (ev_neg ho (Ev.now _)))))), fun _ => ⟨goodRailS_of a 1048576 (by omega) ha g2, ⟨by omega, fun x hx => by have := g4.2 x hx; omega⟩, goodBelayS_of c q (by omega) hc g6⟩⟩
theorem toRig_ev (a : List S92) (b : List ByteArray) (c : List S94) (h : GoodRig (a.map toRail) b (c.map toBelay)) : Ev (fun k => laws_toRig.f k a b c) (a.map toRail, b, c.map toBelay) := by
  obtain ⟨⟨n0, _⟩, ⟨n1, _⟩, ⟨n2, _⟩⟩ := h
  rw [List.length_map] at n0 n2
  unfold laws_toRig.f
  exact Ev.bind (toRailS_ev a n0) (Ev.bind (toStringS_ev b n1) (Ev.bind (toBelayS_ev c n2) (Ev.now _)))
theorem eqRig_refl (a : List S64) (b : List ByteArray) (c : List S67) (h : GoodRig a b c) : Ev (fun k => laws_eqRig.f k a b c a b c) true := by
  obtain ⟨⟨n0, _⟩, ⟨n1, _⟩, ⟨n2, _⟩⟩ := h
  unfold laws_eqRig.f
  exact Ev.bind (eqRailS_refl a (by omega)) (ev_pos rfl (Ev.bind (eqStringS_refl b (by omega)) (ev_pos rfl (Ev.bind (eqBelayS_refl c (by omega)) (ev_pos rfl (Ev.now _))))))
end Go.Proofs.YtcenjcgfdghfnaaDoorB
end

section
/- A rig by value, as an argument. -/
namespace Go.Proofs.YtcenjcgfdghfnaaDoor.P
open Go.RowKit Go.Proofs.YtcenjcgfdghfnaaDoorW.PrintWords Go.Proofs.YtcenjcgfdghfnaaDoorW.PrintLast

structure S26 where
  f0 : List S92
  f1 : List ByteArray
  f2 : List S94
def k26 : Kd S26 := Kd.iso (Kd.pair (Kd.slice 92 k92) (Kd.pair (Kd.slice 9 Kd.string) (Kd.slice 94 k94))) (fun x : S26 => (x.f0, x.f1, x.f2))
theorem k26_open {w : World} {x : S26} {cs : List Value} (h : k26.K w x cs) : ∃ A0 c0 A1 c1 A2 c2, cs = [.slice A0 x.f0.length c0, .slice A1 x.f1.length c1, .slice A2 x.f2.length c2] ∧ x.f0.length ≤ c0 ∧ Kd.C k92 w A0 x.f0.length x.f0 ∧ x.f1.length ≤ c1 ∧ Kd.C Kd.string w A1 x.f1.length x.f1 ∧ x.f2.length ≤ c2 ∧ Kd.C k94 w A2 x.f2.length x.f2 := by
  obtain ⟨_, _, rfl, ⟨A0, c0, rfl, hl0, h0⟩, ⟨_, _, rfl, ⟨A1, c1, rfl, hl1, h1⟩, ⟨A2, c2, rfl, hl2, h2⟩⟩⟩ := h
  exact ⟨A0, c0, A1, c1, A2, c2, rfl, hl0, h0, hl1, h1, hl2, h2⟩
end Go.Proofs.YtcenjcgfdghfnaaDoor.P
end

section
/- FnExactRigText: its plain statement. -/
namespace Go.Proofs.YtcenjcgfdghfnaaDoor.Pure
open Go.RowKit Go.Proofs.YtcenjcgfdghfnaaDoor.P Go.Proofs.YtcenjcgfdghfnaaDoorW.PrintWords Go.Proofs.YtcenjcgfdghfnaaDoorW.PrintLast Go.Proofs.YtcenjcgfdghfnaaDoorB

theorem FnExactRigText : ∀ (x0 : S26), ((x0.f0.length ≤ maxLen ∧ ∀ x_ ∈ x0.f0, (x_.f0.size ≤ maxLen ∧ x_.f1.size ≤ maxLen ∧ (Lit.int .i64 x_.f2).wf = true)) ∧ (x0.f1.length ≤ maxLen ∧ ∀ x_ ∈ x0.f1, x_.size ≤ maxLen) ∧ (x0.f2.length ≤ maxLen ∧ ∀ x_ ∈ x0.f2, (x_.f0.size ≤ maxLen ∧ x_.f1.size ≤ maxLen ∧ (Lit.int .i64 x_.f2).wf = true))) → ∃ k, laws_FnExactRigText.f k x0.f0 x0.f1 x0.f2 = some true := by
  intro x0 h0
  refine Ev.rounds (g := fun k => laws_FnExactRigText.f k x0.f0 x0.f1 x0.f2) ?_
  unfold laws_FnExactRigText.f
  obtain ⟨r, e, g⟩ := szRig_ev x0.f0 x0.f1 x0.f2 h0.1 h0.2.1 h0.2.2
  refine Ev.bind e (ev_ite (fun _ => Ev.now _) (fun n0 => ?_))
  have g0 := g (by omega)
  have ht := toRig_ev x0.f0 x0.f1 x0.f2 g0
  obtain ⟨v, hs, hi, _⟩ := RigText_both _ _ _ g0
  exact Ev.bind ht (Ev.bind hs (Ev.bind ht (Ev.bind hi (ev_pos rfl (Ev.bind ht (Ev.bind (eqRig_refl _ _ _ g0) (ev_pos rfl (Ev.now _))))))))
end Go.Proofs.YtcenjcgfdghfnaaDoor.Pure
end

section
/- The law FnExactRigText: for every input it returns true and its arguments read as before: the row, out of its plain statement and the printed contracts. No condition beside the form's own. -/
namespace Go.Proofs.YtcenjcgfdghfnaaDoor.fnExactRigText
open Go.ChangeShapes Go.WideShapes Go.ChangeAt Go.RowKit
open Go.ChangeMaps (open_string shut_string)
open Go.Proofs.YtcenjcgfdghfnaaDoor.P Go.Proofs.YtcenjcgfdghfnaaDoorOp Go.Proofs.YtcenjcgfdghfnaaDoorW.PrintWords Go.Proofs.YtcenjcgfdghfnaaDoorW.PrintLast
set_option linter.unusedVariables false
theorem own : ownKnob Tryd.prog.godebug = none := by kernel_rfl
theorem laidOut : laidOutB Tryd.prog = true := by kernel_rfl
abbrev laidL : List (String × DataW Unit) := [("math/bits.deBruijn32tab", Rows.laid_math_bits_deBruijn32tab), ("math/bits.deBruijn64tab", Rows.laid_math_bits_deBruijn64tab), ("internal/strconv.uint64pow10", Rows.laid_internal_strconv_uint64pow10)]
theorem door_met (os : Os) (args : Array Value) : laidMetH Tryd.prog laidL ((World.doorLaid Tryd.prog 400 os).forCall (fun _ _ => 0) ⟨#[], args, []⟩).memory :=
  laidMetH_of_parts3 (fuel := 8) (laidMet_of_run' 8 (by kernel_rfl) (by kernel_rfl)) (by kernel_rfl) (by kernel_rfl)
theorem gPow : Tryd.prog.globalNamed "internal/strconv.uint64pow10" = some 0 := by kernel_rfl
theorem datPow : (Rows.laid_internal_strconv_uint64pow10 : DataW Unit) = Lib.tabData .u64 Lib.pow10Tab := rfl
theorem tb_of_laid {W : World} (h : laidMetH Tryd.prog laidL W) : TB W := by
  rw [MakeChecks.laidMetH_plain _ _ _ (by kernel_rfl)] at h
  have h2 := laidMet.tail (laidMet.tail (h))
  rw [datPow] at h2
  exact Lib.tabIs_of_head gPow (t := 137) (e := 105) (n := 20) (by kernel_rfl) (by kernel_rfl) (by kernel_rfl) (by kernel_rfl) (by kernel_rfl) h2
set_option maxRecDepth 100000 in
theorem lifted (os : Os) (started : os.Started) (H : Type) (enc : TypeId × Value → H) :
    ReturnsInHanded {} Tryd.checked os 3 .any (fun w args => (Rows.fnExactRigTextSpec.pre enc Tryd.prog Tryd.f3 [] false w args ∧ laidMetH Tryd.prog laidL w) ∧ sizedMet enc Tryd.prog Tryd.f3 (OpenSpec.ofChange Rows.fnExactRigTextSpec) false w args) (Rows.fnExactRigTextSpec.post enc Tryd.prog Tryd.f3 false true false false) := by
  refine returnsInHanded_of_change_and (C := Tryd.checked) (X := fun w _ => laidMetH Tryd.prog laidL w) (fun _ _ _ hh h => h.of_heap hh) own started (by kernel_rfl) Tryd.func3
    (ChangeSpec.witness_shaped (enc := enc) (C := Tryd.checked) (os := os) (X := fun w _ => laidMetH Tryd.prog laidL w) false (World.doorLaid Tryd.prog 400 os) #[.agg #[.slice none 0 0, .slice none 0 0, .slice none 0 0]] 8 rfl (World.shaped_of_RefB (by kernel_rfl) (by kernel_rfl)) (by kernel_rfl) (by kernel_rfl) (by kernel_rfl) (door_met os _)) ?_
  intro W base args ds gs before hval0 hW hcnd hsz0 hL _
  have hT : TB W := tb_of_laid hL
  have hval : ∀ (j : Nat) t v, Tryd.f3.params[j]? = some t → args[j]? = some v → Value.okWide Tryd.prog W .any base t v := hval0
  have hW' := hW
  obtain ⟨p, q, hA0, hV, rfl, hfz, hnd⟩ := hW
  have hA : DataW.TrodAll enc Tryd.prog W 0 (fun _ => true) true Tryd.f3.params.toList args.toList ds p := hA0
  rw [Tryd.params3] at hA hval
  obtain ⟨v0, vs0, d0, ds0, p0, q0, hargs, rfl, rfl, h0, r0⟩ := trodAll_cons hA
  obtain ⟨rfl, rfl, rfl⟩ := trodAll_nil r0
  obtain rfl : args = #[v0] := by cases args; simp_all
  obtain ⟨rfl, rfl⟩ := trodVars_none hV
  have k0 := h0
  have lt0 : ∀ x ∈ p0, x.block < W.heap.size := by obtain ⟨m, hm⟩ := k0; exact DataW.trod_lt m _ _ _ hm
  obtain ⟨cs0, rfl, hs0⟩ := okWide_struct Tryd.underlying26 (hval 0 26 v0 rfl rfl)
  obtain ⟨x0, K0, Q0⟩ := arg_struct (d := k26) (opens_iso (opens_struct Tryd.underlying26 (by kernel_rfl) (opens_cons (opens_slice Tryd.underlying22 (opens_iso (opens_struct Tryd.underlying92 (by kernel_rfl) (opens_cons (opens_string Tryd.underlying9) rfl (by kernel_rfl) (opens_cons (opens_string Tryd.underlying9) rfl (by kernel_rfl) (opens_last (opens_int Tryd.underlying2) rfl (by kernel_rfl))))) (fun x : S92 => (x.f0, x.f1, x.f2)) (fun p => ⟨p.1, p.2.1, p.2.2⟩) (fun _ => rfl)) (by kernel_rfl) 92) rfl (by kernel_rfl) (opens_cons (opens_slice Tryd.underlying23 (opens_string Tryd.underlying9) (by kernel_rfl) 9) rfl (by kernel_rfl) (opens_last (opens_slice Tryd.underlying24 (opens_iso (opens_struct Tryd.underlying94 (by kernel_rfl) (opens_cons (opens_string Tryd.underlying9) rfl (by kernel_rfl) (opens_cons (opens_string Tryd.underlying9) rfl (by kernel_rfl) (opens_last (opens_int Tryd.underlying2) rfl (by kernel_rfl))))) (fun x : S94 => (x.f0, x.f1, x.f2)) (fun p => ⟨p.1, p.2.1, p.2.2⟩) (fun _ => rfl)) (by kernel_rfl) 94) rfl (by kernel_rfl))))) (fun x : S26 => (x.f0, x.f1, x.f2)) (fun p => ⟨p.1, p.2.1, p.2.2⟩) (fun _ => rfl)) h0
  obtain ⟨A0_0, c0_0, A0_1, c0_1, A0_2, c0_2, e0, hl0_0, C0_0, hl0_1, C0_1, hl0_2, C0_2⟩ := k26_open K0
  obtain rfl : cs0 = #[.slice A0_0 x0.f0.length c0_0, .slice A0_1 x0.f1.length c0_1, .slice A0_2 x0.f2.length c0_2] := by cases cs0; simpa using e0
  clear hA0 hval0 hsz0
  obtain ⟨k, h⟩ := Pure.FnExactRigText x0 Q0
  refine (laws_FnExactRigText.calls k A0_0 c0_0 x0.f0 A0_1 c0_1 x0.f1 A0_2 c0_2 x0.f2 true W C0_0 hl0_0 C0_1 hl0_1 C0_2 hl0_2 hT h).mono fun e W' hpost => ?_
  obtain ⟨he, bel⟩ : e = .returned (.bool true) ∧ Below W.heap.size W W' := hpost
  subst he
  exact ⟨_, rfl, _, _, _, [], _, [], hW', trodAll_mk1 (shut_bool Tryd.underlying4 _), (trodAll_cons_mk (Below.trod laidOut (by kernel_rfl) (of_decide_eq_true (by kernel_rfl)) k0 bel lt0) trodAll_mk0), rfl, bel.frame _, fun h => by cases h⟩
theorem over : Rows.fnExactRigTextRow.holds Tryd.pinned (OpenSpec.ofChange Rows.fnExactRigTextSpec) :=
  OpenClaim.holds_of_wide 3 Tryd.f3 rfl rfl rfl rfl rfl rfl rfl ⟨rfl, rfl, rfl, rfl, rfl⟩ rfl rfl rfl rfl rfl (by kernel_rfl) Tryd.func3 (by kernel_rfl)
    (of_decide_eq_true (by kernel_rfl)) (by unfold Func.isWrapper; first | (rw [if_pos (by decide +kernel)]; kernel_rfl) | (rw [if_neg (by decide +kernel)]; exact ⟨rfl, rfl⟩))
    (fun os started H enc _ => lifted os started H enc)
theorem proved : Rows.FnExactRigTextSaid := over
#print axioms proved
end Go.Proofs.YtcenjcgfdghfnaaDoor.fnExactRigText
namespace Go.Proofs.YtcenjcgfdghfnaaDoor
/-- The row, and its card, tied to the program's text. -/
theorem fnExactRigText_holds : Rows.FnExactRigTextCardSaid :=
  Claim7.holds_tied_plain_at .later [] [.data, .data, .data] true (true, "5a6c8dd82b1c1d25b11ec8eab670266b9c356aa3f4341bea2f58381a00a2e466") false
    fnExactRigText.proved (fun _ h => by cases h) (by kernel_rfl) (fun _ h => by cases h) fnExactRigText_row_tie rfl ⟨rfl, rfl⟩ (by kernel_rfl) rfl
    (fun f fn hf hfn => by
      obtain rfl : f = 3 := Option.some.inj ((show Tryd.prog.funcNamed "loop.example/g01044/laws.FnExactRigText" = some 3 by kernel_rfl).symm.trans hf) |>.symm
      obtain rfl : fn = Tryd.f3 := (Option.some.inj (Tryd.func3.symm.trans hfn)).symm
      exact ⟨by kernel_rfl, fun j t ht => by
        rw [Tryd.params3] at ht
        have hm : t ∈ [26] := by simpa using Array.mem_of_getElem? ht
        have hall : ([26].all fun u => !Tryd.prog.wantsStandIn u) = true := by kernel_rfl
        exact (show Tryd.prog.wantsStandIn t = false by simpa using List.all_eq_true.1 hall t hm)⟩)
    (by kernel_rfl)
end Go.Proofs.YtcenjcgfdghfnaaDoor
end
