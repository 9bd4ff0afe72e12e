/- Texts of this claim, packed: DeckS, DeckM, DeckA, DeckB, DeckC, H8. -/
import Derived.Laws.BitsLemmas
import Derived.Test.YtfkiamccipoioaaZFnExactStuckLines14
section
/- States as lists of bytes and as sets of bits; what holds the yards; whether a line may be changed: of both. -/
namespace Go.Proofs.YtfkiamccipoioaaB
open Go.RowKit Go.Proofs.YtfkiamccipoioaaW.PrintWords Go.Proofs.YtfkiamccipoioaaW.PrintLast Go.Proofs.YtfkiamccipoioaaW.PrintMore Go.Proofs.Ytfkiamccipoioaa.P

/-! ### bits -/
theorem wraps_i64 (n : Int) (h0 : 0 ≤ n) (h1 : n < 2 ^ 62) : IntKind.i64.wrap n = n := by
  rw [IntKind.wrap_i64]
  omega
theorem bits_or64 (a b : Nat) (ha : a < 2 ^ 62) (hb : b < 2 ^ 62) : bits .or .i64 (a : Int) (b : Int) = ((a ||| b : Nat) : Int) := (bits_nat .i64 62 (by decide) wraps_i64 a b ha hb).2
theorem bits_and64 (a b : Nat) (ha : a < 2 ^ 62) (hb : b < 2 ^ 62) : bits .and .i64 (a : Int) (b : Int) = ((a &&& b : Nat) : Int) := (bits_nat .i64 62 (by decide) wraps_i64 a b ha hb).1
theorem bits_xor64 (a b : Nat) (ha : a < 2 ^ 62) (hb : b < 2 ^ 62) : bits .xor .i64 (a : Int) (b : Int) = ((a ^^^ b : Nat) : Int) := by
  have ha' : a % 2 ^ IntKind.i64.bits = a := Nat.mod_eq_of_lt (Nat.lt_of_lt_of_le ha (by decide))
  have hb' : b % 2 ^ IntKind.i64.bits = b := Nat.mod_eq_of_lt (Nat.lt_of_lt_of_le hb (by decide))
  simp only [bits, BitVec.ofInt_natCast, BitVec.toNat_xor, BitVec.toNat_ofNat, ha', hb']
  exact wraps_i64 _ (Int.natCast_nonneg _) (by exact_mod_cast Nat.xor_lt_two_pow ha hb)
theorem shl_one (i : Int) (_h0 : 0 ≤ i) (h1 : i < 62) : shl .i64 1 i = ((2 ^ i.toNat : Nat) : Int) := by
  have hb : IntKind.i64.bits = 64 := rfl
  unfold shl
  rw [Nat.min_eq_left (by omega), Int.one_mul]
  have e : (2 : Int) ^ i.toNat = ((2 ^ i.toNat : Nat) : Int) := by simp
  rw [e]
  refine wraps_i64 _ (Int.natCast_nonneg _) ?_
  have : 2 ^ i.toNat < 2 ^ 62 := Nat.pow_lt_pow_right (by decide) (by omega)
  exact_mod_cast this
theorem bit_of (a : Nat) (ha : a < 2 ^ 62) (i : Int) (_h0 : 0 ≤ i) (h1 : i < 62) : bits .and .i64 (shr .i64 (a : Int) i) 1 = if a.testBit i.toNat then 1 else 0 := by
  have hb : IntKind.i64.bits = 64 := rfl
  unfold shr
  rw [Nat.min_eq_left (by omega)]
  have e : (a : Int) / 2 ^ i.toNat = ((a / 2 ^ i.toNat : Nat) : Int) := by simp
  have e1 : (1 : Int) = ((1 : Nat) : Int) := rfl
  rw [e, e1, bits_and64 _ 1 (Nat.lt_of_le_of_lt (Nat.div_le_self _ _) ha) (by decide), Nat.and_one_is_mod, Nat.testBit_eq_decide_div_mod_eq]
  have := Nat.mod_lt (a / 2 ^ i.toNat) (by decide : 0 < 2)
  by_cases h : a / 2 ^ i.toNat % 2 = 1
  · rw [h]; simp
  · have : a / 2 ^ i.toNat % 2 = 0 := by omega
    rw [this]; simp
/-- A state's set: bit i is the line i. -/
def setN : List Int → Nat
  | [] => 0
  | c :: cs => 2 * setN cs + (if c = 70 then 1 else 0)
theorem setN_bit : ∀ (l : List Int) (i : Nat), (setN l).testBit i = decide (l.getD i 0 = 70) := by
  intro l
  induction l with
  | nil => intro i; simp [setN]
  | cons c cs ih =>
    intro i
    cases i with
    | zero =>
      rw [setN, Nat.testBit_zero, List.getD_cons_zero]
      by_cases h : c = 70
      · simp [h]
      · simp [h]
    | succ i =>
      rw [setN, Nat.testBit_succ, List.getD_cons_succ, ← ih i]
      congr 1
      split <;> omega
theorem setN_lt : ∀ l : List Int, setN l < 2 ^ l.length := by
  intro l
  induction l with
  | nil => decide
  | cons c cs ih =>
    rw [setN, List.length_cons, Nat.pow_succ]
    split <;> omega
theorem setN_small {l : List Int} (h : l.length ≤ 61) : setN l < 2 ^ 62 :=
  Nat.lt_of_lt_of_le (setN_lt l) (Nat.pow_le_pow_right (by decide) (by omega))
theorem setN_snoc (p : List Int) (c : Int) : setN (p ++ [c]) = setN p ||| (if c = 70 then 2 ^ p.length else 0) := by
  apply Nat.eq_of_testBit_eq
  intro i
  rw [setN_bit, Nat.testBit_or, setN_bit]
  by_cases hi : i < p.length
  · rw [List.getD_eq_getElem?_getD, List.getElem?_append_left hi, ← List.getD_eq_getElem?_getD]
    by_cases h : c = 70
    · rw [if_pos h, Nat.testBit_two_pow, decide_eq_false (show ¬ p.length = i by omega), Bool.or_false]
    · rw [if_neg h, Nat.zero_testBit, Bool.or_false]
  · have hp : (p.getD i 0) = 0 := by rw [List.getD_eq_getElem?_getD, List.getElem?_eq_none (by omega)]; rfl
    rw [hp, List.getD_eq_getElem?_getD, List.getElem?_append_right (by omega)]
    by_cases he : i = p.length
    · subst he
      by_cases h : c = 70
      · simp [h]
      · simp [h]
    · have : ([c] : List Int)[i - p.length]? = none := List.getElem?_eq_none (by simp; omega)
      rw [this]
      by_cases h : c = 70
      · rw [if_pos h, Nat.testBit_two_pow, decide_eq_false (show ¬ p.length = i by omega)]
        rfl
      · simp [h]
abbrev flipL (l : List Int) (i : Int) : List Int := l.set i.toNat (if rd l i = 70 then 76 else 70)
theorem setN_flip (l : List Int) (i : Int) (_h0 : 0 ≤ i) (h : i < (l.length : Int)) : setN (flipL l i) = setN l ^^^ 2 ^ i.toNat := by
  apply Nat.eq_of_testBit_eq
  intro j
  rw [setN_bit, Nat.testBit_xor, setN_bit, Nat.testBit_two_pow, List.getD_eq_getElem?_getD]
  have hr : rd l i = l.getD i.toNat 0 := rfl
  by_cases he : i.toNat = j
  · subst he
    rw [List.getElem?_set_self (by omega), Option.getD_some, hr]
    by_cases hc : l.getD i.toNat 0 = 70
    · rw [if_pos hc, decide_eq_true hc]; simp
    · rw [if_neg hc, decide_eq_false hc]; simp
  · rw [List.getElem?_set_ne he, ← List.getD_eq_getElem?_getD, decide_eq_false he, Bool.xor_false]
theorem bit_rd (l : List Int) (hl : l.length ≤ 61) (i : Int) (h0 : 0 ≤ i) (h1 : i < 62) : bits .and .i64 (shr .i64 ((setN l : Nat) : Int) i) 1 = if rd l i = 70 then 1 else 0 := by
  rw [bit_of _ (setN_small hl) i h0 h1, setN_bit]
  have hr : rd l i = l.getD i.toNat 0 := rfl
  rw [hr]
  by_cases h : l.getD i.toNat 0 = 70
  · rw [if_pos h, decide_eq_true h]; rfl
  · rw [if_neg h, decide_eq_false h]; rfl
theorem flip_bits (l : List Int) (hl : l.length ≤ 61) (i : Int) (h0 : 0 ≤ i) (h : i < (l.length : Int)) : bits .xor .i64 ((setN l : Nat) : Int) (shl .i64 1 i) = ((setN (flipL l i) : Nat) : Int) := by
  rw [shl_one i h0 (by omega), bits_xor64 _ _ (setN_small hl) (Nat.pow_lt_pow_right (by decide) (by omega)), setN_flip l i h0 h]
theorem set_loop (s : ByteArray) (hs : s.size ≤ 61) : ∀ (xs p : List Int), bytesOf s = p ++ xs → Ev (fun k => impl_setOf.l0 k s ((setN p : Nat) : Int) (p.length : Int)) ((setN (bytesOf s) : Nat) : Int) := by
  intro xs
  have hb := bytes_length s
  induction xs with
  | nil =>
    intro p hp
    rw [hp, List.append_nil] at hb
    refine Ev.step (fun k => by rw [impl_setOf.l0]) ?_
    refine ev_neg (by omega) (ev_of (Ev.now _) ?_)
    rw [hp, List.append_nil]
  | cons x xs ih =>
    intro p hp
    have hpl : (p.length : Int) + (xs.length + 1) = s.size := by rw [← hb, hp]; simp
    have hx : bt s (p.length : Int) = x := by rw [bt_rd, hp]; exact rd_mid p x xs
    have hw : wrap64 ((p.length : Int) + 1) = ((p ++ [x]).length : Int) := wrap_next p x (by omega)
    have hi := ih (p ++ [x]) (by rw [hp]; simp)
    rw [setN_snoc] at hi
    refine Ev.step (fun k => by rw [impl_setOf.l0]) ?_
    refine ev_pos (by omega) (ev_pos (by omega) ?_)
    rw [hx, hw]
    refine ev_ite (fun h => ?_) (fun h => ?_)
    · rw [if_pos h] at hi
      rw [shl_one _ (by omega) (by omega), Int.toNat_natCast, bits_or64 _ _ (setN_small (by omega)) (Nat.pow_lt_pow_right (by decide) (by omega))]
      exact hi
    · rw [if_neg h, Nat.or_zero] at hi
      exact hi
theorem set_ev (s : ByteArray) (hs : s.size ≤ 61) : Ev (fun k => impl_setOf.f k s) ((setN (bytesOf s) : Nat) : Int) := by
  unfold impl_setOf.f
  exact set_loop s hs (bytesOf s) [] rfl
/-! ### what holds the yards -/
def fastsL (l : List Int) (r : List Int) : Int := ((r.filter fun x => decide (rd l x = 70)).length : Int)
def heldL (l : List Int) (ys : List (List Int)) : List Int := ys.map (fastsL l)
theorem fastsL_snoc (l p : List Int) (x : Int) : fastsL l (p ++ [x]) = fastsL l p + if rd l x = 70 then 1 else 0 := by
  unfold fastsL
  rw [List.filter_append, List.length_append]
  by_cases h : rd l x = 70
  · rw [if_pos h, List.filter_cons, if_pos (decide_eq_true h)]; simp
  · rw [if_neg h, List.filter_cons, if_neg (by rw [decide_eq_false h]; simp)]; simp
theorem fastsL_le (l r : List Int) : 0 ≤ fastsL l r ∧ fastsL l r ≤ r.length := by
  unfold fastsL
  have := List.length_filter_le (fun x => decide (rd l x = 70)) r
  omega
def linesIn (m : Int) (ys : List (List Int)) : Prop := ys.length ≤ 1048576 ∧ ∀ r ∈ ys, r.length ≤ 1048576 ∧ ∀ x ∈ r, 0 ≤ x ∧ x < m
section
variable (n : List Int) (ys : List (List Int)) (l : List Int) (hl : l.length ≤ 61) (hy : linesIn (l.length : Int) ys)
include hl hy
theorem impl_row (j : Nat) (hj : j ≤ 1048576) (acc : List Int) (hacc : acc.length ≤ 1048576) (r : List Int) (hr : r ∈ ys) {b : List Int} (hnext : Ev (fun k => impl_heldBy.l0 k ((setN l : Nat) : Int) (acc ++ [fastsL l r]) ys (ys.length : Int) ((j : Int) + 1)) b) : ∀ (xs p : List Int), r = p ++ xs →
    Ev (fun k => impl_heldBy.l1 k ((setN l : Nat) : Int) acc (fastsL l p) ys (ys.length : Int) (j : Int) r (r.length : Int) (p.length : Int)) b := by
  intro xs
  obtain ⟨hrl, hrin⟩ := hy.2 r hr
  induction xs with
  | nil =>
    intro p hp
    have e : r = p := by rw [hp, List.append_nil]
    refine Ev.step (fun k => by rw [impl_heldBy.l1]) ?_
    refine ev_neg (by rw [e]; omega) (ev_pos (by omega) ?_)
    rw [wrap_small (i := (j : Int) + 1) (by omega) (by omega), ← e]
    exact hnext
  | cons x xs ih =>
    intro p hp
    have hpl : (p.length : Int) + (xs.length + 1) = r.length := by rw [hp]; simp
    have hx : rd r (p.length : Int) = x := by rw [hp]; exact rd_mid p x xs
    have hw : wrap64 ((p.length : Int) + 1) = ((p ++ [x]).length : Int) := wrap_next p x (by omega)
    have hxi := hrin x (by rw [hp]; simp)
    have hf := fastsL_le l p
    have hi := ih (p ++ [x]) (by rw [hp]; simp)
    rw [fastsL_snoc] at hi
    refine Ev.step (fun k => by rw [impl_heldBy.l1]) ?_
    refine ev_pos (by omega) (ev_pos (by omega) (ev_pos (by omega) ?_))
    rw [hx, hw]
    refine ev_pos hxi.1 ?_
    rw [bit_rd l hl x hxi.1 (by omega), wrap_small (i := fastsL l p + _) (by split <;> omega) (by split <;> omega)]
    exact hi
theorem impl_rows : ∀ (xs p : List (List Int)), ys = p ++ xs → Ev (fun k => impl_heldBy.l0 k ((setN l : Nat) : Int) (heldL l p) ys (ys.length : Int) (p.length : Int)) (heldL l ys) := by
  intro xs
  have hyl := hy.1
  induction xs with
  | nil =>
    intro p hp
    have e : ys = p := by rw [hp, List.append_nil]
    refine Ev.step (fun k => by rw [impl_heldBy.l0]) ?_
    refine ev_neg (by rw [e]; omega) (ev_of (Ev.now _) ?_)
    rw [e]
  | cons x xs ih =>
    intro p hp
    have hpl : (p.length : Int) + (xs.length + 1) = ys.length := by rw [hp]; simp
    have hx : rd_L1 ys (p.length : Int) = x := by rw [hp]; exact rdL_mid p x xs
    have hi := ih (p ++ [x]) (by rw [hp]; simp)
    have hz : ((p ++ [x]).length : Int) = (p.length : Int) + 1 := by simp
    have hh : heldL l (p ++ [x]) = heldL l p ++ [fastsL l x] := by unfold heldL; rw [List.map_append]; rfl
    have hhl : (heldL l p).length = p.length := List.length_map ..
    rw [hz, hh] at hi
    refine Ev.step (fun k => by rw [impl_heldBy.l0]) ?_
    refine ev_pos (by omega) (ev_pos (by omega) (ev_pos (by omega) ?_))
    rw [hx]
    exact impl_row ys l hl hy p.length (by omega) (heldL l p) (by omega) x (by rw [hp]; simp) hi x [] rfl
theorem impl_held : Ev (fun k => impl_heldBy.f k n ys ((setN l : Nat) : Int)) (heldL l ys) := by
  unfold impl_heldBy.f
  exact impl_rows ys l hl hy ys [] rfl
end
section
variable (n : List Int) (ys : List (List Int)) (s : ByteArray) (hy : linesIn (s.size : Int) ys)
include hy
theorem spec_row (j : Nat) (acc : List Int) (hacc : acc.length ≤ 1048576) (hj : j < ys.length) (r : List Int) (hr : rd_L1 ys (j : Int) = r) {b : List Int} (hnext : Ev (fun k => spec_l20Held.l0 k s (acc ++ [fastsL (bytesOf s) r]) ((j : Int) + 1) n ys) b) : ∀ (xs p : List Int), r = p ++ xs →
    Ev (fun k => spec_l20Held.l1 k s acc (j : Int) (fastsL (bytesOf s) p) (p.length : Int) n ys) b := by
  intro xs
  have hyl := hy.1
  obtain ⟨hrl, hrin⟩ := hy.2 r (by rw [← hr]; unfold rd_L1; rw [Int.toNat_natCast, List.getD_eq_getElem?_getD, List.getElem?_eq_getElem hj]; exact List.getElem_mem _)
  induction xs with
  | nil =>
    intro p hp
    have e : r = p := by rw [hp, List.append_nil]
    refine Ev.step (fun k => by rw [spec_l20Held.l1]) ?_
    refine ev_pos (by omega) (ev_pos (by omega) ?_)
    rw [hr]
    refine ev_neg (by rw [e]; omega) (ev_pos (by omega) ?_)
    rw [wrap_small (i := (j : Int) + 1) (by omega) (by omega), ← e]
    exact hnext
  | cons x xs ih =>
    intro p hp
    have hpl : (p.length : Int) + (xs.length + 1) = r.length := by rw [hp]; simp
    have hx : rd r (p.length : Int) = x := by rw [hp]; exact rd_mid p x xs
    have hw : wrap64 ((p.length : Int) + 1) = ((p ++ [x]).length : Int) := wrap_next p x (by omega)
    have hxi := hrin x (by rw [hp]; simp)
    have hf := fastsL_le (bytesOf s) p
    have hi := ih (p ++ [x]) (by rw [hp]; simp)
    rw [fastsL_snoc] at hi
    refine Ev.step (fun k => by rw [spec_l20Held.l1]) ?_
    refine ev_pos (by omega) (ev_pos (by omega) ?_)
    rw [hr]
    refine ev_pos (by omega) (ev_pos (by omega) ?_)
    rw [hx, hw]
    refine ev_pos hxi.1 (ev_pos hxi.2 ?_)
    rw [bt_rd]
    refine ev_ite (fun h => ?_) (fun h => ?_)
    · rw [if_pos h] at hi
      rw [wrap_small (i := fastsL (bytesOf s) p + 1) (by omega) (by omega)]
      exact hi
    · rw [if_neg h, Int.add_zero] at hi
      exact hi
theorem spec_rows : ∀ (xs p : List (List Int)), ys = p ++ xs → Ev (fun k => spec_l20Held.l0 k s (heldL (bytesOf s) p) (p.length : Int) n ys) (heldL (bytesOf s) ys) := by
  intro xs
  have hyl := hy.1
  induction xs with
  | nil =>
    intro p hp
    have e : ys = p := by rw [hp, List.append_nil]
    refine Ev.step (fun k => by rw [spec_l20Held.l0]) ?_
    refine ev_neg (by rw [e]; omega) (ev_of (Ev.now _) ?_)
    rw [e]
  | cons x xs ih =>
    intro p hp
    have hpl : (p.length : Int) + (xs.length + 1) = ys.length := by rw [hp]; simp
    have hx : rd_L1 ys (p.length : Int) = x := by rw [hp]; exact rdL_mid p x xs
    have hi := ih (p ++ [x]) (by rw [hp]; simp)
    have hz : ((p ++ [x]).length : Int) = (p.length : Int) + 1 := by simp
    have hh : heldL (bytesOf s) (p ++ [x]) = heldL (bytesOf s) p ++ [fastsL (bytesOf s) x] := by unfold heldL; rw [List.map_append]; rfl
    have hhl : (heldL (bytesOf s) p).length = p.length := List.length_map ..
    rw [hz, hh] at hi
    refine Ev.step (fun k => by rw [spec_l20Held.l0]) ?_
    refine ev_pos (by omega) ?_
    exact spec_row n ys s hy p.length (heldL (bytesOf s) p) (by omega) (by omega) x hx hi x [] rfl
theorem spec_held : Ev (fun k => spec_l20Held.f k n ys s) (heldL (bytesOf s) ys) := by
  unfold spec_l20Held.f
  exact spec_rows n ys s hy ys [] rfl
end
/-! ### loose yards -/
def looseF : Nat → List Int → List Int
  | _, [] => []
  | i, x :: xs => if x = 0 then (i : Int) :: looseF (i + 1) xs else looseF (i + 1) xs
theorem looseF_has : ∀ (xs : List Int) (i : Nat), decide (0 < (looseF i xs).length) = xs.contains 0 := by
  intro xs
  induction xs with
  | nil => intro i; rfl
  | cons x xs ih =>
    intro i
    rw [looseF]
    by_cases h : x = 0
    · rw [if_pos h, h]; simp
    · rw [if_neg h, ih (i + 1), List.contains_cons]
      have : ((0 : Int) == x) = false := by simp; omega
      rw [this, Bool.false_or]
theorem loose_loop (h : List Int) (hh : h.length ≤ 1048576) : ∀ (xs p acc : List Int), h = p ++ xs → acc.length ≤ p.length → Ev (fun k => spec_l20Loose.l0 k h acc (p.length : Int)) (acc ++ looseF p.length xs) := by
  intro xs
  induction xs with
  | nil =>
    intro p acc hp _
    refine Ev.step (fun k => by rw [spec_l20Loose.l0]) ?_
    refine ev_neg (by rw [hp, List.append_nil]; omega) (ev_of (Ev.now _) ?_)
    rw [looseF, List.append_nil]
  | cons x xs ih =>
    intro p acc hp ha
    have hpl : (p.length : Int) + (xs.length + 1) = h.length := by rw [hp]; simp
    have hx : rd h (p.length : Int) = x := by rw [hp]; exact rd_mid p x xs
    have hw : wrap64 ((p.length : Int) + 1) = ((p ++ [x]).length : Int) := wrap_next p x (by omega)
    have hz : (p ++ [x]).length = p.length + 1 := by simp
    refine Ev.step (fun k => by rw [spec_l20Loose.l0]) ?_
    refine ev_pos (by omega) (ev_pos (by omega) ?_)
    rw [hx, hw, looseF]
    refine ev_ite (fun h2 => ?_) (fun h2 => ?_)
    · have hi := ih (p ++ [x]) (acc ++ [(p.length : Int)]) (by rw [hp]; simp) (by rw [hz, List.length_append, List.length_singleton]; omega)
      rw [hz, List.append_assoc, List.singleton_append] at hi
      rw [hz] at hw ⊢
      rw [if_pos h2]
      exact ev_pos (by omega) hi
    · have hi := ih (p ++ [x]) acc (by rw [hp]; simp) (by rw [hz]; omega)
      rw [hz] at hi ⊢
      rw [if_neg h2]
      exact hi
theorem spec_loose (n : List Int) (ys : List (List Int)) (s : ByteArray) (hy : linesIn (s.size : Int) ys) : Ev (fun k => spec_l20Loose.f k n ys s) (looseF 0 (heldL (bytesOf s) ys)) := by
  unfold spec_l20Loose.f
  refine Ev.bind (spec_held n ys s hy) ?_
  have hl : (heldL (bytesOf s) ys).length = ys.length := List.length_map ..
  exact loose_loop (heldL (bytesOf s) ys) (by have := hy.1; omega) _ [] [] rfl (Nat.le_refl _)
/-! ### a line is changed -/
theorem hasD_loop (a : Int) : ∀ (xs p : List Int), p.length + xs.length ≤ 1048576 → ∃ r, Ev (fun k => slices_Index_int64_int64.l0 k (p ++ xs) a ((p ++ xs).length : Int) (p.length : Int)) r ∧ decide (r ≥ 0) = xs.contains a := by
  intro xs
  induction xs with
  | nil =>
    intro p _
    refine ⟨-1, Ev.step (fun k => by rw [slices_Index_int64_int64.l0]) ?_, rfl⟩
    exact ev_neg (not_lt_end p) (Ev.now _)
  | cons x xs ih =>
    intro p hl
    rw [List.length_cons] at hl
    have hw : wrap64 ((p.length : Int) + 1) = ((p ++ [x]).length : Int) := wrap_next p x (by omega)
    obtain ⟨r, h1, h2⟩ := ih (p ++ [x]) (by rw [List.length_append]; simp; omega)
    by_cases h : a = x
    · refine ⟨(p.length : Int), Ev.step (fun k => by rw [slices_Index_int64_int64.l0]) ?_, ?_⟩
      · refine ev_pos (lt_mid p x xs) (ev_pos (by omega) (ev_pos (lt_mid p x xs) ?_))
        rw [rd_mid]
        exact ev_pos h (Ev.now _)
      · rw [decide_eq_true (by omega), h]; simp
    · refine ⟨r, Ev.step (fun k => by rw [slices_Index_int64_int64.l0]) ?_, ?_⟩
      · refine ev_pos (lt_mid p x xs) (ev_pos (by omega) (ev_pos (lt_mid p x xs) ?_))
        rw [rd_mid, hw, push_mid p x xs]
        exact ev_neg h h1
      · rw [h2, List.contains_cons]
        have : (a == x) = false := by simp; omega
        rw [this, Bool.false_or]
theorem hasD_ev (l : List Int) (a : Int) (h : l.length ≤ 1048576) : Ev (fun k => slices_Contains_int64_int64.f k l a) (l.contains a) := by
  unfold slices_Contains_int64_int64.f slices_Index_int64_int64.f
  obtain ⟨r, h1, h2⟩ := hasD_loop a l [] (by simp; omega)
  exact Ev.bind h1 (ev_of (Ev.now _) h2)
def changeC (n : List Int) (ys : List (List Int)) (l : List Int) (i : Int) : Int :=
  if 0 ≤ rd n i ∧ ¬ rd l (rd n i) = 70 then 6 else if (heldL (flipL l i) ys).contains 0 = true then 10 else 0
/-- A deck with its lines, and a state of it. -/
structure DeckOk (n : List Int) (ys : List (List Int)) (l : List Int) : Prop where
  few : n.length ≤ 8
  len : l.length = n.length
  needs : ∀ i : Nat, i < n.length → -1 ≤ rd n (i : Int) ∧ rd n (i : Int) < (n.length : Int)
  lines : linesIn (n.length : Int) ys
  fast : ∀ c ∈ l, c = 70 ∨ c = 76
theorem flip_len (l : List Int) (i : Int) : (flipL l i).length = l.length := List.length_set ..
theorem DeckOk.flip {n : List Int} {ys : List (List Int)} {l : List Int} (h : DeckOk n ys l) (i : Int) : DeckOk n ys (flipL l i) :=
  ⟨h.few, by rw [flip_len]; exact h.len, h.needs, h.lines, fun c hc => by
    rcases List.mem_or_eq_of_mem_set hc with hc | rfl
    · exact h.fast c hc
    · split
      · exact .inr rfl
      · exact .inl rfl⟩
theorem strOf_bytes {l : List Int} (h : ∀ c ∈ l, c = 70 ∨ c = 76) : bytesOf (strOfNums l) = l := by
  unfold bytesOf
  rw [strOfNums_data, List.map_map]
  conv => rhs; rw [← List.map_id l]
  refine List.map_congr_left (fun c hc => ?_)
  rcases h c hc with rfl | rfl <;> rfl
theorem bytes_strOf (s : ByteArray) (h : ∀ c ∈ bytesOf s, c = 70 ∨ c = 76) : strOfNums (bytesOf s) = s := bytes_inj (strOf_bytes h)
section
variable {n : List Int} {ys : List (List Int)} {l : List Int} (h : DeckOk n ys l) (i : Int) (h0 : 0 ≤ i) (h1 : i < (n.length : Int))
include h h0 h1
theorem DeckOk.need_in : -1 ≤ rd n i ∧ rd n i < (n.length : Int) := by
  have := h.needs i.toNat (by omega)
  unfold rd at this ⊢
  rwa [Int.toNat_natCast] at this
theorem impl_change : Ev (fun k => impl_changeCode.f k n ys ((setN l : Nat) : Int) i) (changeC n ys l i) := by
  have hfew := h.few
  have hlen := h.len
  have hnd := h.need_in i h0 h1
  have hf := h.flip i
  have hfl := flip_len l i
  have hj : Ev (fun k => impl_changeCode.j0 k ((setN l : Nat) : Int) i false n ys) (if (heldL (flipL l i) ys).contains 0 = true then 10 else 0) := by
    refine Ev.step (fun k => by rw [impl_changeCode.j0]) (ev_neg (by simp) (ev_pos h0 ?_))
    rw [flip_bits l (by omega) i h0 (by omega)]
    have hh := impl_held n ys (flipL l i) (by omega) (by rw [hfl, hlen]; exact h.lines)
    have hhl : (heldL (flipL l i) ys).length = ys.length := List.length_map ..
    refine Ev.bind hh (Ev.bind (hasD_ev _ 0 (by have := h.lines.1; omega)) (ev_ite (fun h2 => ?_) (fun h2 => ?_)))
    · rw [if_pos h2]; exact Ev.now _
    · rw [if_neg h2]; exact Ev.now _
  unfold impl_changeCode.f changeC
  refine ev_pos h0 (ev_pos h1 (ev_ite (fun h2 => ?_) (fun h2 => ?_)))
  · rw [bit_rd l (by omega) (rd n i) (by omega) (by omega)]
    refine ev_pos (by omega) ?_
    by_cases h3 : rd l (rd n i) = 70
    · rw [if_pos h3, if_neg (by simp [h3])]
      exact hj
    · rw [if_neg h3, if_pos ⟨by omega, h3⟩]
      refine Ev.step (fun k => by rw [impl_changeCode.j0]) ?_
      exact ev_pos (by rfl) (Ev.now _)
  · rw [if_neg (by omega)]
    exact hj
theorem spec_change (s : ByteArray) (hs : bytesOf s = l) : Ev (fun k => spec_l20Change.f k n ys s i) (if changeC n ys l i = 0 then strOfNums (flipL l i) else (⟨#[]⟩ : ByteArray), changeC n ys l i) := by
  have hfew := h.few
  have hlen := h.len
  have hnd := h.need_in i h0 h1
  have hsz : s.size = l.length := by rw [← hs, bytes_length]
  have hfb : flipB s i = flipL l i := by unfold flipB; rw [bt_rd, hs]
  have hb2 : bytesOf (strOfNums (flipL l i)) = flipL l i := strOf_bytes (h.flip i).fast
  unfold spec_l20Change.f changeC
  rw [bt_rd, hs, hfb]
  refine ev_pos ⟨h0, h1, by omega, by omega, by omega⟩ (ev_ite (fun h2 => ?_) (fun h2 => ?_))
  · rw [if_pos h2, if_neg (by decide)]
    exact Ev.now _
  · rw [if_neg h2]
    have hlo := spec_loose n ys (strOfNums (flipL l i)) (by rw [strOfNums_size, flip_len, hlen]; exact h.lines)
    rw [hb2] at hlo
    have hhas := looseF_has (heldL (flipL l i) ys) 0
    refine Ev.bind hlo (ev_ite (fun h3 => ?_) (fun h3 => ?_))
    · rw [decide_eq_true h3] at hhas
      rw [if_pos hhas.symm, if_neg (by decide)]
      exact Ev.now _
    · rw [decide_eq_false h3] at hhas
      rw [← hhas, if_neg (show ¬ false = true by simp), if_pos rfl]
      exact Ev.now _
end
theorem needs_of {n : List Int} : ∀ (xs p : List Int) (m : Int), n = p ++ xs → needsB m (p.length : Int) xs = true → ∀ i : Nat, p.length ≤ i → i < n.length → -1 ≤ rd n (i : Int) ∧ rd n (i : Int) < m := by
  intro xs
  induction xs with
  | nil => intro p m hp _ i h1 h2; rw [hp, List.append_nil] at h2; omega
  | cons x xs ih =>
    intro p m hp h i h1 h2
    rw [needsB, Bool.and_eq_true] at h
    by_cases e : i = p.length
    · subst e
      have hx : rd n (p.length : Int) = x := by rw [hp]; exact rd_mid p x xs
      have h3 := h.1
      simp only [needB, Bool.and_eq_true, decide_eq_true_eq] at h3
      rw [hx]
      omega
    · exact ih (p ++ [x]) m (by rw [hp]; simp) (by
        have hz : ((p ++ [x]).length : Int) = (p.length : Int) + 1 := by simp
        rw [hz]
        exact h.2) i (by rw [List.length_append, List.length_singleton]; omega) h2
theorem rise_of (m : Int) : ∀ (xs : List Int) (pv : Option Int), riseB m pv xs = true → ∀ x ∈ xs, 0 ≤ x ∧ x < m := by
  intro xs
  induction xs with
  | nil => intro _ _ x hx; simp at hx
  | cons y xs ih =>
    intro pv h x hx
    rw [riseB, Bool.and_eq_true] at h
    rcases List.mem_cons.1 hx with rfl | hx
    · have h3 := h.1
      simp only [lineB, Bool.and_eq_true, decide_eq_true_eq] at h3
      omega
    · exact ih _ h.2 x hx
theorem deckOk_of (n : List Int) (ys : List (List Int)) (s : ByteArray) (hg : GoodDeck n ys) (h : codeD n ys s = 0) : DeckOk n ys (bytesOf s) := by
  unfold codeD at h
  split at h
  · rename_i hd
    split at h
    · rename_i hst
      simp only [deckB, Bool.and_eq_true, decide_eq_true_eq] at hd
      simp only [stateB, Bool.and_eq_true, decide_eq_true_eq, List.all_eq_true, fastB, Bool.or_eq_true] at hst
      have hbl := bytes_length s
      refine ⟨by omega, by omega, fun i hi => needs_of n [] _ rfl hd.2.2.1 i (by simp) hi, ⟨hg.2.1, fun r hr => ⟨(hg.2.2 r hr).1, ?_⟩⟩, hst.2⟩
      have hy := List.all_eq_true.1 hd.2.2.2 r hr
      rw [yardB, Bool.and_eq_true] at hy
      exact rise_of _ r none hy.2
    · simp at h
  · simp at h
end Go.Proofs.YtfkiamccipoioaaB
end

section
/- HeldBy, LooseYards, ChangesOf, of both; the marks of a deck. -/
namespace Go.Proofs.YtfkiamccipoioaaB
open Go.RowKit Go.Proofs.YtfkiamccipoioaaW.PrintWords Go.Proofs.YtfkiamccipoioaaW.PrintLast Go.Proofs.YtfkiamccipoioaaW.PrintMore Go.Proofs.Ytfkiamccipoioaa.P

theorem markCnt_eq : ∀ (n : Nat) (a : Int), 0 ≤ a → a + n ≤ 4611686018427387904 → markCnt n a = a + n := by
  intro n
  induction n with
  | zero => intro a _ _; rw [markCnt]; omega
  | succ n ih =>
    intro a h0 h1
    rw [markCnt, wrap_small (i := a + 1) (by omega) (by omega), ih (a + 1) (by omega) (by omega)]
    omega
theorem marksCnt_ge : ∀ (ls : List (List Int)) (a : Int), 0 ≤ a → (∀ r ∈ ls, r.length ≤ 1048576) → a + ls.length * 1048576 ≤ 4611686018427387904 → 0 ≤ marksCnt ls a := by
  intro ls
  induction ls with
  | nil => intro a h0 _ _; exact h0
  | cons r ls ih =>
    intro a h0 hr h1
    rw [List.length_cons] at h1
    have hl := hr r List.mem_cons_self
    rw [marksCnt, markCnt_eq _ _ h0 (by omega)]
    exact ih _ (by omega) (fun x hx => hr x (List.mem_cons_of_mem _ hx)) (by omega)
theorem markDeck_ok (n : List Int) (ys : List (List Int)) (hg : GoodDeck n ys) : ∃ m, laws_markDeck.f n ys 1 = some m ∧ ¬ m < 0 := by
  have h1 := hg.1.1
  have h2 := hg.2.1
  have h3 : ∀ r ∈ ys, r.length ≤ 1048576 := fun r hr => (hg.2.2 r hr).1
  refine ⟨marksCnt ys (markCnt n.length 1), ?_, ?_⟩
  · unfold laws_markDeck.f laws_markInt64SS.f
    rw [if_pos h1, if_pos ⟨h2, h3⟩]
  · have := marksCnt_ge ys (markCnt n.length 1) (by rw [markCnt_eq _ _ (by omega) (by omega)]; omega) h3 (by rw [markCnt_eq _ _ (by omega) (by omega)]; omega)
    omega
section
variable {n : List Int} {ys : List (List Int)} {s : ByteArray} (hok : DeckOk n ys (bytesOf s))
include hok
theorem DeckOk.size : s.size = n.length := by rw [← hok.len]; exact (bytes_length s).symm
end
/-- The lines that may change. -/
def chF (n : List Int) (ys : List (List Int)) (l : List Int) : Nat → Nat → List Int
  | 0, _ => []
  | d + 1, i => if changeC n ys l (i : Int) = 0 then (i : Int) :: chF n ys l d (i + 1) else chF n ys l d (i + 1)
theorem chF_length (n : List Int) (ys : List (List Int)) (l : List Int) : ∀ (d i : Nat), (chF n ys l d i).length ≤ d := by
  intro d
  induction d with
  | zero => intro i; exact Nat.le_refl _
  | succ d ih =>
    intro i
    have := ih (i + 1)
    rw [chF]
    split
    · rw [List.length_cons]; omega
    · omega
section
variable {n : List Int} {ys : List (List Int)} {s : ByteArray} (hok : DeckOk n ys (bytesOf s))
include hok
theorem changes_spec : ∀ (d i : Nat) (acc : List Int), i + d = n.length → acc.length ≤ i → Ev (fun k => spec_l20Changes.l0 k s acc (i : Int) n ys) (acc ++ chF n ys (bytesOf s) d i) := by
  have hfew := hok.few
  have hsz := hok.size
  intro d
  induction d with
  | zero =>
    intro i acc hi _
    refine Ev.step (fun k => by rw [spec_l20Changes.l0]) (ev_neg (by omega) (ev_of (Ev.now _) ?_))
    rw [chF, List.append_nil]
  | succ d ih =>
    intro i acc hi ha
    have hw : wrap64 ((i : Int) + 1) = ((i + 1 : Nat) : Int) := by rw [wrap_small (by omega) (by omega)]; omega
    refine Ev.step (fun k => by rw [spec_l20Changes.l0]) (ev_pos (by omega) (Ev.bind (spec_change hok (i : Int) (by omega) (by omega) s rfl) ?_))
    rw [hw]
    by_cases h2 : changeC n ys (bytesOf s) (i : Int) = 0
    · have h3 := ih (i + 1) (acc ++ [(i : Int)]) (by omega) (by rw [List.length_append, List.length_singleton]; omega)
      rw [List.append_assoc, List.singleton_append] at h3
      rw [show chF n ys (bytesOf s) (d + 1) i = (i : Int) :: chF n ys (bytesOf s) d (i + 1) by rw [chF, if_pos h2]]
      exact ev_pos h2 (ev_pos (by omega) h3)
    · rw [show chF n ys (bytesOf s) (d + 1) i = chF n ys (bytesOf s) d (i + 1) by rw [chF, if_neg h2]]
      exact ev_neg h2 (ih (i + 1) acc (by omega) (by omega))
end
end Go.Proofs.YtfkiamccipoioaaB
end

section
/- All states that are reached, of both: the same states in the same order. -/
namespace Go.Proofs.YtfkiamccipoioaaB
open Go.RowKit Go.Proofs.YtfkiamccipoioaaW.PrintWords Go.Proofs.YtfkiamccipoioaaW.PrintLast Go.Proofs.YtfkiamccipoioaaW.PrintMore Go.Proofs.Ytfkiamccipoioaa.P

def Fast (l : List Int) : Prop := ∀ c ∈ l, c = 70 ∨ c = 76
theorem setN_inj : ∀ (a b : List Int), a.length = b.length → Fast a → Fast b → setN a = setN b → a = b := by
  intro a
  induction a with
  | nil => intro b hl _ _ _; exact (List.length_eq_zero_iff.1 hl.symm).symm
  | cons x a ih =>
    intro b hl ha hb h
    cases b with
    | nil => simp at hl
    | cons y b =>
      rw [List.length_cons, List.length_cons] at hl
      rw [setN, setN] at h
      have hx := ha x List.mem_cons_self
      have hy := hb y List.mem_cons_self
      have hxy : x = y ∧ setN a = setN b := by
        rcases hx with rfl | rfl <;> rcases hy with rfl | rfl <;> simp at h ⊢ <;> omega
      rw [hxy.1, ih b (by omega) (fun c hc => ha c (List.mem_cons_of_mem _ hc)) (fun c hc => hb c (List.mem_cons_of_mem _ hc)) hxy.2]
/-- The number of a state, as the reference tells it. -/
def numN (l : List Int) : Nat := setN l.reverse
theorem numN_snoc (p : List Int) (c : Int) : numN (p ++ [c]) = 2 * numN p + (if c = 70 then 1 else 0) := by
  unfold numN
  rw [List.reverse_append, List.reverse_cons, List.reverse_nil, List.nil_append, List.singleton_append, setN]
theorem numN_lt (l : List Int) : numN l < 2 ^ l.length := by
  have := setN_lt l.reverse
  rw [List.length_reverse] at this
  exact this
theorem numN_inj {a b : List Int} (hl : a.length = b.length) (ha : Fast a) (hb : Fast b) (h : numN a = numN b) : a = b := by
  have := setN_inj a.reverse b.reverse (by rw [List.length_reverse, List.length_reverse]; exact hl) (fun c hc => ha c (List.mem_reverse.1 hc)) (fun c hc => hb c (List.mem_reverse.1 hc)) h
  exact List.reverse_inj.1 this
theorem number_loop (s : ByteArray) (hs : s.size ≤ 61) : ∀ (xs p : List Int), bytesOf s = p ++ xs → Ev (fun k => spec_l20Number.l0 k s ((numN p : Nat) : Int) (p.length : Int)) ((numN (bytesOf s) : Nat) : Int) := by
  intro xs
  have hb := bytes_length s
  induction xs with
  | nil =>
    intro p hp
    rw [List.append_nil] at hp
    refine Ev.step (fun k => by rw [spec_l20Number.l0]) ?_
    refine ev_neg (by rw [← hp]; omega) (ev_of (Ev.now _) ?_)
    rw [hp]
  | cons x xs ih =>
    intro p hp
    have hpl : (p.length : Int) + (xs.length + 1) = s.size := by rw [← hb, hp]; simp
    have hx : bt s (p.length : Int) = x := by rw [bt_rd, hp]; exact rd_mid p x xs
    have hlt := numN_lt p
    have hp2 : 2 ^ p.length ≤ 2 ^ 60 := Nat.pow_le_pow_right (by decide) (by omega)
    have hp3 : (2 : Nat) ^ 60 = 1152921504606846976 := by decide
    have hw : wrap64 ((p.length : Int) + 1) = ((p ++ [x]).length : Int) := wrap_next p x (by omega)
    have hw2 : wrap64 (((numN p : Nat) : Int) * 2) = ((numN p : Nat) : Int) * 2 := wrap_small (by omega) (by omega)
    have hw3 : wrap64 (((numN p : Nat) : Int) * 2 + 1) = ((numN p : Nat) : Int) * 2 + 1 := wrap_small (by omega) (by omega)
    have hi := ih (p ++ [x]) (by rw [hp]; simp)
    rw [numN_snoc] at hi
    refine Ev.step (fun k => by rw [spec_l20Number.l0]) ?_
    refine ev_pos (by omega) (ev_pos (by omega) ?_)
    rw [hx, hw, hw2, hw3]
    by_cases h : x = 70
    · rw [if_pos h] at hi
      exact ev_pos h (by rw [show ((2 * numN p + 1 : Nat) : Int) = ((numN p : Nat) : Int) * 2 + 1 by omega] at hi; exact hi)
    · rw [if_neg h] at hi
      exact ev_neg h (by rw [show ((2 * numN p + 0 : Nat) : Int) = ((numN p : Nat) : Int) * 2 by omega] at hi; exact hi)
theorem number_ev (s : ByteArray) (hs : s.size ≤ 61) : Ev (fun k => spec_l20Number.f k s) ((numN (bytesOf s) : Nat) : Int) := by
  unfold spec_l20Number.f
  exact number_loop s hs (bytesOf s) [] rfl
theorem nodup_bound : ∀ (N : Nat) (l : List Nat), l.Nodup → (∀ x ∈ l, x < N) → l.length ≤ N := by
  intro N
  induction N with
  | zero =>
    intro l _ h
    cases l with
    | nil => exact Nat.le_refl _
    | cons x l => exact absurd (h x List.mem_cons_self) (by omega)
  | succ N ih =>
    intro l hd h
    by_cases hm : N ∈ l
    · have h1 := List.length_erase_of_mem hm
      have h2 := ih (l.erase N) (hd.erase N) (fun x hx => by
        have h3 := (List.Nodup.mem_erase_iff hd).1 hx
        have := h x h3.2
        have := h3.1
        omega)
      have := List.length_pos_of_mem hm
      omega
    · have := ih l hd (fun x hx => by
        have := h x hx
        have : x ≠ N := fun e => hm (e ▸ hx)
        omega)
      omega
/-- What the reference remembers. -/
def seenL (L : List (List Int)) : List Bool := (List.range 256).map fun x => decide (x ∈ L.map numN)
theorem seenL_length (L : List (List Int)) : (seenL L).length = 256 := by unfold seenL; rw [List.length_map, List.length_range]
theorem seenL_get (L : List (List Int)) (i : Nat) (h : i < (seenL L).length) : (seenL L)[i] = decide (i ∈ L.map numN) := by simp [seenL]
theorem seenL_at (L : List (List Int)) (x : Nat) (h : x < 256) : rdOf false (seenL L) (x : Int) = decide (x ∈ L.map numN) := by
  have hx : x < (seenL L).length := by rw [seenL_length]; exact h
  have e : rdOf false (seenL L) (x : Int) = (seenL L)[x] := by
    unfold rdOf
    rw [Int.toNat_natCast, List.getD_eq_getElem?_getD, List.getElem?_eq_getElem hx]
    rfl
  rw [e, seenL_get]
theorem seenL_set (L : List (List Int)) (l : List Int) (_h : numN l < 256) : (seenL L).set (numN l) true = seenL (L ++ [l]) := by
  apply List.ext_getElem
  · rw [List.length_set, seenL_length, seenL_length]
  · intro i h1 h2
    rw [List.getElem_set, seenL_get, seenL_get, List.map_append, List.map_cons, List.map_nil]
    by_cases hi : numN l = i
    · rw [if_pos hi]
      symm
      rw [decide_eq_true_iff, List.mem_append]
      exact .inr (by rw [hi]; exact List.mem_singleton_self _)
    · rw [if_neg hi]
      congr 1
      apply propext
      rw [List.mem_append, List.mem_singleton]
      constructor
      · exact fun h => .inl h
      · rintro (h | h)
        · exact h
        · exact absurd h.symm hi
end Go.Proofs.YtfkiamccipoioaaB
end

section
/- The search of both sides: one step, one row, all. -/
namespace Go.Proofs.YtfkiamccipoioaaB
open Go.RowKit Go.Proofs.YtfkiamccipoioaaW.PrintWords Go.Proofs.YtfkiamccipoioaaW.PrintLast Go.Proofs.YtfkiamccipoioaaW.PrintMore Go.Proofs.Ytfkiamccipoioaa.P

def eS (L : List (List Int)) : List ByteArray := L.map strOfNums
def eX (L : List (List Int)) : List Int := L.map fun l => ((setN l : Nat) : Int)
def eB (P : List (Int × Int)) : List Int := P.map (·.1)
def eL (P : List (Int × Int)) : List Int := P.map (·.2)
structure AllInv (n : List Int) (ys : List (List Int)) (L : List (List Int)) (P : List (Int × Int)) (W : List (List Int)) : Prop where
  ok : ∀ l ∈ L, DeckOk n ys l
  nd : (L.map numN).Nodup
  pl : P.length = L.length
  wl : W.length = L.length
  zero : W.getD 0 [] = []
  way : ∀ t : Nat, (W.getD t []).length ≤ t
  path : ∀ t : Nat, 0 < t → t < L.length → ∃ b : Nat, b < t ∧ (P.getD t (0, 0)).1 = (b : Int) ∧ W.getD t [] = W.getD b [] ++ [(P.getD t (0, 0)).2]
section
variable {n : List Int} {ys L : List (List Int)} {P : List (Int × Int)} {W : List (List Int)}
theorem AllInv.few (h : AllInv n ys L P W) : L.length ≤ 256 := by
  have := nodup_bound 256 (L.map numN) h.nd (fun x hx => by
    obtain ⟨l, hl, rfl⟩ := List.mem_map.1 hx
    have h1 := numN_lt l
    have h2 := h.ok l hl
    have h3 : 2 ^ l.length ≤ 2 ^ 8 := Nat.pow_le_pow_right (by decide) (by rw [h2.len]; exact h2.few)
    have h4 : (2 : Nat) ^ 8 = 256 := by decide
    omega)
  rwa [List.length_map] at this
theorem rd_eX {i : Nat} {l : List Int} (hi : L[i]? = some l) : rd (eX L) (i : Int) = ((setN l : Nat) : Int) := by
  show (eX L).getD ((i : Int)).toNat 0 = _
  rw [Int.toNat_natCast, List.getD_eq_getElem?_getD]
  unfold eX
  rw [List.getElem?_map, hi]
  rfl
theorem rd_eS {i : Nat} {l : List Int} (hi : L[i]? = some l) : rdOf ByteArray.empty (eS L) (i : Int) = strOfNums l := by
  show (eS L).getD ((i : Int)).toNat ByteArray.empty = _
  rw [Int.toNat_natCast, List.getD_eq_getElem?_getD]
  unfold eS
  rw [List.getElem?_map, hi]
  rfl
theorem contains_eX (hok : ∀ l ∈ L, DeckOk n ys l) {q : List Int} (hq : DeckOk n ys q) : (eX L).contains ((setN q : Nat) : Int) = decide (numN q ∈ L.map numN) := by
  rw [Bool.eq_iff_iff, List.contains_iff_mem, decide_eq_true_iff]
  unfold eX
  rw [List.mem_map, List.mem_map]
  constructor
  · rintro ⟨l, hl, h⟩
    have h2 := hok l hl
    exact ⟨l, hl, by rw [setN_inj l q (by rw [h2.len, hq.len]) h2.fast hq.fast (by exact_mod_cast h)]⟩
  · rintro ⟨l, hl, h⟩
    have h2 := hok l hl
    exact ⟨l, hl, by rw [numN_inj (by rw [h2.len, hq.len]) h2.fast hq.fast h]⟩
theorem wf_set {q : List Int} (h : q.length ≤ 61) : (Lit.int .i64 ((setN q : Nat) : Int)).wf = true := by
  have := setN_small h
  have h2 : (2 : Nat) ^ 62 = 4611686018427387904 := by decide
  simp [Lit.wf, IntKind.min, IntKind.max, IntKind.signed, IntKind.bits]
  omega
theorem AllInv.push (h : AllInv n ys L P W) {i : Nat} {q : List Int} (hi : i < L.length) (hq : DeckOk n ys q) (hnew : numN q ∉ L.map numN) (j : Int) :
    AllInv n ys (L ++ [q]) (P ++ [((i : Int), j)]) (W ++ [W.getD i [] ++ [j]]) := by
  have hp := h.pl
  have hw := h.wl
  have hWi := h.way i
  refine ⟨fun l hl => ?_, ?_, by simp [hp], by simp [hw], ?_, fun t => ?_, fun t h0 ht => ?_⟩
  · rcases List.mem_append.1 hl with hl | hl
    · exact h.ok l hl
    · rw [List.mem_singleton.1 hl]; exact hq
  · rw [List.map_append, List.map_cons, List.map_nil, List.nodup_append]
    exact ⟨h.nd, by simp, fun a ha b hb e => by rw [List.mem_singleton.1 hb] at e; exact hnew (e ▸ ha)⟩
  · rw [List.getD_eq_getElem?_getD, List.getElem?_append_left (by omega), ← List.getD_eq_getElem?_getD]; exact h.zero
  · by_cases ht : t < W.length
    · rw [List.getD_eq_getElem?_getD, List.getElem?_append_left ht, ← List.getD_eq_getElem?_getD]; exact h.way t
    · rw [List.getD_eq_getElem?_getD, List.getElem?_append_right (by omega)]
      by_cases h1 : t = W.length
      · rw [h1, Nat.sub_self]
        simp only [List.getElem?_cons_zero, Option.getD_some, List.length_append, List.length_singleton]
        omega
      · rw [List.getElem?_eq_none (by simp; omega)]
        simp
  · rw [List.length_append, List.length_singleton] at ht
    by_cases h1 : t < L.length
    · obtain ⟨b, hb, h2, h3⟩ := h.path t h0 h1
      refine ⟨b, hb, ?_, ?_⟩
      · rw [List.getD_eq_getElem?_getD, List.getElem?_append_left (by omega), ← List.getD_eq_getElem?_getD]; exact h2
      · rw [List.getD_eq_getElem?_getD, List.getElem?_append_left (by omega), ← List.getD_eq_getElem?_getD, List.getD_eq_getElem?_getD (l := W ++ _) (i := b), List.getElem?_append_left (by omega), ← List.getD_eq_getElem?_getD, List.getD_eq_getElem?_getD (l := P ++ _), List.getElem?_append_left (by omega), ← List.getD_eq_getElem?_getD]
        exact h3
    · have e : t = L.length := by omega
      subst e
      refine ⟨i, hi, ?_, ?_⟩
      · rw [List.getD_eq_getElem?_getD, ← hp, List.getElem?_append_right (Nat.le_refl _), Nat.sub_self]; rfl
      · rw [List.getD_eq_getElem?_getD (l := P ++ _), List.getD_eq_getElem?_getD (l := W ++ _) (i := i), List.getElem?_append_left (by omega), ← List.getD_eq_getElem?_getD (l := W) (i := i), List.getD_eq_getElem?_getD]
        conv => lhs; rw [← hw, List.getElem?_append_right (Nat.le_refl _), Nat.sub_self]
        conv => rhs; rw [← hp, List.getElem?_append_right (Nat.le_refl _), Nat.sub_self]
        rfl
end
theorem getD_of {W : List (List Int)} {i : Nat} : rd_L1 W (i : Int) = W.getD i [] := by
  unfold rd_L1
  rw [Int.toNat_natCast]
theorem wrapS (i : Nat) (h : i ≤ 1048576) : wrap64 ((i : Int) + 1) = ((i + 1 : Nat) : Int) := by rw [wrap_small (by omega) (by omega)]; omega
/-- One line of one state: both go on alike. -/
theorem row_both0 {n : List Int} {ys : List (List Int)} {i : Nat} {l : List Int} : ∀ (d j : Nat) (L : List (List Int)) (P : List (Int × Int)) (W : List (List Int)) (pre : List Int), j + d = n.length → AllInv n ys L P W → L[i]? = some l → chF n ys l n.length 0 = pre ++ chF n ys l d j →
    ∃ L' P' W', AllInv n ys L' P' W' ∧ L'[i]? = some l ∧
      (∀ r, Ev (fun k => impl_reachedSets.l0 k (eX L') W' (i + 1) n ys) r → Ev (fun k => impl_reachedSets.l1 k (eX L) W i j n ys) r) ∧
      (∀ r, Ev (fun k => spec_l20All.l0 k (eS L') (eB P') (eL P') (seenL L') ((i + 1 : Nat) : Int) n ys) r → Ev (fun k => spec_l20All.l1 k (eS L) (eB P) (eL P) (seenL L) (i : Int) (chF n ys l n.length 0) (pre.length : Int) n ys) r) ∧ (∀ q, L[0]? = some q → L'[0]? = some q) := by
  intro d
  induction d with
  | zero =>
    intro j L P W pre hj hI hi hc
    have hfew := hI.few
    have hil := (List.getElem?_eq_some_iff.1 hi).1
    refine ⟨L, P, W, hI, hi, fun r h => ?_, fun r h => ?_, fun _ h => h⟩
    · exact Ev.step (fun k => by rw [impl_reachedSets.l1]) (ev_neg (by omega) h)
    · rw [chF, List.append_nil] at hc
      refine Ev.step (fun k => by rw [spec_l20All.l1]) (ev_neg (by rw [hc]; omega) ?_)
      rw [wrapS i (by omega)]
      exact h
  | succ d ih =>
    intro j L P W pre hj hI hi hc
    have hfew := hI.few
    have hil := (List.getElem?_eq_some_iff.1 hi).1
    have hok := hI.ok l (List.mem_of_getElem? hi)
    have hn8 := hok.few
    have hll := hok.len
    have hq : DeckOk n ys (flipL l (j : Int)) := hok.flip _
    have hnx : nextS (eX L) i j = ((setN (flipL l (j : Int)) : Nat) : Int) := by
      unfold nextS
      rw [rd_eX hi]
      exact flip_bits l (by omega) (j : Int) (by omega) (by omega)
    have hwf : (Lit.int .i64 (nextS (eX L) i j)).wf = true := by rw [hnx]; exact wf_set (by rw [hq.len]; omega)
    have hxl : (eX L).length = L.length := List.length_map ..
    have hsl : (eS L).length = L.length := List.length_map ..
    have hw9 : (Lit.int .i64 (nextS (eX L) i j)).wf = true ∧ i < (eX L).length := ⟨hwf, by omega⟩
    have hct : (eX L).contains (nextS (eX L) i j) = decide (numN (flipL l (j : Int)) ∈ L.map numN) := by rw [hnx]; exact contains_eX hI.ok hq
    have himp : Ev (fun k => impl_changeCode.f k n ys (rd (eX L) (i : Int)) (j : Int)) (changeC n ys l (j : Int)) := by
      rw [rd_eX hi]
      exact impl_change hok (j : Int) (by omega) (by omega)
    by_cases hch : changeC n ys l (j : Int) = 0
    · have hcf : chF n ys l (d + 1) j = (j : Int) :: chF n ys l d (j + 1) := by rw [chF, if_pos hch]
      rw [hcf] at hc
      have hc2 : chF n ys l n.length 0 = (pre ++ [(j : Int)]) ++ chF n ys l d (j + 1) := by rw [hc, List.append_assoc]; rfl
      have hpl : (pre ++ [(j : Int)]).length = pre.length + 1 := by rw [List.length_append, List.length_singleton]
      have hcl := chF_length n ys l n.length 0
      have hplen : pre.length < (chF n ys l n.length 0).length := by rw [hc]; simp
      have hrd : rd (chF n ys l n.length 0) (pre.length : Int) = (j : Int) := by rw [hc]; exact rd_mid pre (j : Int) _
      have hnum : numN (flipL l (j : Int)) < 256 := by
        have h1 := numN_lt (flipL l (j : Int))
        have h3 : 2 ^ (flipL l (j : Int)).length ≤ 2 ^ 8 := Nat.pow_le_pow_right (by decide) (by rw [hq.len]; exact hn8)
        have h4 : (2 : Nat) ^ 8 = 256 := by decide
        omega
      have hfast := hok.fast
      have hsc : Ev (fun k => spec_l20Change.f k n ys (strOfNums l) (j : Int)) (strOfNums (flipL l (j : Int)), 0) := by
        have := spec_change hok (j : Int) (by omega) (by omega) (strOfNums l) (strOf_bytes hfast)
        rw [if_pos hch, hch] at this
        exact this
      have hbq : bytesOf (strOfNums (flipL l (j : Int))) = flipL l (j : Int) := strOf_bytes hq.fast
      have hnb := number_ev (strOfNums (flipL l (j : Int))) (by rw [← bytes_length, hbq, hq.len]; omega)
      rw [hbq] at hnb
      by_cases hs : numN (flipL l (j : Int)) ∈ L.map numN
      · obtain ⟨L', P', W', h1, h2, h3, h4, h5⟩ := ih (j + 1) L P W (pre ++ [(j : Int)]) (by omega) hI hi hc2
        refine ⟨L', P', W', h1, h2, fun r h => ?_, fun r h => ?_, h5⟩
        · refine Ev.step (fun k => by rw [impl_reachedSets.l1]) (ev_pos (by omega) (ev_pos hw9 (ev_pos (by rw [hct, decide_eq_true hs]) (h3 r h))))
        · refine Ev.step (fun k => by rw [spec_l20All.l1]) (ev_pos (by omega) (ev_pos (by omega) (ev_pos (by omega) (ev_pos (by omega) ?_))))
          rw [rd_eS hi, hrd]
          refine Ev.bind hsc (Ev.bind hnb (ev_pos (by omega) (ev_pos (by rw [seenL_length]; omega) (ev_pos (by rw [seenL_at L _ hnum, decide_eq_true hs]) ?_))))
          have := h4 r h
          rw [hpl] at this
          rw [wrapS pre.length (by omega)]
          exact this
      · obtain ⟨L', P', W', h1, h2, h3, h4, h5⟩ := ih (j + 1) (L ++ [flipL l (j : Int)]) (P ++ [((i : Int), (j : Int))]) (W ++ [W.getD i [] ++ [(j : Int)]]) (pre ++ [(j : Int)]) (by omega) (hI.push hil hq hs (j : Int)) (by rw [List.getElem?_append_left hil]; exact hi) hc2
        have hWi := hI.way i
        have hwl := hI.wl
        have hpll := hI.pl
        have hs9 : (eX L).length < 1048576 ∧ W.length < 1048576 ∧ (rd_L1 W (i : Int)).length < 1048576 ∧ i < W.length := ⟨by omega, by omega, by rw [getD_of]; omega, by omega⟩
        refine ⟨L', P', W', h1, h2, fun r h => ?_, fun r h => ?_, fun q hq => h5 q (by rw [List.getElem?_append_left (by omega)]; exact hq)⟩
        · refine Ev.step (fun k => by rw [impl_reachedSets.l1]) (ev_pos (by omega) (ev_pos hw9 (ev_neg (by rw [hct, decide_eq_false hs]; simp) (Ev.bind himp (ev_pos hch (ev_pos hs9 ?_))))))
          have := h3 r h
          rw [getD_of, hnx]
          have e : eX (L ++ [flipL l (j : Int)]) = eX L ++ [((setN (flipL l (j : Int)) : Nat) : Int)] := by unfold eX; rw [List.map_append]; rfl
          rw [e] at this
          exact this
        · refine Ev.step (fun k => by rw [spec_l20All.l1]) (ev_pos (by omega) (ev_pos (by omega) (ev_pos (by omega) (ev_pos (by omega) ?_))))
          rw [rd_eS hi, hrd]
          have hbl : (eB P).length = L.length := by unfold eB; rw [List.length_map]; exact hpll
          have hll2 : (eL P).length = L.length := by unfold eL; rw [List.length_map]; exact hpll
          refine Ev.bind hsc (Ev.bind hnb (ev_pos (by omega) (ev_pos (by rw [seenL_length]; omega) (ev_neg (by rw [seenL_at L _ hnum, decide_eq_false hs]; simp) (Ev.bind hnb (ev_pos (by omega) (ev_pos (by rw [seenL_length]; omega) (ev_pos (by omega) (ev_pos (by omega) (ev_pos (by omega) ?_))))))))))
          have := h4 r h
          rw [hpl, ← seenL_set L _ hnum] at this
          have e1 : eS (L ++ [flipL l (j : Int)]) = eS L ++ [strOfNums (flipL l (j : Int))] := by unfold eS; rw [List.map_append]; rfl
          have e2 : eB (P ++ [((i : Int), (j : Int))]) = eB P ++ [(i : Int)] := by unfold eB; rw [List.map_append]; rfl
          have e3 : eL (P ++ [((i : Int), (j : Int))]) = eL P ++ [(j : Int)] := by unfold eL; rw [List.map_append]; rfl
          rw [e1, e2, e3] at this
          rw [wrapS pre.length (by omega), Int.toNat_natCast]
          exact this
    · have hcf : chF n ys l (d + 1) j = chF n ys l d (j + 1) := by rw [chF, if_neg hch]
      rw [hcf] at hc
      obtain ⟨L', P', W', h1, h2, h3, h4, h5⟩ := ih (j + 1) L P W pre (by omega) hI hi hc
      refine ⟨L', P', W', h1, h2, fun r h => ?_, h4, h5⟩
      refine Ev.step (fun k => by rw [impl_reachedSets.l1]) (ev_pos (by omega) (ev_pos hw9 (ev_ite (fun _ => h3 r h) (fun _ => Ev.bind himp (ev_neg hch (h3 r h))))))
end Go.Proofs.YtfkiamccipoioaaB
end

section
/- The whole search of both sides; ReachedStates. -/
namespace Go.Proofs.YtfkiamccipoioaaB
open Go.RowKit Go.Proofs.YtfkiamccipoioaaW.PrintWords Go.Proofs.YtfkiamccipoioaaW.PrintLast Go.Proofs.YtfkiamccipoioaaW.PrintMore Go.Proofs.Ytfkiamccipoioaa.P

theorem search_both {n : List Int} {ys : List (List Int)} : ∀ (m i : Nat) (L : List (List Int)) (P : List (Int × Int)) (W : List (List Int)), 256 ≤ m + i → i ≤ L.length → AllInv n ys L P W →
    ∃ L' P' W', AllInv n ys L' P' W' ∧ Ev (fun k => impl_reachedSets.l0 k (eX L) W i n ys) (eX L', W') ∧ Ev (fun k => spec_l20All.l0 k (eS L) (eB P) (eL P) (seenL L) (i : Int) n ys) (eS L', eB P', eL P') ∧ (∀ l, L[0]? = some l → L'[0]? = some l) := by
  intro m
  induction m with
  | zero =>
    intro i L P W hm hi hI
    have hfew := hI.few
    have hxl : (eX L).length = L.length := List.length_map ..
    have hsl : (eS L).length = L.length := List.length_map ..
    exact ⟨L, P, W, hI, Ev.step (fun k => by rw [impl_reachedSets.l0]) (ev_neg (by omega) (Ev.now _)), Ev.step (fun k => by rw [spec_l20All.l0]) (ev_neg (by omega) (Ev.now _)), fun _ h => h⟩
  | succ m ih =>
    intro i L P W hm hi hI
    have hfew := hI.few
    have hxl : (eX L).length = L.length := List.length_map ..
    have hsl : (eS L).length = L.length := List.length_map ..
    by_cases hlt : i < L.length
    · obtain ⟨l, hl⟩ : ∃ l, L[i]? = some l := ⟨_, List.getElem?_eq_getElem hlt⟩
      have hok := hI.ok l (List.mem_of_getElem? hl)
      obtain ⟨L1, P1, W1, h1, h2, h3, h4, h5⟩ : ∃ L' P' W', AllInv n ys L' P' W' ∧ L'[i]? = some l ∧ _ ∧ _ ∧ (∀ q, L[0]? = some q → L'[0]? = some q) := row_both0 n.length 0 L P W [] (by omega) hI hl rfl
      have hil := (List.getElem?_eq_some_iff.1 h2).1
      obtain ⟨L', P', W', g1, g2, g3, g4⟩ := ih (i + 1) L1 P1 W1 (by omega) (by omega) h1
      refine ⟨L', P', W', g1, Ev.step (fun k => by rw [impl_reachedSets.l0]) (ev_pos (by omega) (h3 _ g2)), Ev.step (fun k => by rw [spec_l20All.l0]) (ev_pos (by omega) (ev_pos (by omega) ?_)), fun q hq => g4 q (h5 q hq)⟩
      rw [rd_eS hl]
      refine Ev.bind (a := chF n ys l n.length 0) ?_ (h4 _ g3)
      have hb : bytesOf (strOfNums l) = l := strOf_bytes hok.fast
      unfold spec_l20Changes.f
      have hok2 : DeckOk n ys (bytesOf (strOfNums l)) := by rw [hb]; exact hok
      have := changes_spec hok2 n.length 0 [] (by omega) (Nat.le_refl _)
      rw [hb, List.nil_append] at this
      exact this
    · exact ⟨L, P, W, hI, Ev.step (fun k => by rw [impl_reachedSets.l0]) (ev_neg (by omega) (Ev.now _)), Ev.step (fun k => by rw [spec_l20All.l0]) (ev_neg (by omega) (Ev.now _)), fun _ h => h⟩
theorem all_both {n : List Int} {ys : List (List Int)} (s : ByteArray) (hok : DeckOk n ys (bytesOf s)) :
    ∃ L P W, AllInv n ys L P W ∧ Ev (fun k => impl_reachedSets.f k n ys ((setN (bytesOf s) : Nat) : Int)) (eX L, W) ∧ Ev (fun k => spec_l20All.f k n ys s) (eS L, eB P, eL P) ∧ L[0]? = some (bytesOf s) := by
  have hn8 := hok.few
  have hlen := hok.len
  have hbl := bytes_length s
  have hss : strOfNums (bytesOf s) = s := bytes_strOf s hok.fast
  have hI : AllInv n ys [bytesOf s] [((-1 : Int), (-1 : Int))] [[]] := by
    refine ⟨fun l hl => ?_, by simp, rfl, rfl, rfl, fun t => ?_, fun t h0 ht => ?_⟩
    · rw [List.mem_singleton.1 hl]; exact hok
    · cases t with
      | zero => exact Nat.le_refl _
      | succ t => exact Nat.zero_le _
    · rw [List.length_singleton] at ht; omega
  obtain ⟨L, P, W, h1, h2, h3, h4⟩ := search_both 256 0 [bytesOf s] [((-1 : Int), (-1 : Int))] [[]] (by omega) (by omega) hI
  have hnum : numN (bytesOf s) < 256 := by
    have h1 := numN_lt (bytesOf s)
    have h3 : 2 ^ (bytesOf s).length ≤ 2 ^ 8 := Nat.pow_le_pow_right (by decide) (by omega)
    have h4 : (2 : Nat) ^ 8 = 256 := by decide
    omega
  refine ⟨L, P, W, h1, ?_, ?_, h4 _ rfl⟩
  · unfold impl_reachedSets.f
    exact ev_pos ⟨by omega, wf_set (by omega)⟩ h2
  · unfold spec_l20All.f
    have hl0 : (List.replicate 256 false : List Bool).length = 256 := List.length_replicate ..
    refine ev_pos (by decide) (Ev.bind (Ev.now _) (Ev.bind (number_ev s (by omega)) (ev_pos (by omega) (ev_pos (by rw [hl0]; omega) ?_))))
    have e : (List.replicate 256 false : List Bool).set (numN (bytesOf s)) true = seenL [bytesOf s] := by
      have e0 : (List.replicate 256 false : List Bool) = seenL [] := by
        apply List.ext_getElem
        · rw [List.length_replicate, seenL_length]
        · intro i h1 h2
          rw [List.getElem_replicate, seenL_get]
          simp
      rw [e0]
      exact seenL_set [] (bytesOf s) hnum
    rw [Int.toNat_natCast, e]
    have e1 : eS [bytesOf s] = [s] := by unfold eS; rw [List.map_cons, List.map_nil, hss]
    rw [e1] at h3
    exact h3
end Go.Proofs.YtfkiamccipoioaaB
end

section
namespace Go.Proofs.Ytfkiamccipoioaa.P
open Go.RowKit Go.Proofs.YtfkiamccipoioaaW.Hand Go.Proofs.YtfkiamccipoioaaW.PrintWords Go.Proofs.YtfkiamccipoioaaW.PrintLast Go.Proofs.YtfkiamccipoioaaW.PrintMore Go.Proofs.YtfkiamccipoioaaW.Pk
set_option linter.unusedVariables false
set_option linter.unusedSimpArgs false

def rd40.T4 : Bool × List (List Nat × List Nat) := (true, [([], []), ([], []), ([1], [1]), ([0, 2, 2], [0, 2]), ([3], [3]), ([4], [4]), ([4], [4]), ([5, 3, 0, 1, 2, 3, 4, 5], [5]), ([6, 7, 0, 1, 2, 3, 4, 5, 6, 7], [6])])
def rd40.B4 : List Nat := [0, 0, 2, 7, 15, 31, 31, 63, 255]
theorem rd40.tab4 : rtab .any (opsOf Try.f40 4) = rd40.T4 := by kernel_rfl
theorem rd40.bits4 : waitsOk rd40.T4.2 rd40.B4 = true := by kernel_rfl
end Go.Proofs.Ytfkiamccipoioaa.P
end
