/- Texts of this claim, packed: Base, KdDeck, TyInt64, ToInt64, TyDeck, MkInt64, DeckV. -/
import Derived.Lib.Bytes
import Derived.Test.YtfkiamccipoioaaZFnExactStuckLines13
section
/- Plain words for the laws' statements over lists: an answer with enough rounds (Ev), step by step; one loop's round over a list that is told as what lies behind and what lies ahead. -/
namespace Go.Proofs.YtfkiamccipoioaaB
open Go.RowKit Go.Proofs.YtfkiamccipoioaaW.PrintWords Go.Proofs.YtfkiamccipoioaaW.PrintLast

theorem ev_pos {α : Type} {c : Prop} [Decidable c] {A B : Nat → Option α} {r : α} (h : c) (e : Ev A r) : Ev (fun k => if c then A k else B k) r := by
  simpa only [if_pos h] using e
theorem ev_neg {α : Type} {c : Prop} [Decidable c] {A B : Nat → Option α} {r : α} (h : ¬ c) (e : Ev B r) : Ev (fun k => if c then A k else B k) r := by
  simpa only [if_neg h] using e
theorem ev_ite {α : Type} {c : Prop} [Decidable c] {A B : Nat → Option α} {r : α} (h : c → Ev A r) (h2 : ¬ c → Ev B r) : Ev (fun k => if c then A k else B k) r := by
  by_cases hc : c
  · exact ev_pos hc (h hc)
  · exact ev_neg hc (h2 hc)
theorem ev_bind0 {α β : Type} {g : Option α} {f : Nat → α → Option β} {a : α} {r : β} (h : g = some a) (k : Ev (fun n => f n a) r) : Ev (fun n => g.bind (f n)) r := by
  subst h
  exact k
theorem ev_of {α : Type} {g : Nat → Option α} {a r : α} (h : Ev g a) (e : a = r) : Ev g r := e ▸ h

theorem wrap_small {i : Int} (h0 : -9223372036854775808 ≤ i) (h1 : i ≤ 9223372036854775807) : wrap64 i = i := by
  unfold wrap64
  omega
theorem wrap_next {α : Type} (p : List α) (x : α) (h : p.length ≤ 4611686018427387904) : wrap64 ((p.length : Int) + 1) = ((p ++ [x]).length : Int) := by
  rw [wrap_small (by omega) (by omega), List.length_append]
  simp
theorem getD_at {α : Type} (p : List α) (x : α) (xs : List α) (z : α) : (p ++ x :: xs).getD ((p.length : Int)).toNat z = x := by
  simp
theorem rd_mid (p : List Int) (x : Int) (xs : List Int) : rd (p ++ x :: xs) (p.length : Int) = x := by
  unfold rd
  exact getD_at p x xs 0
theorem set_mid {α : Type} (p : List α) (x y : α) (xs : List α) : (p ++ x :: xs).set ((p.length : Int)).toNat y = p ++ y :: xs := by
  simp
theorem push_mid {α : Type} (p : List α) (x : α) (xs : List α) : p ++ x :: xs = (p ++ [x]) ++ xs := by simp
theorem lt_mid {α : Type} (p : List α) (x : α) (xs : List α) : (p.length : Int) < ((p ++ x :: xs).length : Int) := by
  simp
  omega
theorem not_lt_end {α : Type} (p : List α) : ¬ (p.length : Int) < ((p ++ []).length : Int) := by simp

theorem bt_rd (s : ByteArray) (i : Int) : bt s i = rd (bytesOf s) i := by
  unfold bt rd bytesOf
  by_cases h : i.toNat < s.size
  · rw [dif_pos h]
    have h2 : i.toNat < s.data.toList.length := by rw [data_length]; exact h
    rw [List.getD_eq_getElem?_getD, List.getElem?_map, List.getElem?_eq_getElem h2]
    rfl
  · rw [dif_neg h]
    have h2 : ¬ i.toNat < s.data.toList.length := by rw [data_length]; exact h
    rw [List.getD_eq_getElem?_getD, List.getElem?_map, List.getElem?_eq_none (by omega)]
    rfl
theorem bytes_length (s : ByteArray) : (bytesOf s).length = s.size := by
  unfold bytesOf
  rw [List.length_map, data_length]
theorem bytes_inj {a b : ByteArray} (h : bytesOf a = bytesOf b) : a = b := by
  unfold bytesOf at h
  have h2 : a.data.toList = b.data.toList := by
    refine (List.map_inj_right ?_).1 h
    intro x y hxy
    exact UInt8.toNat_inj.1 (by omega)
  cases a
  cases b
  congr
  exact Array.toList_inj.1 h2
theorem toList_inj {a b : ByteArray} (h : a.toList = b.toList) : a = b := by
  rw [Lib.toList_data, Lib.toList_data] at h
  cases a
  cases b
  congr
  exact Array.toList_inj.1 h
/-- A number of 64 bits. -/
def I64 (n : Int) : Prop := -9223372036854775808 ≤ n ∧ n ≤ 9223372036854775807
theorem i64_of_wf {n : Int} (h : (Lit.int .i64 n).wf = true) : I64 n := by
  simp [Lit.wf, IntKind.min, IntKind.max, IntKind.signed, IntKind.bits] at h
  unfold I64
  omega

/-- Two readings come to one answer, of which P holds. -/
def Both {α : Type} (P : α → Prop) (A B : Nat → Option α) : Prop := ∃ r, Ev A r ∧ Ev B r ∧ P r
section
variable {α β : Type} {P : α → Prop} {Q : β → Prop} {A B A2 B2 C : Nat → Option α}
theorem both_now (r : α) (h : P r) : Both P (fun _ => some r) (fun _ => some r) := ⟨r, Ev.now r, Ev.now r, h⟩
theorem both_posL {c : Prop} [Decidable c] (hc : c) (h : Both P A C) : Both P (fun k => if c then A k else B k) C := by
  obtain ⟨r, h3, h4, hp⟩ := h
  exact ⟨r, ev_pos hc h3, h4, hp⟩
theorem both_negL {c : Prop} [Decidable c] (hc : ¬ c) (h : Both P B C) : Both P (fun k => if c then A k else B k) C := by
  obtain ⟨r, h3, h4, hp⟩ := h
  exact ⟨r, ev_neg hc h3, h4, hp⟩
theorem both_posR {c : Prop} [Decidable c] (hc : c) (h : Both P C A) : Both P C (fun k => if c then A k else B k) := by
  obtain ⟨r, h3, h4, hp⟩ := h
  exact ⟨r, h3, ev_pos hc h4, hp⟩
theorem both_negR {c : Prop} [Decidable c] (hc : ¬ c) (h : Both P C B) : Both P C (fun k => if c then A k else B k) := by
  obtain ⟨r, h3, h4, hp⟩ := h
  exact ⟨r, h3, ev_neg hc h4, hp⟩
theorem both_bindL {D : Nat → Option β} {F : Nat → α → Option β} {a : α} (h : Ev A a) (h2 : Both Q (fun k => F k a) D) : Both Q (fun k => (A k).bind (F k)) D := by
  obtain ⟨r, h3, h4, hq⟩ := h2
  exact ⟨r, Ev.bind h h3, h4, hq⟩
theorem both_bindR {D : Nat → Option β} {F : Nat → α → Option β} {a : α} (h : Ev A a) (h2 : Both Q D (fun k => F k a)) : Both Q D (fun k => (A k).bind (F k)) := by
  obtain ⟨r, h3, h4, hq⟩ := h2
  exact ⟨r, h3, Ev.bind h h4, hq⟩
theorem both_of {r : α} (h : Ev A r) (h2 : Ev B r) (hp : P r) : Both P A B := ⟨r, h, h2, hp⟩
end

end Go.Proofs.YtfkiamccipoioaaB
end

section
/- A deck by value, as an argument. -/
namespace Go.Proofs.Ytfkiamccipoioaa.P
open Go.RowKit Go.Proofs.YtfkiamccipoioaaW.PrintWords Go.Proofs.YtfkiamccipoioaaW.PrintLast

structure S25 where
  f0 : List Int
  f1 : List (List Int)
def k25 : Kd S25 := Kd.iso (Kd.pair (Kd.slice 2 (Kd.int .i64)) (Kd.slice 22 (Kd.slice 2 (Kd.int .i64)))) (fun x : S25 => (x.f0, x.f1))
theorem k25_open {w : World} {x : S25} {cs : List Value} (h : k25.K w x cs) : ∃ A0 c0 A1 c1, cs = [.slice A0 x.f0.length c0, .slice A1 x.f1.length c1] ∧ x.f0.length ≤ c0 ∧ Kd.C (Kd.int .i64) w A0 x.f0.length x.f0 ∧ x.f1.length ≤ c1 ∧ Kd.C (Kd.slice 2 (Kd.int .i64)) w A1 x.f1.length x.f1 := by
  obtain ⟨_, _, rfl, ⟨A0, c0, rfl, hl0, h0⟩, ⟨A1, c1, rfl, hl1, h1⟩⟩ := h
  exact ⟨A0, c0, A1, c1, rfl, hl0, h0, hl1, h1⟩
end Go.Proofs.Ytfkiamccipoioaa.P
end

section
/- Lists of whole numbers: their copy, their comparison. -/
namespace Go.Proofs.YtfkiamccipoioaaB
open Go.RowKit Go.Proofs.YtfkiamccipoioaaW.PrintWords Go.Proofs.YtfkiamccipoioaaW.PrintLast Go.Proofs.Ytfkiamccipoioaa.P

theorem eqInt64S_loop : ∀ (xs p : List Int), p.length + xs.length ≤ 4611686018427387904 → Ev (fun k => laws_eqInt64S.l0 k (p ++ xs) (p ++ xs) (p.length : Int)) true := by
  intro xs
  induction xs with
  | nil =>
    intro p _
    refine Ev.step (fun k => by rw [laws_eqInt64S.l0]) ?_
    exact ev_neg (not_lt_end p) (Ev.now _)
  | cons x xs ih =>
    intro p hl
    rw [List.length_cons] at hl
    have hw : wrap64 ((p.length : Int) + 1) = ((p ++ [x]).length : Int) := wrap_next p x (by omega)
    have hi := ih (p ++ [x]) (by rw [List.length_append]; simp; omega)
    refine Ev.step (fun k => by rw [laws_eqInt64S.l0]) ?_
    refine ev_pos (lt_mid p x xs) (ev_pos (Int.natCast_nonneg _) (ev_pos (lt_mid p x xs) ?_))
    rw [hw, push_mid p x xs]
    exact ev_pos rfl hi
theorem eqInt64S_refl (l : List Int) (hl : l.length ≤ 4611686018427387904) : Ev (fun k => laws_eqInt64S.f k l l) true := by
  unfold laws_eqInt64S.f
  exact ev_pos rfl (eqInt64S_loop l [] (by simp; omega))
end Go.Proofs.YtfkiamccipoioaaB
end

section
/- The copy of a list of whole numbers that came in. -/
namespace Go.Proofs.YtfkiamccipoioaaB
open Go.RowKit Go.Proofs.YtfkiamccipoioaaW.PrintWords Go.Proofs.YtfkiamccipoioaaW.PrintLast Go.Proofs.Ytfkiamccipoioaa.P

theorem toInt64S_loop : ∀ (xs p : List Int), p.length + xs.length ≤ 1048576 → Ev (fun k => laws_toInt64S.l0 k (p ++ xs) (p ++ List.replicate xs.length 0) (p.length : Int)) (p ++ xs) := by
  intro xs
  induction xs with
  | nil =>
    intro p _
    refine Ev.step (fun k => by rw [laws_toInt64S.l0]) ?_
    exact ev_neg (not_lt_end p) (ev_of (Ev.now _) (by simp))
  | cons x xs ih =>
    intro p hl
    rw [List.length_cons] at hl
    have hw : wrap64 ((p.length : Int) + 1) = ((p ++ [x]).length : Int) := wrap_next p x (by omega)
    have hi := ih (p ++ [x]) (by rw [List.length_append]; simp; omega)
    refine Ev.step (fun k => by rw [laws_toInt64S.l0]) ?_
    refine ev_pos (lt_mid p x xs) (ev_pos (Int.natCast_nonneg _) ?_)
    rw [rd_mid, hw]
    refine ev_pos (by simp; omega) ?_
    rw [List.length_cons, List.replicate_succ, set_mid, push_mid p x xs]
    rw [push_mid p x (List.replicate xs.length 0)]
    exact hi
theorem toInt64S_ev (l : List Int) (hl : l.length ≤ 1048576) : Ev (fun k => laws_toInt64S.f k l) l := by
  have h := toInt64S_loop l [] (by simp; omega)
  unfold laws_toInt64S.f
  refine ev_pos (Int.natCast_nonneg _) (ev_pos (by simp; omega) ?_)
  simpa using h
abbrev GoodInts (l : List Int) : Prop := l.length ≤ 1048576 ∧ ∀ x ∈ l, I64 x
end Go.Proofs.YtfkiamccipoioaaB
end

section
/- Deck: what it weighs, its copy, its comparison. -/
namespace Go.Proofs.YtfkiamccipoioaaB
open Go.RowKit Go.Proofs.YtfkiamccipoioaaW.PrintWords Go.Proofs.YtfkiamccipoioaaW.PrintLast Go.Proofs.Ytfkiamccipoioaa.P

abbrev GoodDeck (a : List Int) (b : List (List Int)) : Prop := GoodInts a ∧ b.length ≤ 1048576 ∧ ∀ r ∈ b, GoodInts r
theorem rdL_mid (p : List (List Int)) (x : List Int) (xs : List (List Int)) : rd_L1 (p ++ x :: xs) (p.length : Int) = x := by
  unfold rd_L1
  exact getD_at p x xs _
theorem szRow_some (l : List Int) (left : Int) (h0 : 0 ≤ left) (h1 : left ≤ 1048576) (hl : l.length ≤ maxLen) : ∃ r, laws_szInt64S.f l left = some r ∧ r ≤ left ∧ (0 ≤ r → (l.length : Int) ≤ 1048576) := by
  unfold maxLen at hl
  unfold laws_szInt64S.f
  rw [wrap_small (i := left - (l.length : Int)) (by omega) (by omega)]
  by_cases c : left - (l.length : Int) < 0
  · rw [if_pos c]
    exact ⟨_, rfl, by omega, fun h => absurd h (by decide)⟩
  · rw [if_neg c]
    exact ⟨_, rfl, by omega, fun _ => by omega⟩
theorem szRows_loop : ∀ (xs p : List (List Int)) (left : Int), p.length + xs.length ≤ 4611686018427387904 → 0 ≤ left → left ≤ 1048576 → (∀ x ∈ xs, x.length ≤ maxLen) →
    ∃ r, Ev (fun k => laws_szInt64SS.l0 k (p ++ xs) left (p.length : Int)) r ∧ r ≤ left ∧ (0 ≤ r → ∀ x ∈ xs, (x.length : Int) ≤ 1048576) := by
  intro xs
  induction xs with
  | nil =>
    intro p left _ h0 h1 _
    exact ⟨left, Ev.step (fun k => by rw [laws_szInt64SS.l0]) (ev_neg (not_lt_end p) (Ev.now _)), Int.le_refl _, fun _ x hx => by simp at hx⟩
  | cons x xs ih =>
    intro p left hl h0 h1 hs
    have hx := hs x List.mem_cons_self
    rw [List.length_cons] at hl
    have hw : wrap64 ((p.length : Int) + 1) = ((p ++ [x]).length : Int) := wrap_next p x (by omega)
    obtain ⟨r, e, hr, b0⟩ := szRow_some x left h0 h1 hx
    by_cases hn : r < 0
    · refine ⟨-1, Ev.step (fun k => by rw [laws_szInt64SS.l0]) (ev_pos (lt_mid p x xs) (ev_pos (Int.natCast_nonneg _) ?_)), by omega, fun h => absurd h (by decide)⟩
      rw [rdL_mid]
      exact ev_bind0 e (ev_pos hn (Ev.now _))
    · obtain ⟨q, h2, h3, h4⟩ := ih (p ++ [x]) r (by rw [List.length_append]; simp; omega) (by omega) (by omega) (fun y hy => hs y (List.mem_cons_of_mem _ hy))
      refine ⟨q, Ev.step (fun k => by rw [laws_szInt64SS.l0]) (ev_pos (lt_mid p x xs) (ev_pos (Int.natCast_nonneg _) ?_)), by omega, fun h y hy => ?_⟩
      · rw [rdL_mid, hw, push_mid p x xs]
        exact ev_bind0 e (ev_neg hn h2)
      · rcases List.mem_cons.1 hy with rfl | hy
        · exact b0 (by omega)
        · exact h4 h y hy
theorem szDeck_ev (a : List Int) (b : List (List Int)) (ha : a.length ≤ maxLen ∧ ∀ x ∈ a, (Lit.int .i64 x).wf = true) (hb : b.length ≤ maxLen ∧ ∀ r ∈ b, r.length ≤ maxLen ∧ ∀ x ∈ r, (Lit.int .i64 x).wf = true) :
    ∃ r, Ev (fun k => laws_szDeck.f k a b 1048576) r ∧ (0 ≤ r → GoodDeck a b) := by
  unfold laws_szDeck.f
  obtain ⟨r, e, hr, h2⟩ := szRow_some a 1048576 (by decide) (by decide) ha.1
  by_cases hn : r < 0
  · exact ⟨-1, ev_bind0 e (ev_pos hn (Ev.now _)), fun h => absurd h (by decide)⟩
  · have hbl := hb.1
    unfold maxLen at hbl
    have hs : ∃ q, Ev (fun k => laws_szInt64SS.f k b r) q ∧ (0 ≤ q → (b.length : Int) ≤ 1048576 ∧ ∀ x ∈ b, (x.length : Int) ≤ 1048576) := by
      unfold laws_szInt64SS.f
      rw [wrap_small (i := r - (b.length : Int)) (by omega) (by omega)]
      by_cases c : r - (b.length : Int) < 0
      · exact ⟨-1, ev_pos c (Ev.now _), fun h => absurd h (by decide)⟩
      · obtain ⟨q, h3, h4, h5⟩ := szRows_loop b [] (r - (b.length : Int)) (by simp; omega) (by omega) (by omega) (fun x hx => (hb.2 x hx).1)
        exact ⟨q, ev_neg c h3, fun h => ⟨by omega, h5 h⟩⟩
    obtain ⟨q, h3, h4⟩ := hs
    by_cases hq : q < 0
    · exact ⟨-1, ev_bind0 e (ev_neg hn (Ev.bind h3 (ev_pos hq (Ev.now _)))), fun h => absurd h (by decide)⟩
    · obtain ⟨h5, h6⟩ := h4 (by omega)
      have h7 := h2 (by omega)
      refine ⟨q, ev_bind0 e (ev_neg hn (Ev.bind h3 (ev_neg hq (Ev.now _)))), fun _ => ⟨⟨by omega, fun x hx => i64_of_wf (ha.2 x hx)⟩, by omega, fun x hx => ⟨by have := h6 x hx; omega, fun y hy => i64_of_wf ((hb.2 x hx).2 y hy)⟩⟩⟩
theorem toRows_loop : ∀ (xs p : List (List Int)), p.length + xs.length ≤ 1048576 → (∀ x ∈ xs, x.length ≤ 1048576) → Ev (fun k => laws_toInt64SS.l0 k (p ++ xs) (p ++ List.replicate xs.length []) (p.length : Int)) (p ++ xs) := by
  intro xs
  induction xs with
  | nil =>
    intro p _ _
    refine Ev.step (fun k => by rw [laws_toInt64SS.l0]) ?_
    exact ev_neg (not_lt_end p) (ev_of (Ev.now _) (by simp))
  | cons x xs ih =>
    intro p hl hs
    rw [List.length_cons] at hl
    have hw : wrap64 ((p.length : Int) + 1) = ((p ++ [x]).length : Int) := wrap_next p x (by omega)
    have hi := ih (p ++ [x]) (by rw [List.length_append]; simp; omega) (fun y hy => hs y (List.mem_cons_of_mem _ hy))
    refine Ev.step (fun k => by rw [laws_toInt64SS.l0]) ?_
    refine ev_pos (lt_mid p x xs) (ev_pos (Int.natCast_nonneg _) ?_)
    rw [rdL_mid, hw]
    refine Ev.bind (toInt64S_ev x (hs x List.mem_cons_self)) (ev_pos (by simp; omega) ?_)
    rw [List.length_cons, List.replicate_succ, set_mid, push_mid p x xs]
    rw [push_mid p x (List.replicate xs.length [])]
    exact hi
theorem toDeck_ev (a : List Int) (b : List (List Int)) (h : GoodDeck a b) : Ev (fun k => laws_toDeck.f k a b) (a, b) := by
  unfold laws_toDeck.f laws_toInt64SS.f
  refine Ev.bind (toInt64S_ev a h.1.1) (Ev.bind (a := b) ?_ (Ev.now _))
  have h2 := toRows_loop b [] (by have := h.2.1; simp; omega) (fun x hx => (h.2.2 x hx).1)
  have hl := h.2.1
  refine ev_pos (Int.natCast_nonneg _) (ev_pos (by omega) ?_)
  simpa using h2
theorem eqRows_loop : ∀ (xs p : List (List Int)), p.length + xs.length ≤ 1048576 → (∀ x ∈ xs, x.length ≤ 1048576) → Ev (fun k => laws_eqInt64SS.l0 k (p ++ xs) (p ++ xs) (p.length : Int)) true := by
  intro xs
  induction xs with
  | nil =>
    intro p _ _
    refine Ev.step (fun k => by rw [laws_eqInt64SS.l0]) ?_
    exact ev_neg (not_lt_end p) (Ev.now _)
  | cons x xs ih =>
    intro p hl hs
    rw [List.length_cons] at hl
    have hw : wrap64 ((p.length : Int) + 1) = ((p ++ [x]).length : Int) := wrap_next p x (by omega)
    have hi := ih (p ++ [x]) (by rw [List.length_append]; simp; omega) (fun y hy => hs y (List.mem_cons_of_mem _ hy))
    refine Ev.step (fun k => by rw [laws_eqInt64SS.l0]) ?_
    refine ev_pos (lt_mid p x xs) (ev_pos (Int.natCast_nonneg _) (ev_pos (lt_mid p x xs) ?_))
    rw [rdL_mid, hw]
    refine Ev.bind (eqInt64S_refl x (by have := hs x List.mem_cons_self; omega)) (ev_pos rfl ?_)
    rw [push_mid p x xs]
    exact hi
theorem eqDeck_refl (a : List Int) (b : List (List Int)) (h : GoodDeck a b) : Ev (fun k => laws_eqDeck.f k a b a b) true := by
  unfold laws_eqDeck.f laws_eqInt64SS.f
  refine Ev.bind (eqInt64S_refl a (by have := h.1.1; omega)) (ev_pos rfl (Ev.bind (a := true) (ev_pos rfl ?_) (ev_pos rfl (Ev.now _))))
  exact eqRows_loop b [] (by have := h.2.1; simp; omega) (fun x hx => (h.2.2 x hx).1)
end Go.Proofs.YtfkiamccipoioaaB
end

section
/- Lists of whole numbers: their marks. -/
namespace Go.Proofs.YtfkiamccipoioaaB
open Go.RowKit Go.Proofs.YtfkiamccipoioaaW.PrintWords Go.Proofs.YtfkiamccipoioaaW.PrintLast Go.Proofs.Ytfkiamccipoioaa.P

def markInt64 (k : Int) : List Int → List Int
  | [] => []
  | _ :: xs => k :: markInt64 (k + 1) xs
theorem markInt64S_loop : ∀ (xs p : List Int) (k : Int), 0 < k → k + xs.length ≤ 1152921504606846976 → p.length + xs.length ≤ 1152921504606846976 → Ev (fun n => laws_markInt64S.l0 n (p ++ xs) k (p.length : Int)) (k + xs.length, p ++ markInt64 k xs) := by
  intro xs
  induction xs with
  | nil =>
    intro p k h0 h1 _
    refine Ev.step (fun k => by rw [laws_markInt64S.l0]) ?_
    refine ev_neg (not_lt_end p) (ev_of (Ev.now _) ?_)
    simp [markInt64]
  | cons x xs ih =>
    intro p k h0 h1 hl
    rw [List.length_cons] at hl h1
    have hw : wrap64 ((p.length : Int) + 1) = ((p ++ [k]).length : Int) := wrap_next p k (by omega)
    have hi := ih (p ++ [k]) (k + 1) (by omega) (by omega) (by rw [List.length_append]; simp; omega)
    have w1 : wrap64 (k + 1) = k + 1 := wrap_small (by omega) (by omega)
    refine Ev.step (fun k => by rw [laws_markInt64S.l0]) ?_
    refine ev_pos (lt_mid p x xs) (ev_pos (Int.natCast_nonneg _) ?_)
    rw [set_mid, w1, hw, push_mid p k xs]
    refine ev_of hi ?_
    rw [List.length_cons]
    simp [markInt64]
    omega
theorem markInt64S_ev (l : List Int) (hl : l.length ≤ 1048576) : Ev (fun n => laws_markInt64S.f n l 1) (1 + (l.length : Int), markInt64 1 l) := by
  unfold laws_markInt64S.f
  exact markInt64S_loop l [] 1 (by omega) (by omega) (by simp; omega)
theorem heldInt64S_loop : ∀ (xs p : List Int) (k : Int), 0 < k → k + xs.length ≤ 1152921504606846976 → p.length + xs.length ≤ 1152921504606846976 → Ev (fun n => laws_heldInt64S.l0 n (p ++ markInt64 k xs) k (p.length : Int)) (k + xs.length) := by
  intro xs
  induction xs with
  | nil =>
    intro p k h0 h1 _
    refine Ev.step (fun k => by rw [laws_heldInt64S.l0]) ?_
    refine ev_neg (not_lt_end p) (ev_of (Ev.now _) ?_)
    simp
  | cons x xs ih =>
    intro p k h0 h1 hl
    rw [List.length_cons] at hl h1
    have hw : wrap64 ((p.length : Int) + 1) = ((p ++ [k]).length : Int) := wrap_next p k (by omega)
    have hi := ih (p ++ [k]) (k + 1) (by omega) (by omega) (by rw [List.length_append]; simp; omega)
    have w1 : wrap64 (k + 1) = k + 1 := wrap_small (by omega) (by omega)
    rw [markInt64]
    refine Ev.step (fun k => by rw [laws_heldInt64S.l0]) ?_
    refine ev_pos (lt_mid p _ _) (ev_pos (Int.natCast_nonneg _) ?_)
    rw [rd_mid, w1, hw, push_mid p k (markInt64 (k + 1) xs)]
    refine ev_pos rfl (ev_of hi ?_)
    rw [List.length_cons]
    omega
theorem heldInt64S_ev (l : List Int) (hl : l.length ≤ 1048576) : Ev (fun n => laws_heldInt64S.f n (markInt64 1 l) 1) (1 + (l.length : Int)) := by
  unfold laws_heldInt64S.f
  exact heldInt64S_loop l [] 1 (by omega) (by omega) (by simp; omega)
end Go.Proofs.YtfkiamccipoioaaB
end

section
/- Decks and states: whether they are valid: of both. -/
namespace Go.Proofs.YtfkiamccipoioaaB
open Go.RowKit Go.Proofs.YtfkiamccipoioaaW.PrintWords Go.Proofs.YtfkiamccipoioaaW.PrintLast Go.Proofs.Ytfkiamccipoioaa.P

theorem in_some (a lo hi : Int) : spec_l00In.f a lo hi = some (decide (lo ≤ a) && decide (a ≤ hi)) := by
  unfold spec_l00In.f
  by_cases h : a ≥ lo
  · rw [if_pos h, decide_eq_true (show lo ≤ a from h)]; rfl
  · rw [if_neg h, decide_eq_false (show ¬ lo ≤ a from h)]; rfl
theorem within_some (a lo hi : Int) : impl_within.f a lo hi = some (decide (lo ≤ a) && decide (a ≤ hi)) := by
  unfold impl_within.f
  by_cases h : a ≥ lo
  · rw [if_pos h, decide_eq_true (show lo ≤ a from h)]; rfl
  · rw [if_neg h, decide_eq_false (show ¬ lo ≤ a from h)]; rfl
def needB (m i x : Int) : Bool := (decide (-1 ≤ x) && decide (x ≤ m - 1)) && !(decide (x = i))
def needsB (m : Int) : Int → List Int → Bool
  | _, [] => true
  | i, x :: xs => needB m i x && needsB m (i + 1) xs
def ltO : Option Int → Int → Bool
  | none, _ => true
  | some y, x => decide (y < x)
def lineB (m : Int) (pv : Option Int) (x : Int) : Bool := (decide (0 ≤ x) && decide (x ≤ m - 1)) && ltO pv x
def riseB (m : Int) : Option Int → List Int → Bool
  | _, [] => true
  | pv, x :: xs => lineB m pv x && riseB m (some x) xs
def yardB (m : Int) (r : List Int) : Bool := !(decide (r.length = 0)) && riseB m none r
def deckB (n : List Int) (ys : List (List Int)) : Bool := (decide (1 ≤ (n.length : Int)) && decide ((n.length : Int) ≤ 8)) && (decide ((ys.length : Int) ≤ 5) && (needsB (n.length : Int) 0 n && ys.all (yardB (n.length : Int))))
def lastO (p : List Int) : Option Int := p.getLast?
theorem lastO_snoc (p : List Int) (x : Int) : lastO (p ++ [x]) = some x := by simp [lastO]
theorem lastO_split (p : List Int) : p = [] ∨ ∃ q y, p = q ++ [y] := by
  by_cases h : p = []
  · exact .inl h
  · exact .inr ⟨p.dropLast, p.getLast h, (List.dropLast_concat_getLast h).symm⟩
theorem spec_rise_loop (m : Int) (r : List Int) (hr : r.length ≤ 1048576) : ∀ (xs p : List Int), r = p ++ xs → Ev (fun k => spec_l00Rises.l0 k r 0 (m - 1) (p.length : Int)) (riseB m (lastO p) xs) := by
  intro xs
  induction xs with
  | nil =>
    intro p hp
    refine Ev.step (fun k => by rw [spec_l00Rises.l0]) ?_
    exact ev_neg (by rw [hp, List.append_nil]; omega) (Ev.now _)
  | cons x xs ih =>
    intro p hp
    have hpl : (p.length : Int) + (xs.length + 1) = r.length := by rw [hp]; simp
    have hx : rd r (p.length : Int) = x := by rw [hp]; exact rd_mid p x xs
    have hw : wrap64 ((p.length : Int) + 1) = ((p ++ [x]).length : Int) := wrap_next p x (by omega)
    have hi := ih (p ++ [x]) (by rw [hp]; simp)
    rw [lastO_snoc] at hi
    refine Ev.step (fun k => by rw [spec_l00Rises.l0]) ?_
    refine ev_pos (by omega) (ev_pos (by omega) ?_)
    rw [hx, hw]
    refine ev_bind0 (in_some _ _ _) (ev_ite (fun h => ?_) (fun h => ?_))
    · rcases lastO_split p with rfl | ⟨q, y, rfl⟩
      · refine ev_neg (by simp) (ev_of hi ?_)
        rw [riseB, lineB, h]
        rfl
      · have hw2 : wrap64 (((q ++ [y]).length : Int) - 1) = (q.length : Int) := (wrap_small (by omega) (by omega)).trans (by simp)
        have hy : rd r (q.length : Int) = y := by rw [hp, List.append_assoc]; exact rd_mid q y (x :: xs)
        have hql : ((q ++ [y]).length : Int) = q.length + 1 := by simp
        rw [hw2, hy]
        refine ev_pos (by omega) (ev_pos (by omega) (ev_pos (by omega) (ev_ite (fun h2 => ?_) (fun h2 => ?_))))
        · refine ev_of (Ev.now _) ?_
          have : decide (y < x) = false := decide_eq_false (by omega)
          rw [lastO_snoc, riseB, lineB, h]
          simp [this, ltO]
        · refine ev_of hi ?_
          rw [lastO_snoc, riseB, lineB, h]
          have : decide (y < x) = true := decide_eq_true (by omega)
          simp [this, ltO]
    · refine ev_of (Ev.now _) ?_
      simp only [Bool.not_eq_true] at h
      rw [riseB, lineB, h]
      rfl
theorem impl_rise_loop (m : Int) (hm : m ≤ 1048576) (hm0 : 0 ≤ m) (ys : List (List Int)) (j : Nat) (r : List Int) (hr : r.length ≤ 1048576) {b : Bool} (hj : j ≤ 1048576) (hnext : Ev (fun k => impl_ValidDeck.l1 k m ys (ys.length : Int) ((j : Int) + 1)) b) : ∀ (xs p : List Int), r = p ++ xs → Ev (fun k => impl_ValidDeck.l2 k m r ys (ys.length : Int) (j : Int) r (r.length : Int) (p.length : Int)) (riseB m (lastO p) xs && b) := by
  intro xs
  induction xs with
  | nil =>
    intro p hp
    refine Ev.step (fun k => by rw [impl_ValidDeck.l2]) ?_
    refine ev_neg (by rw [hp, List.append_nil]; omega) ?_
    rw [wrap_small (i := (j : Int) + 1) (by omega) (by omega)]
    refine ev_of hnext ?_
    rw [riseB, Bool.true_and]
  | cons x xs ih =>
    intro p hp
    have hpl : (p.length : Int) + (xs.length + 1) = r.length := by rw [hp]; simp
    have hx : rd r (p.length : Int) = x := by rw [hp]; exact rd_mid p x xs
    have hw : wrap64 ((p.length : Int) + 1) = ((p ++ [x]).length : Int) := wrap_next p x (by omega)
    have hwm : wrap64 (m - 1) = m - 1 := wrap_small (by omega) (by omega)
    have hi := ih (p ++ [x]) (by rw [hp]; simp)
    rw [lastO_snoc] at hi
    refine Ev.step (fun k => by rw [impl_ValidDeck.l2]) ?_
    refine ev_pos (by omega) (ev_pos (by omega) (ev_pos (by omega) ?_))
    rw [hx, hw, hwm]
    refine ev_bind0 (within_some _ _ _) (ev_ite (fun h => ?_) (fun h => ?_))
    · rcases lastO_split p with rfl | ⟨q, y, rfl⟩
      · refine ev_neg (by simp) (ev_of hi ?_)
        rw [riseB, lineB, h]
        rfl
      · have hw2 : wrap64 (((q ++ [y]).length : Int) - 1) = (q.length : Int) := (wrap_small (by omega) (by omega)).trans (by simp)
        have hy : rd r (q.length : Int) = y := by rw [hp, List.append_assoc]; exact rd_mid q y (x :: xs)
        have hql : ((q ++ [y]).length : Int) = q.length + 1 := by simp
        rw [hw2, hy]
        refine ev_pos (by omega) (ev_pos (by omega) (ev_pos (by omega) (ev_ite (fun h2 => ?_) (fun h2 => ?_))))
        · refine ev_of (Ev.now _) ?_
          have : decide (y < x) = false := decide_eq_false (by omega)
          rw [lastO_snoc, riseB, lineB, h]
          simp [this, ltO]
        · refine ev_of hi ?_
          have : decide (y < x) = true := decide_eq_true (by omega)
          rw [lastO_snoc, riseB, lineB, h]
          simp [this, ltO]
    · refine ev_of (Ev.now _) ?_
      simp only [Bool.not_eq_true] at h
      rw [riseB, lineB, h]
      rfl
theorem spec_yards (m : Int) (hm : m ≤ 1048576) (hm0 : 0 ≤ m) (n : List Int) (ys : List (List Int)) (hl : ys.length ≤ 1048576) (hs : ∀ r ∈ ys, r.length ≤ 1048576) : ∀ (xs p : List (List Int)), ys = p ++ xs → Ev (fun k => spec_l20Ok.l1 k m (p.length : Int) n ys) (xs.all (yardB m)) := by
  intro xs
  induction xs with
  | nil =>
    intro p hp
    refine Ev.step (fun k => by rw [spec_l20Ok.l1]) ?_
    exact ev_neg (by rw [hp, List.append_nil]; omega) (Ev.now _)
  | cons x xs ih =>
    intro p hp
    have hpl : (p.length : Int) + (xs.length + 1) = ys.length := by rw [hp]; simp
    have hx : rd_L1 ys (p.length : Int) = x := by rw [hp]; exact rdL_mid p x xs
    have hw : wrap64 ((p.length : Int) + 1) = ((p ++ [x]).length : Int) := wrap_next p x (by omega)
    have hwm : wrap64 (m - 1) = m - 1 := wrap_small (by omega) (by omega)
    have hi := ih (p ++ [x]) (by rw [hp]; simp)
    refine Ev.step (fun k => by rw [spec_l20Ok.l1]) ?_
    refine ev_pos (by omega) (ev_pos (by omega) ?_)
    rw [hx, hw, hwm, List.all_cons]
    refine ev_ite (fun h => ?_) (fun h => ?_)
    · refine ev_of (Ev.now _) ?_
      rw [yardB, decide_eq_true (by omega)]
      rfl
    · have hr : Ev (fun k => spec_l00Rises.f k x 0 (m - 1)) (riseB m none x) := by
        unfold spec_l00Rises.f
        exact spec_rise_loop m x (hs x (by rw [hp]; simp)) x [] rfl
      refine Ev.bind hr (ev_ite (fun h2 => ?_) (fun h2 => ?_))
      · refine ev_of hi ?_
        rw [yardB, decide_eq_false (by omega), h2]
        rfl
      · refine ev_of (Ev.now _) ?_
        simp only [Bool.not_eq_true] at h2
        rw [yardB, h2, Bool.and_false, Bool.false_and]
theorem impl_yards (m : Int) (hm : m ≤ 1048576) (hm0 : 0 ≤ m) (ys : List (List Int)) (hl : ys.length ≤ 1048576) (hs : ∀ r ∈ ys, r.length ≤ 1048576) : ∀ (xs p : List (List Int)), ys = p ++ xs → Ev (fun k => impl_ValidDeck.l1 k m ys (ys.length : Int) (p.length : Int)) (xs.all (yardB m)) := by
  intro xs
  induction xs with
  | nil =>
    intro p hp
    refine Ev.step (fun k => by rw [impl_ValidDeck.l1]) ?_
    exact ev_neg (by rw [hp, List.append_nil]; omega) (Ev.now _)
  | cons x xs ih =>
    intro p hp
    have hpl : (p.length : Int) + (xs.length + 1) = ys.length := by rw [hp]; simp
    have hx : rd_L1 ys (p.length : Int) = x := by rw [hp]; exact rdL_mid p x xs
    have hi := ih (p ++ [x]) (by rw [hp]; simp)
    have hz : ((p ++ [x]).length : Int) = (p.length : Int) + 1 := by simp
    rw [hz] at hi
    refine Ev.step (fun k => by rw [impl_ValidDeck.l1]) ?_
    refine ev_pos (by omega) (ev_pos (by omega) (ev_pos (by omega) ?_))
    rw [hx, List.all_cons]
    refine ev_ite (fun h => ?_) (fun h => ?_)
    · refine ev_of (Ev.now _) ?_
      rw [yardB, decide_eq_true (by omega)]
      rfl
    · refine ev_of (impl_rise_loop m hm hm0 ys p.length x (hs x (by rw [hp]; simp)) (by omega) hi x [] rfl) ?_
      rw [yardB, decide_eq_false (by omega)]
      rfl
theorem spec_needs (n : List Int) (ys : List (List Int)) (hn : n.length ≤ 1048576) {b : Bool} (hnext : Ev (fun k => spec_l20Ok.l1 k (n.length : Int) 0 n ys) b) : ∀ (xs p : List Int), n = p ++ xs → Ev (fun k => spec_l20Ok.l0 k (n.length : Int) (p.length : Int) n ys) (needsB (n.length : Int) (p.length : Int) xs && b) := by
  intro xs
  induction xs with
  | nil =>
    intro p hp
    refine Ev.step (fun k => by rw [spec_l20Ok.l0]) ?_
    refine ev_neg (by rw [hp, List.append_nil]; omega) (ev_of hnext ?_)
    rw [needsB, Bool.true_and]
  | cons x xs ih =>
    intro p hp
    have hpl : (p.length : Int) + (xs.length + 1) = n.length := by rw [hp]; simp
    have hx : rd n (p.length : Int) = x := by rw [hp]; exact rd_mid p x xs
    have hw : wrap64 ((p.length : Int) + 1) = ((p ++ [x]).length : Int) := wrap_next p x (by omega)
    have hwm : wrap64 ((n.length : Int) - 1) = (n.length : Int) - 1 := wrap_small (by omega) (by omega)
    have hz : ((p ++ [x]).length : Int) = (p.length : Int) + 1 := by simp
    have hi := ih (p ++ [x]) (by rw [hp]; simp)
    refine Ev.step (fun k => by rw [spec_l20Ok.l0]) ?_
    refine ev_pos (by omega) (ev_pos (by omega) (ev_pos (by omega) ?_))
    rw [hx, hw, hwm, needsB, needB]
    refine ev_bind0 (in_some _ _ _) (ev_ite (fun h => ?_) (fun h => ?_))
    · refine ev_ite (fun h2 => ?_) (fun h2 => ?_)
      · refine ev_of (Ev.now _) ?_
        rw [h, decide_eq_true h2]
        rfl
      · refine ev_of hi ?_
        rw [h, decide_eq_false h2, hz]
        rfl
    · refine ev_of (Ev.now _) ?_
      simp only [Bool.not_eq_true] at h
      rw [h]
      rfl
theorem impl_needs (n : List Int) (ys : List (List Int)) (hn : n.length ≤ 1048576) {b : Bool} (hnext : Ev (fun k => impl_ValidDeck.l1 k (n.length : Int) ys (ys.length : Int) 0) b) : ∀ (xs p : List Int), n = p ++ xs → Ev (fun k => impl_ValidDeck.l0 k (n.length : Int) n (n.length : Int) (p.length : Int) n ys) (needsB (n.length : Int) (p.length : Int) xs && b) := by
  intro xs
  induction xs with
  | nil =>
    intro p hp
    refine Ev.step (fun k => by rw [impl_ValidDeck.l0]) ?_
    refine ev_neg (by rw [hp, List.append_nil]; omega) (ev_of hnext ?_)
    rw [needsB, Bool.true_and]
  | cons x xs ih =>
    intro p hp
    have hpl : (p.length : Int) + (xs.length + 1) = n.length := by rw [hp]; simp
    have hx : rd n (p.length : Int) = x := by rw [hp]; exact rd_mid p x xs
    have hw : wrap64 ((p.length : Int) + 1) = ((p ++ [x]).length : Int) := wrap_next p x (by omega)
    have hwm : wrap64 ((n.length : Int) - 1) = (n.length : Int) - 1 := wrap_small (by omega) (by omega)
    have hz : ((p ++ [x]).length : Int) = (p.length : Int) + 1 := by simp
    have hi := ih (p ++ [x]) (by rw [hp]; simp)
    refine Ev.step (fun k => by rw [impl_ValidDeck.l0]) ?_
    refine ev_pos (by omega) (ev_pos (by omega) (ev_pos (by omega) ?_))
    rw [hx, hw, hwm, needsB, needB]
    refine ev_bind0 (within_some _ _ _) (ev_ite (fun h => ?_) (fun h => ?_))
    · refine ev_ite (fun h2 => ?_) (fun h2 => ?_)
      · refine ev_of (Ev.now _) ?_
        rw [h, decide_eq_true h2]
        rfl
      · refine ev_of hi ?_
        rw [h, decide_eq_false h2, hz]
        rfl
    · refine ev_of (Ev.now _) ?_
      simp only [Bool.not_eq_true] at h
      rw [h]
      rfl
section
variable (n : List Int) (ys : List (List Int)) (hg : GoodDeck n ys)
include hg
theorem spec_deck : Ev (fun k => spec_l20Ok.f k n ys) (deckB n ys) := by
  have hn := hg.1.1
  have hj : ∀ b : Bool, b = true ∨ b = false → ∀ c : Bool, Ev (fun k => spec_l20Ok.j0 k (n.length : Int) true n ys) false := fun _ _ _ => Ev.step (fun k => by rw [spec_l20Ok.j0]) (ev_pos rfl (Ev.now _))
  unfold spec_l20Ok.f deckB
  refine ev_bind0 (in_some _ _ _) (ev_ite (fun h => ?_) (fun h => ?_))
  · rw [h, Bool.true_and]
    by_cases h5 : (ys.length : Int) > 5
    · rw [decide_eq_true h5, decide_eq_false (by omega : ¬ (ys.length : Int) ≤ 5)]
      exact ev_of (hj true (.inl rfl) true) rfl
    · rw [decide_eq_false h5, decide_eq_true (by omega : (ys.length : Int) ≤ 5), Bool.true_and]
      refine Ev.step (fun k => by rw [spec_l20Ok.j0]) (ev_neg (by simp) ?_)
      exact spec_needs n ys hn (spec_yards (n.length : Int) (by omega) (by omega) n ys hg.2.1 (fun r hr => (hg.2.2 r hr).1) ys [] rfl) n [] rfl
  · simp only [Bool.not_eq_true] at h
    rw [h, Bool.false_and]
    exact hj true (.inl rfl) true
theorem impl_deck : Ev (fun k => impl_ValidDeck.f k n ys) (deckB n ys) := by
  have hn := hg.1.1
  have hj : Ev (fun k => impl_ValidDeck.j0 k (n.length : Int) true n ys) false := Ev.step (fun k => by rw [impl_ValidDeck.j0]) (ev_pos rfl (Ev.now _))
  unfold impl_ValidDeck.f deckB
  refine ev_ite (fun h => ?_) (fun h => ?_)
  · rw [decide_eq_false (by omega : ¬ 1 ≤ (n.length : Int))]
    exact hj
  · rw [decide_eq_true (by omega : 1 ≤ (n.length : Int)), Bool.true_and]
    refine ev_ite (fun h2 => ?_) (fun h2 => ?_)
    · rw [decide_eq_false (by omega : ¬ (n.length : Int) ≤ 8)]
      exact hj
    · rw [decide_eq_true (by omega : (n.length : Int) ≤ 8), Bool.true_and]
      by_cases h5 : (ys.length : Int) > 5
      · rw [decide_eq_true h5, decide_eq_false (by omega : ¬ (ys.length : Int) ≤ 5)]
        exact hj
      · rw [decide_eq_false h5, decide_eq_true (by omega : (ys.length : Int) ≤ 5), Bool.true_and]
        refine Ev.step (fun k => by rw [impl_ValidDeck.j0]) (ev_neg (by simp) ?_)
        exact impl_needs n ys hn (impl_yards (n.length : Int) (by omega) (by omega) ys hg.2.1 (fun r hr => (hg.2.2 r hr).1) ys [] rfl) n [] rfl
end
/-! ### states -/
def fastB (c : Int) : Bool := decide (c = 70) || decide (c = 76)
def stateB (n : List Int) (s : ByteArray) : Bool := decide ((s.size : Int) = (n.length : Int)) && (bytesOf s).all fastB
theorem spec_state_loop (n : List Int) (ys : List (List Int)) (s : ByteArray) (hs : s.size ≤ 1048576) : ∀ (xs p : List Int), bytesOf s = p ++ xs → Ev (fun k => spec_l20State.l0 k s (p.length : Int) n ys) (decide ((s.size : Int) = (n.length : Int)) && xs.all fastB) := by
  intro xs
  have hb := bytes_length s
  induction xs with
  | nil =>
    intro p hp
    rw [hp, List.append_nil] at hb
    refine Ev.step (fun k => by rw [spec_l20State.l0]) ?_
    refine ev_neg (by omega) (ev_of (Ev.now _) ?_)
    rw [List.all_nil, Bool.and_true]
    rfl
  | cons x xs ih =>
    intro p hp
    have hpl : (p.length : Int) + (xs.length + 1) = s.size := by rw [← hb, hp]; simp
    have hx : bt s (p.length : Int) = x := by rw [bt_rd, hp]; exact rd_mid p x xs
    have hw : wrap64 ((p.length : Int) + 1) = ((p ++ [x]).length : Int) := wrap_next p x (by omega)
    have hi := ih (p ++ [x]) (by rw [hp]; simp)
    refine Ev.step (fun k => by rw [spec_l20State.l0]) ?_
    refine ev_pos (by omega) (ev_pos (by omega) ?_)
    rw [hx, hw, List.all_cons]
    refine ev_ite (fun h => ?_) (fun h => ev_ite (fun h2 => ?_) (fun h2 => ?_))
    · refine ev_of hi ?_
      rw [fastB, decide_eq_true h]
      rfl
    · refine ev_of hi ?_
      rw [fastB, decide_eq_true h2, Bool.or_true, Bool.true_and]
    · refine ev_of (Ev.now _) ?_
      rw [fastB, decide_eq_false h, decide_eq_false h2]
      simp
theorem impl_state_loop (s : ByteArray) (hs : s.size ≤ 1048576) : ∀ (xs p : List Int), bytesOf s = p ++ xs → Ev (fun k => impl_isState.l0 k s (p.length : Int)) (xs.all fastB) := by
  intro xs
  have hb := bytes_length s
  induction xs with
  | nil =>
    intro p hp
    rw [hp, List.append_nil] at hb
    refine Ev.step (fun k => by rw [impl_isState.l0]) ?_
    exact ev_neg (by omega) (Ev.now _)
  | cons x xs ih =>
    intro p hp
    have hpl : (p.length : Int) + (xs.length + 1) = s.size := by rw [← hb, hp]; simp
    have hx : bt s (p.length : Int) = x := by rw [bt_rd, hp]; exact rd_mid p x xs
    have hw : wrap64 ((p.length : Int) + 1) = ((p ++ [x]).length : Int) := wrap_next p x (by omega)
    have hi := ih (p ++ [x]) (by rw [hp]; simp)
    refine Ev.step (fun k => by rw [impl_isState.l0]) ?_
    refine ev_pos (by omega) (ev_pos (by omega) ?_)
    rw [hx, hw, List.all_cons]
    refine ev_ite (fun h => ?_) (fun h => ev_ite (fun h2 => ?_) (fun h2 => ?_))
    · refine ev_of hi ?_
      rw [fastB, decide_eq_true h]
      rfl
    · refine ev_of hi ?_
      rw [fastB, decide_eq_true h2, Bool.or_true, Bool.true_and]
    · refine ev_of (Ev.now _) ?_
      rw [fastB, decide_eq_false h, decide_eq_false h2]
      simp
theorem spec_state (n : List Int) (ys : List (List Int)) (s : ByteArray) (hs : s.size ≤ 1048576) : Ev (fun k => spec_l20State.f k n ys s) (stateB n s) := by
  unfold spec_l20State.f stateB
  exact spec_state_loop n ys s hs (bytesOf s) [] rfl
theorem impl_state (n : List Int) (ys : List (List Int)) (s : ByteArray) (hs : s.size ≤ 1048576) : Ev (fun k => impl_isState.f k n ys s) (stateB n s) := by
  unfold impl_isState.f stateB
  refine ev_ite (fun h => ?_) (fun h => ?_)
  · rw [decide_eq_true h, Bool.true_and]
    exact impl_state_loop s hs (bytesOf s) [] rfl
  · rw [decide_eq_false h]
    exact Ev.now _
def codeD (n : List Int) (ys : List (List Int)) (s : ByteArray) : Int := if deckB n ys = true then (if stateB n s = true then 0 else 2) else 1
theorem spec_codeD (n : List Int) (ys : List (List Int)) (s : ByteArray) (hg : GoodDeck n ys) (hs : s.size ≤ 1048576) : Ev (fun k => spec_l20Code.f k n ys s) (codeD n ys s) := by
  unfold spec_l20Code.f codeD
  refine Ev.bind (spec_deck n ys hg) (ev_ite (fun h => ?_) (fun h => ?_))
  · rw [if_pos h]
    refine Ev.bind (spec_state n ys s hs) (ev_ite (fun h2 => ?_) (fun h2 => ?_))
    · rw [if_pos h2]; exact Ev.now _
    · rw [if_neg h2]; exact Ev.now _
  · rw [if_neg h]; exact Ev.now _
theorem impl_codeD (n : List Int) (ys : List (List Int)) (s : ByteArray) (hg : GoodDeck n ys) (hs : s.size ≤ 1048576) : Ev (fun k => impl_deckCode.f k n ys [s]) (codeD n ys s) := by
  unfold impl_deckCode.f codeD
  refine Ev.bind (impl_deck n ys hg) (ev_ite (fun h => ?_) (fun h => ?_))
  · rw [if_pos h]
    refine Ev.step (fun k => by rw [impl_deckCode.l0]) (ev_pos (by simp) (ev_pos (by omega) (ev_pos (by simp) ?_)))
    have e : rdOf ByteArray.empty [s] 0 = s := rfl
    rw [e]
    refine Ev.bind (impl_state n ys s hs) (ev_ite (fun h2 => ?_) (fun h2 => ?_))
    · rw [if_pos h2]
      exact Ev.step (fun k => by rw [impl_deckCode.l0]) (ev_neg (by simp [wrap64]) (Ev.now _))
    · rw [if_neg h2]; exact Ev.now _
  · rw [if_neg h]; exact Ev.now _
end Go.Proofs.YtfkiamccipoioaaB
end
