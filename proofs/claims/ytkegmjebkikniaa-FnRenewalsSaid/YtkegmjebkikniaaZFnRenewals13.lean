/- Texts of this claim, packed: Base, Names, TyRenewal, Px11, RenV, RenHarm, RenDue, Src, RenDraw, RenPlan. -/
import Derived.Lib.Bytes
import Derived.Laws.BitsLemmas
import Derived.Test.YtkegmjebkikniaaZFnRenewals12
section
/- Plain words for the laws' statements over lists: an answer with enough rounds (Ev), step by step; one loop's round over a list that is told as what lies behind and what lies ahead. -/
namespace Go.Proofs.YtkegmjebkikniaaB
open Go.RowKit Go.Proofs.YtkegmjebkikniaaW.PrintWords Go.Proofs.YtkegmjebkikniaaW.PrintLast

theorem ev_pos {α : Type} {c : Prop} [Decidable c] {A B : Nat → Option α} {r : α} (h : c) (e : Ev A r) : Ev (fun k => if c then A k else B k) r := by
  simpa only [if_pos h] using e
theorem ev_neg {α : Type} {c : Prop} [Decidable c] {A B : Nat → Option α} {r : α} (h : ¬ c) (e : Ev B r) : Ev (fun k => if c then A k else B k) r := by
  simpa only [if_neg h] using e
theorem ev_ite {α : Type} {c : Prop} [Decidable c] {A B : Nat → Option α} {r : α} (h : c → Ev A r) (h2 : ¬ c → Ev B r) : Ev (fun k => if c then A k else B k) r := by
  by_cases hc : c
  · exact ev_pos hc (h hc)
  · exact ev_neg hc (h2 hc)
theorem ev_bind0 {α β : Type} {g : Option α} {f : Nat → α → Option β} {a : α} {r : β} (h : g = some a) (k : Ev (fun n => f n a) r) : Ev (fun n => g.bind (f n)) r := by
  subst h
  exact k
theorem ev_of {α : Type} {g : Nat → Option α} {a r : α} (h : Ev g a) (e : a = r) : Ev g r := e ▸ h

theorem wrap_small {i : Int} (h0 : -9223372036854775808 ≤ i) (h1 : i ≤ 9223372036854775807) : wrap64 i = i := by
  unfold wrap64
  omega
theorem wrap_next {α : Type} (p : List α) (x : α) (h : p.length ≤ 4611686018427387904) : wrap64 ((p.length : Int) + 1) = ((p ++ [x]).length : Int) := by
  rw [wrap_small (by omega) (by omega), List.length_append]
  simp
theorem getD_at {α : Type} (p : List α) (x : α) (xs : List α) (z : α) : (p ++ x :: xs).getD ((p.length : Int)).toNat z = x := by
  simp
theorem rd_mid (p : List Int) (x : Int) (xs : List Int) : rd (p ++ x :: xs) (p.length : Int) = x := by
  unfold rd
  exact getD_at p x xs 0
theorem set_mid {α : Type} (p : List α) (x y : α) (xs : List α) : (p ++ x :: xs).set ((p.length : Int)).toNat y = p ++ y :: xs := by
  simp
theorem push_mid {α : Type} (p : List α) (x : α) (xs : List α) : p ++ x :: xs = (p ++ [x]) ++ xs := by simp
theorem lt_mid {α : Type} (p : List α) (x : α) (xs : List α) : (p.length : Int) < ((p ++ x :: xs).length : Int) := by
  simp
  omega
theorem not_lt_end {α : Type} (p : List α) : ¬ (p.length : Int) < ((p ++ []).length : Int) := by simp

theorem bt_rd (s : ByteArray) (i : Int) : bt s i = rd (bytesOf s) i := by
  unfold bt rd bytesOf
  by_cases h : i.toNat < s.size
  · rw [dif_pos h]
    have h2 : i.toNat < s.data.toList.length := by rw [data_length]; exact h
    rw [List.getD_eq_getElem?_getD, List.getElem?_map, List.getElem?_eq_getElem h2]
    rfl
  · rw [dif_neg h]
    have h2 : ¬ i.toNat < s.data.toList.length := by rw [data_length]; exact h
    rw [List.getD_eq_getElem?_getD, List.getElem?_map, List.getElem?_eq_none (by omega)]
    rfl
theorem bytes_length (s : ByteArray) : (bytesOf s).length = s.size := by
  unfold bytesOf
  rw [List.length_map, data_length]
/-- A number of 64 bits. -/
def I64 (n : Int) : Prop := -9223372036854775808 ≤ n ∧ n ≤ 9223372036854775807
section
variable {α β : Type} {P : α → Prop} {Q : β → Prop} {A B A2 B2 C : Nat → Option α}
end

/-- A name, as the document has it, over its bytes. -/
def smallB (c : Int) : Bool := decide (97 ≤ c) && decide (c ≤ 122)
def partB (c : Int) : Bool := smallB c || (decide (48 ≤ c) && decide (c ≤ 57)) || decide (c = 45)
def nameL (l : List Int) : Bool := match l with
  | [] => false
  | c :: cs => decide ((c :: cs).length ≤ 12) && smallB c && (c :: cs).all partB
def nameB (s : ByteArray) : Bool := nameL (bytesOf s)
end Go.Proofs.YtkegmjebkikniaaB
end

section
/- IsName, within and their kin: the reference's and the program's functions, as one plain function of the bytes. -/
namespace Go.Proofs.YtkegmjebkikniaaB
open Go.RowKit Go.Proofs.YtkegmjebkikniaaW.PrintWords Go.Proofs.YtkegmjebkikniaaW.PrintLast Go.Proofs.Ytkegmjebkikniaa.P

theorem within_some (a b c : Int) : impl_within.f a b c = some (decide (b ≤ a) && decide (a ≤ c)) := by
  unfold impl_within.f
  by_cases h : a ≥ b
  · rw [if_pos h, decide_eq_true (show b ≤ a from h)]
    simp
  · rw [if_neg h, decide_eq_false (show ¬ b ≤ a from h)]
    simp
theorem impl_name_loop (s : ByteArray) (hs : s.size ≤ 1048576) : ∀ (xs p : List Int), bytesOf s = p ++ xs → Ev (fun k => impl_IsName.l0 k s (p.length : Int)) (xs.all partB) := by
  intro xs
  induction xs with
  | nil =>
    intro p hp
    have hz : (s.size : Int) = p.length := by rw [← bytes_length, hp]; simp
    refine Ev.step (fun k => by rw [impl_IsName.l0]) ?_
    exact ev_neg (by omega) (Ev.now _)
  | cons x xs ih =>
    intro p hp
    have hz : (s.size : Int) = p.length + (xs.length + 1) := by rw [← bytes_length, hp]; simp
    have hb : bt s (p.length : Int) = x := by rw [bt_rd, hp]; exact rd_mid p x xs
    have hw : wrap64 ((p.length : Int) + 1) = ((p ++ [x]).length : Int) := wrap_next p x (by omega)
    have hi := ih (p ++ [x]) (by rw [hp]; simp)
    have hy : partB x = true → Ev (fun k => impl_IsName.l0 k s ((p ++ [x]).length : Int)) ((x :: xs).all partB) := fun h => ev_of hi (by simp [h])
    have hn : partB x = false → Ev (fun _ => some false) ((x :: xs).all partB) := fun h => ev_of (Ev.now _) (by simp [h])
    refine Ev.step (fun k => by rw [impl_IsName.l0]) ?_
    refine ev_pos (by omega) (ev_pos (by omega) ?_)
    rw [hb, hw]
    have tail : (¬ smallB x = true) → Ev (fun k => if x < 48 then if x = 45 then impl_IsName.l0 k s ((p ++ [x]).length : Int) else some false else if x > 57 then if x = 45 then impl_IsName.l0 k s ((p ++ [x]).length : Int) else some false else impl_IsName.l0 k s ((p ++ [x]).length : Int)) ((x :: xs).all partB) := by
      intro hsm
      refine ev_ite (fun h => ?_) (fun h => ?_)
      · refine ev_ite (fun h2 => hy ?_) (fun h2 => hn ?_)
        · simp [partB, h2]
        · simp only [Bool.not_eq_true] at hsm
          simp [partB, hsm, h2]; omega
      · refine ev_ite (fun h2 => ?_) (fun h2 => hy ?_)
        · refine ev_ite (fun h3 => hy ?_) (fun h3 => hn ?_)
          · simp [partB, h3]
          · simp only [Bool.not_eq_true] at hsm
            simp [partB, hsm, h3]; omega
        · simp [partB]; omega
    refine ev_ite (fun h => tail (by simp [smallB]; omega)) (fun h => ?_)
    refine ev_ite (fun h2 => tail (by simp [smallB]; omega)) (fun h2 => hy ?_)
    simp [partB, smallB]; omega

theorem impl_name (s : ByteArray) (_hs : s.size ≤ maxLen) : Ev (fun k => impl_IsName.f k s) (nameB s) := by
  have hl := bytes_length s
  unfold impl_IsName.f nameB nameL
  have no : ∀ v : Bool, v = false → Ev (fun k => impl_IsName.j0 k s true) v := fun v h => Ev.step (fun k => by rw [impl_IsName.j0]) (ev_pos rfl (ev_of (Ev.now _) h.symm))
  cases hb : bytesOf s with
  | nil =>
    rw [hb] at hl
    exact ev_pos (by simp at hl; omega) (no _ rfl)
  | cons c cs =>
    rw [hb] at hl
    have hl2 : (s.size : Int) = cs.length + 1 := by rw [← hl]; simp
    have hc : bt s 0 = c := by rw [bt_rd, hb]; rfl
    refine ev_neg (by omega) (ev_ite (fun h1 => no _ ?_) (fun h1 => ?_))
    · simp; omega
    · refine ev_pos (by omega) ?_
      rw [hc]
      refine ev_ite (fun h2 => no _ ?_) (fun h2 => ?_)
      · simp [smallB]; omega
      · refine Ev.step (fun k => by rw [impl_IsName.j0]) ?_
        refine ev_ite (fun h3 => ?_) (fun h3 => ?_)
        · refine ev_of (Ev.now _) ?_
          simp at h3
          simp [smallB]; omega
        · simp at h3
          refine ev_of (impl_name_loop s (by omega) (c :: cs) [] hb) ?_
          simp [smallB]; omega
end Go.Proofs.YtkegmjebkikniaaB
end

section
/- Renewal: what a list of them weighs, its copy, its comparison, its marks. -/
namespace Go.Proofs.YtkegmjebkikniaaB
open Go.RowKit Go.Proofs.YtkegmjebkikniaaW.PrintWords Go.Proofs.YtkegmjebkikniaaW.PrintLast Go.Proofs.Ytkegmjebkikniaa.P

theorem rd55_mid (p : List S55) (x : S55) (xs : List S55) : rd_T55 (p ++ x :: xs) (p.length : Int) = x := by
  unfold rd_T55
  exact getD_at p x xs _
def GoodRenewal (x : S55) : Prop := x.f0.size ≤ 1048576 ∧ I64 x.f1 ∧ I64 x.f2 ∧ I64 x.f3
end Go.Proofs.YtkegmjebkikniaaB
end

section
-- Written by gprint.py (own program, over the printer of the kit) out of the translation. Lean checks it.
namespace Go.Proofs.Ytkegmjebkikniaa.P
open Go.RowKit Go.Proofs.YtkegmjebkikniaaW.PrintWords Go.Proofs.YtkegmjebkikniaaW.PrintLast Go.Proofs.YtkegmjebkikniaaW.PrintMore Go.Proofs.YtkegmjebkikniaaW.Pk
open Bool renaming true → T_, false → F_
open List renaming setIfInBounds_toArray → sT_, set_cons_zero → s0_, set_cons_succ → sS_
attribute [local go_sem] max2_int min2_int max_two min_two max_three min_three max_four min_four   -- for this text's walks alone
set_option linter.unusedVariables false
set_option linter.unusedSimpArgs false

/-! ### spec_l22W_walk: function 63 -/
-- (by hand)
open Go.Proofs.YtkegmjebkikniaaW.Hand
/-- The state of the walk at block g. -/
structure RInv (w0 w : World) (g : Nat) (Al : Option Addr) (cl : Nat) (l : List S55) (vb : Value) (best : List Int) (least good : Int) : Prop where
 blk : w.heap[g]? = some (.cells #[.slice Al l.length cl, vb, .int .i64 least, .int .i64 good] 75 (0, 0))
 brow : w.ownsRow w0.heap.size 2 1 vb best.length (nums .i64 best)
 list : Kd.C k55 w0 Al l.length l
 cap : l.length ≤ cl
 below : Below w0.heap.size w0 w
 ge : w0.heap.size ≤ g
section
variable {w0 w w1 : World} {g : Nat} {Al : Option Addr} {cl : Nat} {l : List S55} {vb : Value} {best : List Int} {least good : Int}
theorem RInv.step (h : RInv w0 w g Al cl l vb best least good) (hb : Below w.heap.size w w1) : RInv w0 w1 g Al cl l vb best least good :=
 ⟨(hb.block g (blk_lt h.blk)).trans h.blk, pw_own_below h.brow hb, h.list, h.cap, below_then h.below h.below.size hb, h.ge⟩
theorem RInv.c0 (h : RInv w0 w g Al cl l vb best least good) : w.cell? ⟨g, 0, none⟩ = some (.slice Al l.length cl) := (blk_cell h.blk 0).trans rfl
theorem RInv.c1 (h : RInv w0 w g Al cl l vb best least good) : w.cell? ⟨g, 1, none⟩ = some vb := (blk_cell h.blk 1).trans rfl
theorem RInv.c2 (h : RInv w0 w g Al cl l vb best least good) : w.cell? ⟨g, 2, none⟩ = some (.int .i64 least) := (blk_cell h.blk 2).trans rfl
theorem RInv.c3 (h : RInv w0 w g Al cl l vb best least good) : w.cell? ⟨g, 3, none⟩ = some (.int .i64 good) := (blk_cell h.blk 3).trans rfl
theorem RInv.fr (h : RInv w0 w g Al cl l vb best least good) (j : Nat) : w.frozen? ⟨g, j, none⟩ = false := blk_frozen h.blk j
theorem RInv.read (h : RInv w0 w g Al cl l vb best least good) : Kd.C k55 w Al l.length l := Kd.C_below h.list h.below
end
theorem RInv.grown {w0 w w1 : World} {g : Nat} {Al : Option Addr} {cl : Nat} {l : List S55} {vb : Value} {best : List Int} {least good : Int} (h : RInv w0 w g Al cl l vb best least good) (hg : w.grownBy w1 none) : RInv w0 w1 g Al cl l vb best least good :=
 h.step ⟨hg.os, hg.tape, hg.output, hg.size, fun k hk => hg.block k hk (by simp)⟩

theorem RInv.drew {w0 w : World} {g : Nat} {Al : Option Addr} {cl : Nat} {l : List S55} {vb : Value} {best : List Int} {least good : Int} (h : RInv w0 w g Al cl l vb best least good) : RInv w0 w.drew g Al cl l vb best least good := h.step (below_drew (Below.refl _ _))


end Go.Proofs.Ytkegmjebkikniaa.P
end

section
/- Renewals: whether a list of them is valid; orders; ends: of both. -/
namespace Go.Proofs.YtkegmjebkikniaaB
open Go.RowKit Go.Proofs.YtkegmjebkikniaaW.PrintWords Go.Proofs.YtkegmjebkikniaaW.PrintLast Go.Proofs.Ytkegmjebkikniaa.P

abbrev R := S55
abbrev GoodRenewals (l : List R) : Prop := l.length ≤ 1048576 ∧ ∀ x ∈ l, GoodRenewal x
def renB (x : R) : Bool := nameB x.f0 && ((decide (1 ≤ x.f1) && decide (x.f1 ≤ 200)) && ((decide (0 ≤ x.f2) && decide (x.f2 ≤ 1000)) && (decide (0 ≤ x.f3) && decide (x.f3 ≤ 1000))))
def smR (a : ByteArray) (y : R) : Bool := y.f0.toList == a.toList
theorem smR_pos {a : ByteArray} {y : R} (h : y.f0.toList = a.toList) : smR a y = true := by simp [smR, h]
theorem smR_neg {a : ByteArray} {y : R} (h : ¬ y.f0.toList = a.toList) : smR a y = false := by simp [smR, h]
def okFrom : List R → List R → Bool
  | _, [] => true
  | p, x :: xs => renB x && (!(p.any (smR x.f0)) && okFrom (p ++ [x]) xs)
theorem go_any : ∀ (xs : List R) (a : ByteArray) (i : Int), 0 ≤ i → decide (0 ≤ impl_Renewal_60.go xs a i) = xs.any (smR a) := by
  intro xs
  induction xs with
  | nil => intro a i _; simp [impl_Renewal_60.go]
  | cons x xs ih =>
    intro a i hi
    rw [impl_Renewal_60.go, List.any_cons]
    by_cases h : x.f0.toList = a.toList
    · rw [if_pos h, smR_pos h, decide_eq_true hi]
      rfl
    · rw [if_neg h, smR_neg h, Bool.false_or]
      exact ih a (i + 1) (by omega)
theorem impl_ok_loop (l : List R) (hm : l.length ≤ 1048576) (hs : ∀ x ∈ l, x.f0.size ≤ maxLen) : ∀ (xs p : List R), l = p ++ xs → Ev (fun k => impl_ValidRenewals.l0 k l l (l.length : Int) (p.length : Int)) (okFrom p xs) := by
  intro xs
  induction xs with
  | nil =>
    intro p hp
    have e : p = l := by rw [hp]; simp
    refine Ev.step (fun k => by rw [impl_ValidRenewals.l0]) ?_
    exact ev_neg (by rw [e]; omega) (Ev.now _)
  | cons x xs ih =>
    intro p hp
    have hpl : (p.length : Int) + (xs.length + 1) = l.length := by rw [hp]; simp
    have hx : rd_T55 l (p.length : Int) = x := by rw [hp]; exact rd55_mid p x xs
    have hw : wrap64 ((p.length : Int) + 1) = ((p ++ [x]).length : Int) := wrap_next p x (by omega)
    have hi := ih (p ++ [x]) (by rw [hp]; simp)
    have ht : l.take ((p.length : Int)).toNat = p := by rw [hp]; simp
    have bad : renB x = false → Ev (fun k => impl_ValidRenewals.j1 k l (p.length : Int) l (l.length : Int) (p.length : Int) true x.f0 x.f1 x.f2 x.f3) (okFrom p (x :: xs)) := fun h => by
      refine Ev.step (fun k => by rw [impl_ValidRenewals.j1]) (ev_pos rfl (ev_of (Ev.now _) ?_))
      simp [okFrom, h]
    have good : renB x = true → Ev (fun k => impl_ValidRenewals.j1 k l (p.length : Int) l (l.length : Int) (p.length : Int) false x.f0 x.f1 x.f2 x.f3) (okFrom p (x :: xs)) := fun h => by
      refine Ev.step (fun k => by rw [impl_ValidRenewals.j1]) (ev_neg (by simp) (ev_pos (Int.natCast_nonneg _) (ev_pos (by omega) ?_)))
      rw [ht, hw]
      refine ev_bind0 (a := p.any (smR x.f0)) (by unfold impl_Renewal_60.f; rw [go_any p x.f0 0 (by omega)]) (ev_ite (fun h2 => ?_) (fun h2 => ?_))
      · refine ev_of (Ev.now _) ?_
        simp only [okFrom, h2]
        simp
      · simp only [Bool.not_eq_true] at h2
        refine ev_of hi ?_
        simp only [okFrom, h, h2]
        simp
    refine Ev.step (fun k => by rw [impl_ValidRenewals.l0]) ?_
    refine ev_pos (by omega) (ev_pos (Int.natCast_nonneg _) (ev_pos (by omega) ?_))
    rw [hx]
    refine Ev.bind (impl_name x.f0 (hs x (by rw [hp]; simp))) (ev_ite (fun h1 => ?_) (fun h1 => bad (by simp only [Bool.not_eq_true] at h1; simp [renB, h1])))
    refine ev_bind0 (within_some _ _ _) (ev_ite (fun h2 => ?_) (fun h2 => bad (by simp only [Bool.not_eq_true] at h2; simp [renB, h2])))
    refine ev_bind0 (within_some _ _ _) (ev_ite (fun h3 => ?_) (fun h3 => bad (by simp only [Bool.not_eq_true] at h3; simp [renB, h3])))
    refine ev_bind0 (within_some _ _ _) ?_
    cases h4 : decide (0 ≤ x.f3) && decide (x.f3 ≤ 1000) with
    | true => exact good (by rw [renB, h1, h2, h3, h4]; rfl)
    | false => exact bad (by rw [renB, h4]; simp)
theorem impl_ok (l : List R) (hm : l.length ≤ 1048576) (hs : ∀ x ∈ l, x.f0.size ≤ maxLen) : Ev (fun k => impl_ValidRenewals.f k l) (okFrom [] l && decide ((l.length : Int) ≤ 7)) := by
  unfold impl_ValidRenewals.f
  refine ev_ite (fun h => ?_) (fun h => ?_)
  · refine ev_of (Ev.now _) ?_
    rw [decide_eq_false (by omega)]
    simp
  · refine ev_of (impl_ok_loop l hm hs l [] rfl) ?_
    rw [decide_eq_true (by omega)]
    simp
theorem good_sizes {l : List R} (h : GoodRenewals l) : ∀ x ∈ l, x.f0.size ≤ maxLen := fun x hx => by
  have := (h.2 x hx).1
  unfold maxLen
  omega
/-! ### orders -/
def ndF : List Int → List Int → Bool
  | _, [] => true
  | p, x :: xs => !(p.contains x) && ndF (p ++ [x]) xs
def inR (n x : Int) : Bool := decide (0 ≤ x) && decide (x ≤ n - 1)
theorem index_loop (a : Int) : ∀ (xs p : List Int), p.length + xs.length ≤ 1048576 → ∃ r, Ev (fun k => slices_Index_int64_int64.l0 k (p ++ xs) a ((p ++ xs).length : Int) (p.length : Int)) r ∧ decide (r ≥ 0) = xs.contains a := by
  intro xs
  induction xs with
  | nil =>
    intro p _
    refine ⟨-1, Ev.step (fun k => by rw [slices_Index_int64_int64.l0]) ?_, rfl⟩
    exact ev_neg (not_lt_end p) (Ev.now _)
  | cons x xs ih =>
    intro p hl
    rw [List.length_cons] at hl
    have hw : wrap64 ((p.length : Int) + 1) = ((p ++ [x]).length : Int) := wrap_next p x (by omega)
    obtain ⟨r, h1, h2⟩ := ih (p ++ [x]) (by rw [List.length_append]; simp; omega)
    by_cases h : a = x
    · refine ⟨(p.length : Int), Ev.step (fun k => by rw [slices_Index_int64_int64.l0]) ?_, ?_⟩
      · refine ev_pos (lt_mid p x xs) (ev_pos (Int.natCast_nonneg _) (ev_pos (lt_mid p x xs) ?_))
        rw [rd_mid]
        exact ev_pos h (Ev.now _)
      · rw [decide_eq_true (by omega)]
        simp [h]
    · refine ⟨r, Ev.step (fun k => by rw [slices_Index_int64_int64.l0]) ?_, ?_⟩
      · refine ev_pos (lt_mid p x xs) (ev_pos (Int.natCast_nonneg _) (ev_pos (lt_mid p x xs) ?_))
        rw [rd_mid, hw, push_mid p x xs]
        exact ev_neg h h1
      · rw [h2, List.contains_cons]
        have : (a == x) = false := by simp; omega
        rw [this, Bool.false_or]
theorem contains_ev (l : List Int) (a : Int) (h : l.length ≤ 1048576) : Ev (fun k => slices_Contains_int64_int64.f k l a) (l.contains a) := by
  obtain ⟨r, h1, h2⟩ := index_loop a l [] (by simp; omega)
  unfold slices_Contains_int64_int64.f slices_Index_int64_int64.f
  exact Ev.bind h1 (ev_of (Ev.now _) h2)
theorem areIn_loop (n : Int) : ∀ (xs p : List Int), p.length + xs.length ≤ 1048576 → Ev (fun k => impl_areIn.l0 k 0 (n - 1) (p ++ xs) ((p ++ xs).length : Int) (p.length : Int)) (xs.all (inR n)) := by
  intro xs
  induction xs with
  | nil =>
    intro p _
    refine Ev.step (fun k => by rw [impl_areIn.l0]) ?_
    exact ev_neg (not_lt_end p) (Ev.now _)
  | cons x xs ih =>
    intro p hl
    rw [List.length_cons] at hl
    have hw : wrap64 ((p.length : Int) + 1) = ((p ++ [x]).length : Int) := wrap_next p x (by omega)
    have hi := ih (p ++ [x]) (by rw [List.length_append]; simp; omega)
    refine Ev.step (fun k => by rw [impl_areIn.l0]) ?_
    refine ev_pos (lt_mid p x xs) (ev_pos (Int.natCast_nonneg _) (ev_pos (lt_mid p x xs) ?_))
    rw [rd_mid, hw, push_mid p x xs]
    refine ev_bind0 (within_some _ _ _) (ev_ite (fun h => ?_) (fun h => ?_))
    · refine ev_of hi ?_
      rw [List.all_cons, show inR n x = true from h]
      rfl
    · refine ev_of (Ev.now _) ?_
      simp only [Bool.not_eq_true] at h
      rw [List.all_cons, show inR n x = false from h]
      rfl
theorem dup_loop (o : List Int) (ho : o.length ≤ 1048576) : ∀ (xs p : List Int), o = p ++ xs → Ev (fun k => impl_orderCode.l0 k o o (o.length : Int) (p.length : Int)) (if ndF p xs = true then 0 else 2) := by
  intro xs
  induction xs with
  | nil =>
    intro p hp
    have e : p = o := by rw [hp]; simp
    refine Ev.step (fun k => by rw [impl_orderCode.l0]) ?_
    exact ev_neg (by rw [e]; omega) (Ev.now _)
  | cons x xs ih =>
    intro p hp
    have hpl : (p.length : Int) + (xs.length + 1) = o.length := by rw [hp]; simp
    have hx : rd o (p.length : Int) = x := by rw [hp]; exact rd_mid p x xs
    have hw : wrap64 ((p.length : Int) + 1) = ((p ++ [x]).length : Int) := wrap_next p x (by omega)
    have ht : o.take ((p.length : Int)).toNat = p := by rw [hp]; simp
    have hi := ih (p ++ [x]) (by rw [hp]; simp)
    refine Ev.step (fun k => by rw [impl_orderCode.l0]) ?_
    refine ev_pos (by omega) (ev_pos (Int.natCast_nonneg _) (ev_pos (by omega) (ev_pos (by omega) ?_)))
    rw [hx, ht, hw]
    refine Ev.bind (contains_ev p x (by omega)) (ev_ite (fun h => ?_) (fun h => ?_))
    · refine ev_of (Ev.now _) ?_
      rw [ndF, h]
      rfl
    · simp only [Bool.not_eq_true] at h
      refine ev_of hi ?_
      rw [ndF, h]
      rfl
def codeR (l : List R) (o : List Int) : Int := if (okFrom [] l && decide ((l.length : Int) ≤ 7)) = true then (if (o.all (inR (l.length : Int)) && ndF [] o && decide ((o.length : Int) = (l.length : Int))) = true then 0 else 2) else 1
theorem impl_code (l : List R) (o : List Int) (h : GoodRenewals l) (ho : o.length ≤ 1048576) : Ev (fun k => impl_orderCode.f k l o) (codeR l o) := by
  unfold impl_orderCode.f codeR impl_areIn.f
  have hl := h.1
  refine Ev.bind (impl_ok l h.1 (good_sizes h)) (ev_ite (fun h1 => ?_) (fun h1 => ev_of (Ev.now _) (if_neg h1).symm))
  rw [if_pos h1]
  have hn1 : wrap64 ((l.length : Int) - 1) = (l.length : Int) - 1 := wrap_small (by omega) (by omega)
  rw [hn1]
  have hA := areIn_loop (l.length : Int) o [] (by simp; omega)
  by_cases hlen : (o.length : Int) = (l.length : Int)
  · refine Ev.bind (ev_pos hlen hA) (ev_ite (fun h2 => ?_) (fun h2 => ?_))
    · refine ev_of (dup_loop o ho o [] rfl) ?_
      rw [h2, decide_eq_true hlen]
      simp
    · refine ev_of (Ev.now _) ?_
      simp only [Bool.not_eq_true] at h2
      rw [h2]
      rfl
  · refine Ev.bind (a := false) (ev_neg hlen (Ev.now _)) (ev_neg (by simp) (ev_of (Ev.now _) ?_))
    rw [decide_eq_false hlen]
    simp
/-! ### ends -/
end Go.Proofs.YtkegmjebkikniaaB
end

section
/- harm of an order, of both; the orders -/
namespace Go.Proofs.YtkegmjebkikniaaB
open Go.RowKit Go.Proofs.YtkegmjebkikniaaW.PrintWords Go.Proofs.YtkegmjebkikniaaW.PrintLast Go.Proofs.YtkegmjebkikniaaW.Hand Go.Proofs.Ytkegmjebkikniaa.P

section
variable (l : List R) (e : List Int) (hl : l.length ≤ 1048576) (he : e.length = l.length)
include hl he
end
theorem orders_good (n : Nat) : ∀ (m : Nat) (o : List Int), (∀ x ∈ o, 0 ≤ x ∧ x < (n : Int)) → ∀ q ∈ ordersFrom n m o, q.length = o.length + m ∧ ∀ x ∈ q, 0 ≤ x ∧ x < (n : Int)
  | 0, o, h, q, hq => by
    rw [ordersFrom, List.mem_singleton] at hq
    subst hq
    exact ⟨rfl, h⟩
  | m + 1, o, h, q, hq => by
    rw [ordersFrom] at hq
    obtain ⟨i, hi, hq⟩ := List.mem_flatMap.mp hq
    rw [List.mem_range] at hi
    split at hq
    · exact absurd hq (by simp)
    · obtain ⟨h1, h2⟩ := orders_good n m (o ++ [(i : Int)]) (fun x hx => by
        rcases List.mem_append.mp hx with hx | hx
        · exact h x hx
        · rw [List.mem_singleton] at hx; subst hx; omega) q hq
      refine ⟨?_, h2⟩
      rw [h1, List.length_append, List.length_singleton]
      omega
section
variable (l : List R) (hl : l.length ≤ 7)
include hl
end
end Go.Proofs.YtkegmjebkikniaaB
end

section
/- OrderByDue, of both: each renewal is put behind the last one that is due no later. -/
namespace Go.Proofs.YtkegmjebkikniaaB
open Go.RowKit Go.Proofs.YtkegmjebkikniaaW.PrintWords Go.Proofs.YtkegmjebkikniaaW.PrintLast Go.Proofs.YtkegmjebkikniaaW.Hand Go.Proofs.Ytkegmjebkikniaa.P

/-- Where x goes among the first k of a list: behind the last one that is due no later. -/
def posD (l : List R) (o : List Int) (x : Int) : Nat → Nat
  | 0 => 0
  | k + 1 => if (rd_T55 l (rd o (k : Int))).f2 > (rd_T55 l x).f2 then posD l o x k else k + 1
theorem posD_le (l : List R) (o : List Int) (x : Int) : ∀ k, posD l o x k ≤ k := by
  intro k
  induction k with
  | zero => exact Nat.le_refl _
  | succ k ih =>
    rw [posD]
    split <;> omega
def putD (l : List R) (x : Int) (o : List Int) : List Int := o.take (posD l o x o.length) ++ x :: o.drop (posD l o x o.length)
def dueFrom (l : List R) : Nat → Nat → List Int → List Int
  | 0, _, o => o
  | m + 1, i, o => dueFrom l m (i + 1) (putD l (i : Int) o)
def upD (i m : Nat) : List Int := (List.range' i m).map fun (i : Nat) => (i : Int)
theorem upD_succ (i m : Nat) : upD i (m + 1) = (i : Int) :: upD (i + 1) m := by unfold upD; rw [List.range'_succ]; rfl
theorem putD_length (l : List R) (x : Int) (o : List Int) : (putD l x o).length = o.length + 1 := by
  have := posD_le l o x o.length
  unfold putD
  rw [List.length_append, List.length_cons, List.length_take, List.length_drop]
  omega
theorem posD_app (l : List R) (o q : List Int) (x : Int) : ∀ k, k ≤ o.length → posD l (o ++ q) x k = posD l o x k := by
  intro k
  induction k with
  | zero => intro _; rfl
  | succ k ih =>
    intro h
    have e : rd (o ++ q) (k : Int) = rd o (k : Int) := by
      unfold rd
      rw [List.getD_eq_getElem?_getD, List.getD_eq_getElem?_getD, List.getElem?_append_left (by omega)]
    rw [posD, posD, ih (by omega), e]
theorem insJ_put (l : List R) (x : Int) : ∀ (n : Nat) (p q : List Int), p.length = n → insJ l n (p ++ x :: q) = p.take (posD l p x n) ++ x :: (p.drop (posD l p x n) ++ q) := by
  intro n
  induction n with
  | zero =>
    intro p q h
    rw [List.length_eq_zero_iff.1 h]
    rfl
  | succ n ih =>
    intro p q h
    have hne : p ≠ [] := by
      intro e
      rw [e] at h
      simp at h
    obtain ⟨p', y, rfl⟩ : ∃ p' y, p = p' ++ [y] := ⟨p.dropLast, p.getLast hne, (List.dropLast_concat_getLast hne).symm⟩
    have hp : p'.length = n := by simpa using h
    have h1 : rd (p' ++ [y] ++ x :: q) ((n + 1 : Nat) : Int) = x := by
      have := rd_mid (p' ++ [y]) x q
      rwa [List.length_append, List.length_singleton, hp] at this
    have h2 : rd (p' ++ [y] ++ x :: q) (n : Int) = y := by
      have := rd_mid p' y (x :: q)
      rw [hp] at this
      rw [List.append_assoc]
      exact this
    have h3 : rd (p' ++ [y]) (n : Int) = y := by
      have := rd_mid p' y []
      rwa [hp] at this
    rw [insJ, h1, h2, posD, h3]
    by_cases hd : (rd_T55 l y).f2 > (rd_T55 l x).f2
    · have hs : swapL (p' ++ [y] ++ x :: q) n (n + 1) = p' ++ x :: (y :: q) := by
        unfold swapL
        rw [h1, h2]
        have e1 : (p' ++ [y] ++ x :: q).set (n + 1) y = p' ++ [y] ++ y :: q := by
          have := set_mid (p' ++ [y]) x y q
          rw [List.length_append, List.length_singleton, hp, Int.toNat_natCast] at this
          exact this
        rw [e1, List.append_assoc]
        have := set_mid p' y x (y :: q)
        rw [hp, Int.toNat_natCast] at this
        exact this
      rw [if_pos (by unfold ltD; exact decide_eq_true (by omega)), if_pos hd, hs, ih p' (y :: q) hp, posD_app l p' [y] x n (by omega)]
      have hle := posD_le l p' x n
      rw [List.take_append_of_le_length (by omega), List.drop_append_of_le_length (by omega), List.append_assoc]
      rfl
    · rw [if_neg (by unfold ltD; rw [decide_eq_false (by omega)]; simp), if_neg hd, List.take_of_length_le (by omega), List.drop_eq_nil_of_le (by omega)]
      rfl
theorem insFrom_due (l : List R) : ∀ (m i : Nat) (o : List Int), o.length = i → insFrom l m i (o ++ upD i m) = dueFrom l m i o := by
  intro m
  induction m with
  | zero => intro i o _; rw [insFrom, dueFrom]; simp [upD]
  | succ m ih =>
    intro i o h
    rw [insFrom, dueFrom, upD_succ, insJ_put l (i : Int) i o (upD (i + 1) m) h]
    have e : o.take (posD l o (i : Int) i) ++ (i : Int) :: (o.drop (posD l o (i : Int) i) ++ upD (i + 1) m) = putD l (i : Int) o ++ upD (i + 1) m := by
      unfold putD
      rw [h, List.append_assoc]
      rfl
    rw [e]
    exact ih _ _ (by rw [putD_length, h])
theorem insFrom_all (l : List R) (n : Nat) : insFrom l (n - 1) 1 (iotaL n) = dueFrom l n 0 [] := by
  cases n with
  | zero => rfl
  | succ n =>
    have e : iotaL (n + 1) = [(0 : Int)] ++ upD 1 n := by
      unfold iotaL upD
      rw [List.range_eq_range', List.range'_succ]
      rfl
    rw [e, Nat.add_sub_cancel, insFrom_due l n 1 [0] rfl]
    rfl
theorem ownD (o : List Int) (h : o.length ≤ 1048576) : spec_l00Own.f o = some o := by
  unfold spec_l00Own.f
  rw [Option.bind_some, if_pos (by simp; omega)]
  rfl
section
variable (l : List R) (hl : l.length ≤ 7)
include hl
end
end Go.Proofs.YtkegmjebkikniaaB
end

section
/- The choices that are read from bytes: each lies in its bounds. -/
namespace Go.Proofs.YtkegmjebkikniaaB
open Go.RowKit Go.Proofs.YtkegmjebkikniaaW.PrintWords Go.Proofs.YtkegmjebkikniaaW.PrintLast Go.Proofs.Ytkegmjebkikniaa.P

abbrev Code (c : List Int) : Prop := ∀ x ∈ c, 0 ≤ x ∧ x ≤ 255
theorem code_of {c : List Int} (h : ∀ x ∈ c, (Lit.int .u8 x).wf = true) : Code c := fun x hx => by
  have := h x hx
  simp [Lit.wf, IntKind.min, IntKind.max, IntKind.signed, IntKind.bits] at this
  omega
theorem rd_code {c : List Int} (h : Code c) (i : Int) : 0 ≤ rd c i ∧ rd c i ≤ 255 := by
  unfold rd
  rw [List.getD_eq_getElem?_getD]
  cases e : c[i.toNat]? with
  | none => simp
  | some x => simpa using h x (List.mem_of_getElem? e)
theorem wraps_u64 (n : Int) (h0 : 0 ≤ n) (h1 : n < 2 ^ 64) : IntKind.u64.wrap n = n := by
  simp [IntKind.wrap, IntKind.bits, IntKind.signed]
  omega
theorem u64_bound (n : Int) : 0 ≤ IntKind.u64.wrap n ∧ IntKind.u64.wrap n < 18446744073709551616 := by
  simp [IntKind.wrap, IntKind.bits, IntKind.signed]
  omega
theorem and255 (x : Int) (h0 : 0 ≤ x) (h1 : x < 18446744073709551616) : 0 ≤ bits .and .u64 x 255 ∧ bits .and .u64 x 255 ≤ 255 := by
  have := bits_mask .u64 64 (by decide) wraps_u64 8 (by decide) x h0 (by simpa using h1)
  have h2 : bits .and .u64 x 255 = x % 256 := by simpa using this
  rw [h2]
  omega
theorem seed_and (n : Int) : 0 ≤ bits .and .u64 (IntKind.u64.wrap n / 1099511627776) 255 ∧ bits .and .u64 (IntKind.u64.wrap n / 1099511627776) 255 ≤ 255 := by
  have := u64_bound n
  exact and255 _ (by omega) (by omega)
/-- Where the reading stands: there is room for n steps. -/
def Room (n at_ : Int) : Prop := 0 ≤ at_ ∧ at_ + n ≤ 4611686018427387904
theorem next_some {c : List Int} (hc : Code c) (at_ seed : Int) (h : Room 1 at_) : ∃ v s', spec_l00Src_next.f c at_ seed = some (v, at_ + 1, s') ∧ 0 ≤ v ∧ v ≤ 255 := by
  obtain ⟨h0, h1⟩ := h
  have hw : wrap64 (at_ + 1) = at_ + 1 := wrap_small (by omega) (by omega)
  have hr := rd_code hc at_
  have hv : wrap64 (rd c at_) = rd c at_ := wrap_small (by omega) (by omega)
  have hs : ∀ n, wrap64 (bits .and .u64 (IntKind.u64.wrap n / 1099511627776) 255) = bits .and .u64 (IntKind.u64.wrap n / 1099511627776) 255 := fun n => wrap_small (by have := seed_and n; omega) (by have := seed_and n; omega)
  unfold spec_l00Src_next.f
  rw [hw]
  by_cases h2 : at_ < (c.length : Int)
  · rw [if_pos h2, if_pos h0, if_pos (by omega), hv]
    exact ⟨_, _, rfl, hr.1, hr.2⟩
  · rw [if_neg h2, if_neg (by omega), hs]
    exact ⟨_, _, rfl, (seed_and _).1, (seed_and _).2⟩
theorem pick_some {c : List Int} (hc : Code c) (at_ seed n : Int) (h : Room 2 at_) (hn : n ≤ 4611686018427387904) : ∃ r at' s', spec_l00Src_pick.f c at_ seed n = some (r, at', s') ∧ 0 ≤ r ∧ (1 ≤ n → r < n) ∧ at_ ≤ at' ∧ at' ≤ at_ + 2 := by
  have h' := h
  obtain ⟨h0, h1⟩ := h'
  unfold spec_l00Src_pick.f
  by_cases h2 : n ≤ 1
  · rw [if_pos h2]
    exact ⟨_, _, _, rfl, by omega, fun _ => by omega, by omega, by omega⟩
  · obtain ⟨v, s1, e1, hv0, hv1⟩ := next_some hc at_ seed ⟨h0, by omega⟩
    rw [if_neg h2, e1, Option.bind_some]
    by_cases h3 : n > 200
    · obtain ⟨v2, s2, e2, hu0, hu1⟩ := next_some hc (at_ + 1) s1 ⟨by omega, by omega⟩
      rw [if_pos h3]
      dsimp only
      rw [e2, Option.bind_some, if_neg (by omega)]
      dsimp only
      rw [wrap_small (i := v * 256) (by omega) (by omega), wrap_small (by omega) (by omega)]
      exact ⟨_, _, _, rfl, Int.tmod_nonneg _ (by omega), fun _ => Int.tmod_lt_of_pos _ (by omega), by omega, by omega⟩
    · rw [if_neg h3, if_neg (by omega)]
      dsimp only
      exact ⟨_, _, _, rfl, Int.tmod_nonneg _ (by omega), fun _ => Int.tmod_lt_of_pos _ (by omega), by omega, by omega⟩
end Go.Proofs.YtkegmjebkikniaaB
end

section
/- The renewals that are drawn are valid. -/
namespace Go.Proofs.YtkegmjebkikniaaB
open Go.RowKit Go.Proofs.YtkegmjebkikniaaW.PrintWords Go.Proofs.YtkegmjebkikniaaW.PrintLast Go.Proofs.Ytkegmjebkikniaa.P

def drawNames : List ByteArray := [(⟨#[115, 104, 114, 111, 117, 100]⟩ : ByteArray), (⟨#[104, 97, 108, 121, 97, 114, 100]⟩ : ByteArray), (⟨#[98, 108, 111, 99, 107, 45, 52]⟩ : ByteArray), (⟨#[108, 105, 102, 116]⟩ : ByteArray), (⟨#[98, 114, 97, 99, 101]⟩ : ByteArray), (⟨#[115, 116, 97, 121]⟩ : ByteArray)]
theorem names_ok (n : Nat) (h : n < 6) : nameB (drawNames.getD n ByteArray.empty) = true ∧ (drawNames.take n).any (fun b => b.data.toList == (drawNames.getD n ByteArray.empty).data.toList) = false ∧ (drawNames.getD n ByteArray.empty).size ≤ 12 ∧ drawNames.take (n + 1) = drawNames.take n ++ [drawNames.getD n ByteArray.empty] := by
  have : n = 0 ∨ n = 1 ∨ n = 2 ∨ n = 3 ∨ n = 4 ∨ n = 5 := by omega
  rcases this with rfl | rfl | rfl | rfl | rfl | rfl <;> exact ⟨by decide, by decide, by decide, rfl⟩
theorem okFrom_snoc : ∀ (xs p : List R) (x : R), okFrom p (xs ++ [x]) = (okFrom p xs && (renB x && !((p ++ xs).any (smR x.f0)))) := by
  intro xs
  induction xs with
  | nil => intro p x; simp [okFrom]
  | cons y xs ih =>
    intro p x
    rw [List.cons_append, okFrom, okFrom, ih, List.append_assoc, List.singleton_append, Bool.and_assoc, Bool.and_assoc]
def fineR (x : R) : Prop := x.f0.size ≤ 12 ∧ 1 ≤ x.f1 ∧ x.f1 ≤ 9 ∧ 0 ≤ x.f2 ∧ x.f2 ≤ 29 ∧ 0 ≤ x.f3 ∧ x.f3 ≤ 7
structure Drawn (l : List R) : Prop where
  ok : okFrom [] l = true
  names : l.map (fun x => x.f0) = drawNames.take l.length
  fine : ∀ x ∈ l, fineR x
theorem any_names (a : ByteArray) (l : List R) : l.any (smR a) = (l.map fun x => x.f0).any (fun b => b.data.toList == a.data.toList) := by
  induction l with
  | nil => rfl
  | cons x l ih =>
    rw [List.any_cons, List.map_cons, List.any_cons, ih]
    unfold smR
    rw [Lib.toList_data, Lib.toList_data]
theorem new_some {c : List Int} (hc : Code c) (at_ seed : Int) (a : ByteArray) (h : Room 6 at_) : ∃ d u m at' s', spec_l22New.f c at_ seed a = some (a, d, u, m, at', s') ∧ 1 ≤ d ∧ d ≤ 9 ∧ 0 ≤ u ∧ u ≤ 29 ∧ 0 ≤ m ∧ m ≤ 7 ∧ at_ ≤ at' ∧ at' ≤ at_ + 6 := by
  obtain ⟨h0, h1⟩ := h
  obtain ⟨d, t1, s1, e1, d0, d1, q0, q1⟩ := pick_some hc at_ seed 9 ⟨h0, by omega⟩ (by omega)
  obtain ⟨u, t2, s2, e2, u0, u1, q2, q3⟩ := pick_some hc t1 s1 30 ⟨by omega, by omega⟩ (by omega)
  obtain ⟨m, t3, s3, e3, m0, m1, q4, q5⟩ := pick_some hc t2 s2 8 ⟨by omega, by omega⟩ (by omega)
  have d2 := d1 (by omega)
  have u2 := u1 (by omega)
  have m2 := m1 (by omega)
  unfold spec_l22New.f
  rw [e1, Option.bind_some]
  dsimp only
  rw [e2, Option.bind_some]
  dsimp only
  rw [e3, Option.bind_some]
  dsimp only
  rw [wrap_small (by omega) (by omega)]
  exact ⟨_, _, _, _, _, rfl, by omega, by omega, u0, by omega, m0, by omega, by omega, by omega⟩
theorem draw_loop {c : List Int} (hc : Code c) : ∀ (d : Nat) (l : List R) (n at_ seed : Int), n = d → l.length + d ≤ 5 → Drawn l → Room (6 * d) at_ →
    ∃ r at' s', Ev (fun k => spec_l22Draw.l0 k drawNames l n c at_ seed) (r, at', s') ∧ Drawn r ∧ r.length ≤ 5 := by
  intro d
  induction d with
  | zero =>
    intro l n at_ seed hn hl hd _
    exact ⟨l, at_, seed, Ev.step (fun k => by rw [spec_l22Draw.l0]) (ev_neg (by omega) (Ev.now _)), hd, by omega⟩
  | succ d ih =>
    intro l n at_ seed hn hl hd hr
    obtain ⟨h0, h1⟩ := hr
    obtain ⟨n1, n2, n3, n4⟩ := names_ok l.length (by omega)
    obtain ⟨x, u, m, t, s, e, x0, x1, u0, u1, m0, m1, t0, t1⟩ := new_some hc at_ seed (rdOf ByteArray.empty drawNames (l.length : Int)) ⟨h0, by omega⟩
    have en : rdOf ByteArray.empty drawNames (l.length : Int) = drawNames.getD l.length ByteArray.empty := by unfold rdOf; rw [Int.toNat_natCast]
    rw [en] at e
    have hb : renB ⟨drawNames.getD l.length ByteArray.empty, x, u, m⟩ = true := by
      simp only [renB, n1, Bool.true_and, Bool.and_eq_true, decide_eq_true_eq]
      omega
    have hd' : Drawn (l ++ [⟨drawNames.getD l.length ByteArray.empty, x, u, m⟩]) := by
      refine ⟨?_, ?_, ?_⟩
      · rw [okFrom_snoc, hd.ok, hb, List.nil_append, any_names, hd.names, n2]
        rfl
      · rw [List.map_append, hd.names, List.length_append, List.length_singleton, n4]
        rfl
      · intro y hy
        rcases List.mem_append.1 hy with hy | hy
        · exact hd.fine y hy
        · rw [List.mem_singleton.1 hy]
          exact ⟨n3, x0, x1, u0, u1, m0, m1⟩
    obtain ⟨r, at', s', r1, r2, r3⟩ := ih (l ++ [⟨drawNames.getD l.length ByteArray.empty, x, u, m⟩]) (n - 1) t s (by omega) (by rw [List.length_append, List.length_singleton]; omega) hd' ⟨by omega, by omega⟩
    refine ⟨r, at', s', Ev.step (fun k => by rw [spec_l22Draw.l0]) ?_, r2, r3⟩
    refine ev_pos (by omega) (ev_pos (by omega) (ev_pos (show (l.length : Int) < (6 : Nat) by omega) ?_))
    rw [en]
    refine ev_bind0 e (ev_pos (by omega) ?_)
    rw [wrap_small (i := n - 1) (by omega) (by omega)]
    exact r1
theorem draw_ev {c : List Int} (hc : Code c) : ∃ r, Ev (fun k => spec_A2Renewals.f k c) r ∧ Drawn r ∧ r.length ≤ 5 := by
  obtain ⟨d, t, s, e, d0, d1, q0, q1⟩ := pick_some hc 0 0 6 ⟨by omega, by omega⟩ (by omega)
  have d2 := d1 (by omega)
  obtain ⟨r, at', s', r1, r2, r3⟩ := draw_loop hc d.toNat [] d t s (by omega) (by simp; omega) ⟨rfl, rfl, fun x hx => by simp at hx⟩ ⟨by omega, by omega⟩
  refine ⟨r, ?_, r2, r3⟩
  unfold spec_A2Renewals.f spec_l00From.f
  refine ev_bind0 rfl (Ev.bind (a := (r, at', s')) ?_ (Ev.now _))
  unfold spec_l22Draw.f
  exact ev_bind0 e r1
theorem drawn_good {l : List R} (h : Drawn l) (hl : l.length ≤ 5) : GoodRenewals l := ⟨by omega, fun x hx => by
  obtain ⟨h0, h1, h2, h3, h4, h5, h6⟩ := h.fine x hx
  exact ⟨by omega, ⟨by omega, by omega⟩, ⟨by omega, by omega⟩, ⟨by omega, by omega⟩⟩⟩
end Go.Proofs.YtkegmjebkikniaaB
end

section
/- Plans of few renewals, explicitly: ends, harms, lateness; the order by dues has the least lateness. -/
namespace Go.Proofs.YtkegmjebkikniaaB
open Go.RowKit Go.Proofs.YtkegmjebkikniaaW.PrintWords Go.Proofs.YtkegmjebkikniaaW.PrintLast Go.Proofs.YtkegmjebkikniaaW.Hand Go.Proofs.Ytkegmjebkikniaa.P

abbrev dyR (l : List R) (x : Int) : Int := (rd_T55 l x).f1
abbrev duR (l : List R) (x : Int) : Int := (rd_T55 l x).f2
abbrev hmR (l : List R) (x : Int) : Int := (rd_T55 l x).f3
def InN (n : Nat) (o : List Int) : Prop := ∀ x ∈ o, 0 ≤ x ∧ x < (n : Int)
theorem rdP_set_at (xs : List Int) (x v : Int) (h0 : 0 ≤ x) (h : x < (xs.length : Int)) : rd (xs.set x.toNat v) x = v := by
  unfold rd
  rw [List.getD_eq_getElem?_getD, List.getElem?_set_self (by omega)]
  rfl
theorem rdP_set_ne (xs : List Int) (x y v : Int) (h0 : 0 ≤ x) (h1 : 0 ≤ y) (h : y ≠ x) : rd (xs.set x.toNat v) y = rd xs y := by
  unfold rd
  rw [List.getD_eq_getElem?_getD, List.getD_eq_getElem?_getD, List.getElem?_set_ne (by omega)]
/-- Sums of a list of numbers. -/
def sumP (s : List Int) : Int := s.foldr (· + ·) 0
theorem sumP_cons (x : Int) (s : List Int) : sumP (x :: s) = x + sumP s := rfl
theorem sumP_snoc (p : List Int) (x : Int) : sumP (p ++ [x]) = sumP p + x := by
  induction p with
  | nil => show x + 0 = 0 + x; omega
  | cons y p ih => rw [List.cons_append, sumP_cons, sumP_cons, ih]; omega
theorem sumP_perm {a b : List Int} (h : a.Perm b) : sumP a = sumP b := by
  induction h with
  | nil => rfl
  | cons x _ ih => rw [sumP_cons, sumP_cons, ih]
  | swap x y l => rw [sumP_cons, sumP_cons, sumP_cons, sumP_cons]; omega
  | trans _ _ i1 i2 => rw [i1, i2]
theorem sumP_non {s : List Int} (h : ∀ x ∈ s, 0 ≤ x) : 0 ≤ sumP s := by
  induction s with
  | nil => exact Int.le_refl _
  | cons x s ih =>
    have := h x (List.mem_cons_self ..)
    have := ih (fun y hy => h y (List.mem_cons_of_mem _ hy))
    rw [sumP_cons]
    omega
theorem sumP_le {s : List Int} {b : Int} (h : ∀ x ∈ s, x ≤ b) (hb : 0 ≤ b) (n : Nat) (hn : s.length ≤ n) : sumP s ≤ b * (n : Int) := by
  induction s generalizing n with
  | nil => exact Int.mul_nonneg hb (by omega)
  | cons x s ih =>
    cases n with
    | zero => simp at hn
    | succ n =>
      have h1 := h x (List.mem_cons_self ..)
      have h2 := ih (fun y hy => h y (List.mem_cons_of_mem _ hy)) n (by simpa using hn)
      rw [sumP_cons]
      have : b * ((n + 1 : Nat) : Int) = b * (n : Int) + b := by
        rw [Int.natCast_add, Int.mul_add]
        simp
      omega
/-- What is summed over fewer things is no more. -/
theorem sumP_sub (f : Int → Int) (hf : ∀ x, 0 ≤ f x) : ∀ (p q : List Int), p.Nodup → (∀ x ∈ p, x ∈ q) → sumP (p.map f) ≤ sumP (q.map f) := by
  intro p
  induction p with
  | nil => intro q _ _; exact sumP_non (fun x hx => by obtain ⟨y, _, rfl⟩ := List.mem_map.1 hx; exact hf y)
  | cons x p ih =>
    intro q hnd hq
    have hx := hq x (List.mem_cons_self ..)
    have hp := List.perm_cons_erase hx
    rw [sumP_perm (hp.map f), List.map_cons, List.map_cons, sumP_cons, sumP_cons]
    have hnd' := List.nodup_cons.1 hnd
    have := ih (q.erase x) hnd'.2 (fun y hy => (List.mem_erase_of_ne (show y ≠ x from fun e => hnd'.1 (by rw [← e]; exact hy))).2 (hq y (List.mem_cons_of_mem _ hy)))
    omega
theorem foldmx_ge : ∀ (xs : List Int) (a : Int), a ≤ xs.foldl mx a ∧ ∀ x ∈ xs, x ≤ xs.foldl mx a := by
  intro xs
  induction xs with
  | nil => intro a; exact ⟨Int.le_refl _, fun x hx => by simp at hx⟩
  | cons y xs ih =>
    intro a
    rw [List.foldl_cons]
    obtain ⟨h1, h2⟩ := ih (mx a y)
    have ha : a ≤ mx a y := by unfold mx; split <;> omega
    have hy : y ≤ mx a y := by unfold mx; split <;> omega
    refine ⟨by omega, fun x hx => ?_⟩
    rcases List.mem_cons.1 hx with rfl | hx
    · omega
    · exact h2 x hx
theorem foldmx_le : ∀ (xs : List Int) (a t : Int), a ≤ t → (∀ x ∈ xs, x ≤ t) → xs.foldl mx a ≤ t := by
  intro xs
  induction xs with
  | nil => intro a t h _; exact h
  | cons x xs ih =>
    intro a t h hx
    rw [List.foldl_cons]
    refine ih _ _ ?_ (fun y hy => hx y (List.mem_cons_of_mem _ hy))
    have := hx x (List.mem_cons_self ..)
    unfold mx
    split <;> omega
theorem foldmx_mem {xs ys : List Int} (h : ∀ x, x ∈ xs ↔ x ∈ ys) : xs.foldl mx 0 = ys.foldl mx 0 := by
  obtain ⟨a1, a2⟩ := foldmx_ge xs 0
  obtain ⟨b1, b2⟩ := foldmx_ge ys 0
  have h1 := foldmx_le xs 0 (ys.foldl mx 0) b1 (fun x hx => b2 x ((h x).1 hx))
  have h2 := foldmx_le ys 0 (xs.foldl mx 0) a1 (fun x hx => a2 x ((h x).2 hx))
  omega
/-- When x is done, if the plan o begins on day 0. -/
def timeP (l : List R) : List Int → Int → Int
  | [], _ => 0
  | y :: o, x => if x = y then dyR l y else dyR l y + timeP l o x
def endL (l : List R) : List Int → List Int → Int → List Int
  | [], e, _ => e
  | x :: xs, e, d => endL l xs (e.set x.toNat (d + dyR l x)) (d + dyR l x)
theorem endL_length (l : List R) : ∀ (xs e : List Int) (d : Int), (endL l xs e d).length = e.length := by
  intro xs
  induction xs with
  | nil => intro e d; rfl
  | cons x xs ih => intro e d; rw [endL, ih, List.length_set]
theorem endL_rd (l : List R) : ∀ (xs e : List Int) (d : Int), xs.Nodup → InN e.length xs → (∀ x ∈ xs, rd (endL l xs e d) x = d + timeP l xs x) ∧ ∀ y : Int, 0 ≤ y → y ∉ xs → rd (endL l xs e d) y = rd e y := by
  intro xs
  induction xs with
  | nil => intro e d _ _; exact ⟨fun x hx => by simp at hx, fun _ _ _ => rfl⟩
  | cons x xs ih =>
    intro e d hnd hin
    obtain ⟨hx, hnd'⟩ := List.nodup_cons.1 hnd
    obtain ⟨x0, x1⟩ := hin x (List.mem_cons_self ..)
    obtain ⟨h1, h2⟩ := ih (e.set x.toNat (d + dyR l x)) (d + dyR l x) hnd' (by rw [List.length_set]; exact fun y hy => hin y (List.mem_cons_of_mem _ hy))
    refine ⟨fun y hy => ?_, fun y hy hn => ?_⟩
    · rw [endL, timeP]
      by_cases e1 : y = x
      · subst e1
        rw [if_pos rfl, h2 y x0 hx, rdP_set_at _ _ _ x0 x1]
      · rw [if_neg e1]
        have hyx : y ∈ xs := by rcases List.mem_cons.1 hy with h | h
                                · exact absurd h e1
                                · exact h
        rw [h1 y hyx]
        omega
    · rw [List.mem_cons, not_or] at hn
      rw [endL, h2 y hy hn.2, rdP_set_ne _ _ _ _ x0 hy hn.1]
theorem timeP_mid (l : List R) : ∀ (a : List Int) (z : Int) (b : List Int), z ∉ a → timeP l (a ++ z :: b) z = sumP ((a ++ [z]).map (dyR l)) := by
  intro a
  induction a with
  | nil => intro z b _; rw [List.nil_append, timeP, if_pos rfl]; show _ = _ + (0 : Int); omega
  | cons y a ih =>
    intro z b h
    rw [List.mem_cons, not_or] at h
    rw [List.cons_append, timeP, if_neg h.1, ih z b h.2, List.cons_append, List.map_cons, sumP_cons]
section
variable (l : List R) (hn : l.length ≤ 5) (hf : ∀ x ∈ l, fineR x)
include hn hf
omit hn in
theorem fine_at (x : Int) (h0 : 0 ≤ x) (h1 : x < (l.length : Int)) : 1 ≤ dyR l x ∧ dyR l x ≤ 9 ∧ 0 ≤ duR l x ∧ duR l x ≤ 29 ∧ 0 ≤ hmR l x ∧ hmR l x ≤ 7 := by
  have e : rd_T55 l x = l[x.toNat]'(by omega) := by
    unfold rd_T55
    rw [List.getD_eq_getElem?_getD, List.getElem?_eq_getElem (by omega)]
    rfl
  unfold dyR duR hmR
  rw [e]
  obtain ⟨_, h2, h3, h4, h5, h6, h7⟩ := hf _ (List.getElem_mem (by omega : x.toNat < l.length))
  exact ⟨h2, h3, h4, h5, h6, h7⟩
omit hn in
theorem dy_non (x : Int) (h0 : 0 ≤ x) : 0 ≤ dyR l x := by
  by_cases h1 : x < (l.length : Int)
  · have := fine_at l hf x h0 h1
    omega
  · have e : rd_T55 l x = z55 := by
      unfold rd_T55
      rw [List.getD_eq_getElem?_getD, List.getElem?_eq_none (by omega)]
      rfl
    unfold dyR
    rw [e]
    decide
abbrev endsP (l : List R) (o : List Int) : List Int := endL l o (List.replicate l.length 0) 0
omit hn in
theorem ends_loopP (o : List Int) (hin : InN l.length o) (hol : o.length ≤ 5) : ∀ (xs p e : List Int) (d : Int), o = p ++ xs → e.length = l.length → 0 ≤ d → d ≤ 9 * (p.length : Int) →
    Ev (fun k => impl_endsOf.l0 k l e d o (o.length : Int) (p.length : Int)) (endL l xs e d) := by
  intro xs
  induction xs with
  | nil =>
    intro p e d hp he _ _
    have ee : p = o := by rw [hp]; simp
    refine Ev.step (fun k => by rw [impl_endsOf.l0]) ?_
    exact ev_neg (by rw [ee]; omega) (Ev.now _)
  | cons x xs ih =>
    intro p e d hp he hd0 hd1
    have hpl : (p.length : Int) + (xs.length + 1) = o.length := by rw [hp]; simp
    have hx : rd o (p.length : Int) = x := by rw [hp]; exact rd_mid p x xs
    have hw : wrap64 ((p.length : Int) + 1) = ((p ++ [x]).length : Int) := wrap_next p x (by omega)
    have hxi := hin x (by rw [hp]; simp)
    have hfx := fine_at l hf x hxi.1 hxi.2
    have hw2 : wrap64 (d + (rd_T55 l x).f1) = d + dyR l x := wrap_small (show -9223372036854775808 ≤ d + dyR l x by omega) (show d + dyR l x ≤ 9223372036854775807 by omega)
    refine Ev.step (fun k => by rw [impl_endsOf.l0]) (ev_pos (by omega) (ev_pos (by omega) (ev_pos (by omega) ?_)))
    rw [hx, hw, hw2]
    refine ev_pos hxi.1 (ev_pos hxi.2 (ev_pos (by omega) ?_))
    have := ih (p ++ [x]) (e.set x.toNat (d + dyR l x)) (d + dyR l x) (by rw [hp]; simp) (by rw [List.length_set]; exact he) (by omega) (by rw [List.length_append, List.length_singleton]; omega)
    rw [endL]
    exact this
theorem ends_evP (o : List Int) (hin : InN l.length o) (hol : o.length ≤ 5) : Ev (fun k => impl_endsOf.f k l o) (endsP l o) := by
  unfold impl_endsOf.f
  exact ev_pos (by omega) (ev_pos (by omega) (ends_loopP l hf o hin hol o [] _ 0 rfl (by simp) (by omega) (by simp)))
end
/-- A plan: each renewal once. -/
abbrev PlanP (n : Nat) (o : List Int) : Prop := o.Perm (iotaL n)
theorem iota_mem (n : Nat) (x : Int) : x ∈ iotaL n ↔ 0 ≤ x ∧ x < (n : Int) := by
  unfold iotaL
  rw [List.mem_map]
  constructor
  · rintro ⟨i, hi, rfl⟩
    have := List.mem_range.1 hi
    omega
  · rintro ⟨h0, h1⟩
    exact ⟨x.toNat, List.mem_range.2 (by omega), by omega⟩
theorem iota_nodup (n : Nat) : (iotaL n).Nodup := by
  unfold iotaL
  refine List.Pairwise.map _ ?_ (List.nodup_range (n := n))
  intro a b h e
  exact h (by omega)
theorem plan_in {n : Nat} {o : List Int} (h : PlanP n o) : InN n o := fun x hx => (iota_mem n x).1 (h.mem_iff.1 hx)
theorem plan_has {n : Nat} {o : List Int} (h : PlanP n o) (x : Int) (h0 : 0 ≤ x) (h1 : x < (n : Int)) : x ∈ o := h.mem_iff.2 ((iota_mem n x).2 ⟨h0, h1⟩)
theorem plan_len {n : Nat} {o : List Int} (h : PlanP n o) : o.length = n := by rw [h.length_eq, iotaL_length]
theorem plan_nodup {n : Nat} {o : List Int} (h : PlanP n o) : o.Nodup := (h.nodup_iff).2 (iota_nodup n)
/-- Numbers below n, no two alike, are at most n. -/
theorem few_below : ∀ (n : Nat) (o : List Int), o.Nodup → InN n o → o.length ≤ n := by
  intro n
  induction n with
  | zero =>
    intro o _ h
    cases o with
    | nil => exact Nat.le_refl _
    | cons x o => have := h x (List.mem_cons_self ..); omega
  | succ n ih =>
    intro o hnd h
    by_cases hx : (n : Int) ∈ o
    · have := ih (o.erase (n : Int)) (hnd.erase _) (fun y hy => by
        have h1 := h y (List.mem_of_mem_erase hy)
        have h2 := (hnd.mem_erase_iff.1 hy).1
        omega)
      rw [List.length_erase_of_mem hx] at this
      omega
    · have := ih o hnd (fun y hy => by
        have h1 := h y hy
        have : y ≠ (n : Int) := fun e => hx (e ▸ hy)
        omega)
      omega
theorem plan_of : ∀ (n : Nat) (o : List Int), o.Nodup → InN n o → o.length = n → PlanP n o := by
  intro n
  induction n with
  | zero => intro o _ _ hl; rw [List.length_eq_zero_iff.1 hl]; exact List.Perm.refl _
  | succ n ih =>
    intro o hnd h hl
    have hx : (n : Int) ∈ o := Classical.byContradiction fun hx => by
      have := few_below n o hnd (fun y hy => by
        have h1 := h y hy
        have : y ≠ (n : Int) := fun e => hx (e ▸ hy)
        omega)
      omega
    have h1 := ih (o.erase (n : Int)) (hnd.erase _) (fun y hy => by
        have h1 := h y (List.mem_of_mem_erase hy)
        have h2 := (hnd.mem_erase_iff.1 hy).1
        omega) (by rw [List.length_erase_of_mem hx]; omega)
    show o.Perm _
    rw [iotaL_succ]
    exact (List.perm_cons_erase hx).trans ((List.Perm.cons _ h1).trans (List.perm_append_singleton _ _).symm)
section
variable (l : List R) (hn : l.length ≤ 5) (hf : ∀ x ∈ l, fineR x)
theorem ends_rdP (o : List Int) (h : PlanP l.length o) (x : Int) (h0 : 0 ≤ x) (h1 : x < (l.length : Int)) : rd (endsP l o) x = timeP l o x := by
  have := (endL_rd l o (List.replicate l.length 0) 0 (plan_nodup h) (by rw [List.length_replicate]; exact plan_in h)).1 x (plan_has h x h0 h1)
  rw [this]
  omega
include hn hf
omit hn in
theorem time_bound (o : List Int) (h : InN l.length o) (x : Int) : 0 ≤ timeP l o x ∧ timeP l o x ≤ 9 * (o.length : Int) := by
  induction o with
  | nil => exact ⟨Int.le_refl _, by show (0 : Int) ≤ 9 * ((0 : Nat) : Int); simp⟩
  | cons y o ih =>
    have hy := h y (List.mem_cons_self ..)
    have hfy := fine_at l hf y hy.1 hy.2
    obtain ⟨h1, h2⟩ := ih (fun z hz => h z (List.mem_cons_of_mem _ hz))
    rw [timeP, List.length_cons]
    split <;> omega
abbrev lateP (l : List R) (o : List Int) (x : Int) : Int := timeP l o x - duR l x
abbrev mostP (l : List R) (o : List Int) : Int := ((iotaL l.length).map (lateP l o)).foldl mx 0
omit hn in
/-- The order by dues has the least lateness. -/
theorem due_least (p o : List Int) (hp : PlanP l.length p) (ho : PlanP l.length o) (hs : p.Pairwise (fun a b => duR l a ≤ duR l b)) : mostP l p ≤ mostP l o := by
  obtain ⟨g0, g⟩ := foldmx_ge ((iotaL l.length).map (lateP l o)) 0
  refine foldmx_le _ _ _ g0 (fun v hv => ?_)
  obtain ⟨x, hx, rfl⟩ := List.mem_map.1 hv
  obtain ⟨x0, x1⟩ := (iota_mem _ _).1 hx
  obtain ⟨a, b, hab⟩ := List.append_of_mem (plan_has hp x x0 x1)
  have hnp := plan_nodup hp
  rw [hab] at hnp hs
  have hxa : x ∉ a := fun h => (List.nodup_append.1 hnp).2.2 x h x (List.mem_cons_self ..) rfl
  have hnd : (a ++ [x]).Nodup := by
    rw [List.append_cons] at hnp
    exact (List.nodup_append.1 hnp).1
  have hdue : ∀ y ∈ a ++ [x], duR l y ≤ duR l x := fun y hy => by
    rcases List.mem_append.1 hy with hy | hy
    · exact (List.pairwise_append.1 hs).2.2 y hy x (List.mem_cons_self ..)
    · rw [List.mem_singleton.1 hy]; exact Int.le_refl _
  have hall : ∀ y ∈ a ++ [x], y ∈ o := fun y hy => by
    have hyp : y ∈ p := by
      rw [hab, List.append_cons]
      exact List.mem_append_left _ hy
    have := plan_in hp y hyp
    exact plan_has ho y this.1 this.2
  -- the last of them in the other plan
  have last : ∀ (q P : List Int), (∃ y ∈ P, y ∈ q) → ∃ c z d, q = c ++ z :: d ∧ z ∈ P ∧ ∀ y ∈ P, y ∉ d := by
    intro q
    induction q with
    | nil => rintro P ⟨y, _, hy⟩; simp at hy
    | cons y q ih =>
      intro P hex
      by_cases h : ∃ z ∈ P, z ∈ q
      · obtain ⟨c, z, d, h1, h2, h3⟩ := ih P h
        exact ⟨y :: c, z, d, by rw [h1]; rfl, h2, h3⟩
      · obtain ⟨z, hz, hzq⟩ := hex
        rcases List.mem_cons.1 hzq with rfl | hzq
        · exact ⟨[], z, q, rfl, hz, fun w hw hwq => h ⟨w, hw, hwq⟩⟩
        · exact absurd ⟨z, hz, hzq⟩ h
  obtain ⟨c, z, d, ho2, hz, hd⟩ := last o (a ++ [x]) ⟨x, by simp, plan_has ho x x0 x1⟩
  have hno := plan_nodup ho
  rw [ho2] at hno
  have hzc : z ∉ c := fun h => (List.nodup_append.1 hno).2.2 z h z (List.mem_cons_self ..) rfl
  have hsub : ∀ y ∈ a ++ [x], y ∈ c ++ [z] := fun y hy => by
    have h1 := hall y hy
    rw [ho2] at h1
    rcases List.mem_append.1 h1 with h1 | h1
    · exact List.mem_append_left _ h1
    · rcases List.mem_cons.1 h1 with rfl | h1
      · simp
      · exact absurd h1 (hd y hy)
  have hzi := plan_in ho z (by rw [ho2]; simp)
  have hlz := g _ (List.mem_map.2 ⟨z, (iota_mem _ _).2 hzi, rfl⟩)
  have e1 : timeP l p x = sumP ((a ++ [x]).map (dyR l)) := by rw [hab]; exact timeP_mid l a x b hxa
  have e2 : timeP l o z = sumP ((c ++ [z]).map (dyR l)) := by rw [ho2]; exact timeP_mid l c z d hzc
  have h3 : sumP ((a ++ [x]).map (dyR l)) ≤ sumP ((c ++ [z]).map (dyR l)) := by
    have hin : ∀ y ∈ a ++ [x], 0 ≤ y := fun y hy => (plan_in ho y (hall y hy)).1
    have hin2 : ∀ y ∈ c ++ [z], 0 ≤ y := fun y hy => (plan_in ho y (by
      rw [ho2, List.append_cons]
      exact List.mem_append_left _ hy)).1
    have em : ∀ s : List Int, (∀ y ∈ s, 0 ≤ y) → s.map (dyR l) = s.map (fun y => if 0 ≤ y then dyR l y else 0) := fun s hs => List.map_congr_left (fun y hy => by rw [if_pos (hs y hy)])
    rw [em _ hin, em _ hin2]
    exact sumP_sub _ (fun y => by
      split
      · rename_i hy; exact dy_non l hf y hy
      · exact Int.le_refl _) _ _ hnd hsub
  have h4 := hdue z hz
  have e3 : lateP l p x = timeP l p x - duR l x := rfl
  have e4 : lateP l o z = timeP l o z - duR l z := rfl
  show lateP l p x ≤ mostP l o
  have h5 : lateP l o z ≤ mostP l o := hlz
  rw [e3, e1]
  rw [e4, e2] at h5
  omega
end
/-! ### the order by dues is a plan, and sorted -/
theorem putD_perm (l : List R) (x : Int) (o : List Int) : (putD l x o).Perm (x :: o) := by
  unfold putD
  refine List.perm_middle.trans ?_
  rw [List.take_append_drop]
theorem dueFrom_plan (l : List R) : ∀ (m i : Nat) (o : List Int), PlanP i o → PlanP (i + m) (dueFrom l m i o) := by
  intro m
  induction m with
  | zero => intro i o h; exact h
  | succ m ih =>
    intro i o h
    rw [dueFrom, show i + (m + 1) = (i + 1) + m by omega]
    refine ih (i + 1) _ ?_
    show (putD l (i : Int) o).Perm _
    rw [iotaL_succ]
    exact (putD_perm l _ o).trans ((List.Perm.cons _ h).trans (List.perm_append_singleton _ _).symm)
theorem posD_gt (l : List R) (o : List Int) (x : Int) : ∀ (d j : Nat), posD l o x d ≤ j → j < d → duR l (rd o (j : Int)) > duR l x := by
  intro d
  induction d with
  | zero => intro j _ h; omega
  | succ d ih =>
    intro j h1 h2
    rw [posD] at h1
    by_cases h : (rd_T55 l (rd o (d : Int))).f2 > (rd_T55 l x).f2
    · rw [if_pos h] at h1
      by_cases e : j = d
      · subst e
        exact h
      · exact ih j h1 (by omega)
    · rw [if_neg h] at h1
      omega
theorem posD_at (l : List R) (o : List Int) (x : Int) : ∀ (d k : Nat), posD l o x d = k + 1 → duR l (rd o (k : Int)) ≤ duR l x := by
  intro d
  induction d with
  | zero => intro k h; simp [posD] at h
  | succ d ih =>
    intro k h
    rw [posD] at h
    by_cases h1 : (rd_T55 l (rd o (d : Int))).f2 > (rd_T55 l x).f2
    · rw [if_pos h1] at h
      exact ih k h
    · rw [if_neg h1] at h
      have : k = d := by omega
      subst this
      unfold duR
      omega
theorem putD_sorted (l : List R) (x : Int) (o : List Int) (h : o.Pairwise (fun a b => duR l a ≤ duR l b)) : (putD l x o).Pairwise (fun a b => duR l a ≤ duR l b) := by
  have hle := posD_le l o x o.length
  have htd : o.take (posD l o x o.length) ++ o.drop (posD l o x o.length) = o := List.take_append_drop _ _
  have h2 := h
  rw [← htd, List.pairwise_append] at h2
  obtain ⟨h3, h4, h5⟩ := h2
  have ha : ∀ y ∈ o.take (posD l o x o.length), duR l y ≤ duR l x := by
    intro y hy
    cases hk : posD l o x o.length with
    | zero => rw [hk] at hy; simp at hy
    | succ k =>
      have h6 := posD_at l o x o.length k hk
      have hkl : k < o.length := by omega
      have e : o.take (k + 1) = o.take k ++ [o[k]] := List.take_succ_eq_append_getElem hkl
      have er : rd o (k : Int) = o[k] := by
        unfold rd
        rw [Int.toNat_natCast, List.getD_eq_getElem?_getD, List.getElem?_eq_getElem hkl]
        rfl
      rw [hk, e] at hy h3
      rw [er] at h6
      rcases List.mem_append.1 hy with hy | hy
      · have := (List.pairwise_append.1 h3).2.2 y hy o[k] (List.mem_singleton.2 rfl)
        omega
      · rw [List.mem_singleton.1 hy]
        exact h6
  have hb : ∀ y ∈ o.drop (posD l o x o.length), duR l x ≤ duR l y := by
    intro y hy
    obtain ⟨j, hj, e⟩ := List.mem_iff_getElem.1 hy
    rw [List.length_drop] at hj
    rw [List.getElem_drop] at e
    have h6 := posD_gt l o x o.length (posD l o x o.length + j) (by omega) (by omega)
    have er : rd o ((posD l o x o.length + j : Nat) : Int) = y := by
      unfold rd
      rw [Int.toNat_natCast, List.getD_eq_getElem?_getD, List.getElem?_eq_getElem (by omega)]
      exact e
    rw [er] at h6
    omega
  unfold putD
  rw [List.pairwise_append, List.pairwise_cons]
  refine ⟨h3, ⟨hb, h4⟩, fun a hay b hbm => ?_⟩
  rcases List.mem_cons.1 hbm with rfl | hbm
  · exact ha a hay
  · exact h5 a hay b hbm
theorem dueFrom_sorted (l : List R) : ∀ (m i : Nat) (o : List Int), o.Pairwise (fun a b => duR l a ≤ duR l b) → (dueFrom l m i o).Pairwise (fun a b => duR l a ≤ duR l b) := by
  intro m
  induction m with
  | zero => intro i o h; exact h
  | succ m ih => intro i o h; rw [dueFrom]; exact ih _ _ (putD_sorted l _ o h)
end Go.Proofs.YtkegmjebkikniaaB
end
