/- Texts of this claim, packed: Base, Names, TyGear, GearV, TyCheck, CheckV, GearCode, GearWear, GearWearOn, GearWornOn, GearEnd. -/
import Derived.Lib.Bytes
import Derived.Test.YtfenjlkopofopaaZFnWear8
section
/- Plain words for the laws' statements over lists: an answer with enough rounds (Ev), step by step; one loop's round over a list that is told as what lies behind and what lies ahead. -/
namespace Go.Proofs.YtfenjlkopofopaaB
open Go.RowKit Go.Proofs.YtfenjlkopofopaaW.PrintWords Go.Proofs.YtfenjlkopofopaaW.PrintLast

theorem ev_pos {α : Type} {c : Prop} [Decidable c] {A B : Nat → Option α} {r : α} (h : c) (e : Ev A r) : Ev (fun k => if c then A k else B k) r := by
  simpa only [if_pos h] using e
theorem ev_neg {α : Type} {c : Prop} [Decidable c] {A B : Nat → Option α} {r : α} (h : ¬ c) (e : Ev B r) : Ev (fun k => if c then A k else B k) r := by
  simpa only [if_neg h] using e
theorem ev_ite {α : Type} {c : Prop} [Decidable c] {A B : Nat → Option α} {r : α} (h : c → Ev A r) (h2 : ¬ c → Ev B r) : Ev (fun k => if c then A k else B k) r := by
  by_cases hc : c
  · exact ev_pos hc (h hc)
  · exact ev_neg hc (h2 hc)
theorem ev_bind0 {α β : Type} {g : Option α} {f : Nat → α → Option β} {a : α} {r : β} (h : g = some a) (k : Ev (fun n => f n a) r) : Ev (fun n => g.bind (f n)) r := by
  subst h
  exact k
theorem ev_of {α : Type} {g : Nat → Option α} {a r : α} (h : Ev g a) (e : a = r) : Ev g r := e ▸ h

theorem wrap_small {i : Int} (h0 : -9223372036854775808 ≤ i) (h1 : i ≤ 9223372036854775807) : wrap64 i = i := by
  unfold wrap64
  omega
theorem wrap_next {α : Type} (p : List α) (x : α) (h : p.length ≤ 4611686018427387904) : wrap64 ((p.length : Int) + 1) = ((p ++ [x]).length : Int) := by
  rw [wrap_small (by omega) (by omega), List.length_append]
  simp
theorem getD_at {α : Type} (p : List α) (x : α) (xs : List α) (z : α) : (p ++ x :: xs).getD ((p.length : Int)).toNat z = x := by
  simp
theorem rd_mid (p : List Int) (x : Int) (xs : List Int) : rd (p ++ x :: xs) (p.length : Int) = x := by
  unfold rd
  exact getD_at p x xs 0
theorem rdOf_mid {α : Type} (d : α) (p : List α) (x : α) (xs : List α) : rdOf d (p ++ x :: xs) (p.length : Int) = x := by
  unfold rdOf
  exact getD_at p x xs d
theorem push_mid {α : Type} (p : List α) (x : α) (xs : List α) : p ++ x :: xs = (p ++ [x]) ++ xs := by simp
theorem lt_mid {α : Type} (p : List α) (x : α) (xs : List α) : (p.length : Int) < ((p ++ x :: xs).length : Int) := by
  simp
  omega
theorem not_lt_end {α : Type} (p : List α) : ¬ (p.length : Int) < ((p ++ []).length : Int) := by simp

theorem bt_rd (s : ByteArray) (i : Int) : bt s i = rd (bytesOf s) i := by
  unfold bt rd bytesOf
  by_cases h : i.toNat < s.size
  · rw [dif_pos h]
    have h2 : i.toNat < s.data.toList.length := by rw [data_length]; exact h
    rw [List.getD_eq_getElem?_getD, List.getElem?_map, List.getElem?_eq_getElem h2]
    rfl
  · rw [dif_neg h]
    have h2 : ¬ i.toNat < s.data.toList.length := by rw [data_length]; exact h
    rw [List.getD_eq_getElem?_getD, List.getElem?_map, List.getElem?_eq_none (by omega)]
    rfl
theorem bytes_length (s : ByteArray) : (bytesOf s).length = s.size := by
  unfold bytesOf
  rw [List.length_map, data_length]
theorem bytes_nil (s : ByteArray) : s.toList = [] ↔ bytesOf s = [] := by
  unfold bytesOf
  rw [Lib.toList_data]
  simp
theorem toList_inj {a b : ByteArray} (h : a.toList = b.toList) : a = b := by
  rw [Lib.toList_data, Lib.toList_data] at h
  cases a
  cases b
  congr
  exact Array.toList_inj.1 h
/-- A number of 64 bits. -/
def I64 (n : Int) : Prop := -9223372036854775808 ≤ n ∧ n ≤ 9223372036854775807
/-- Two readings come to one answer, of which P holds. -/
def Both {α : Type} (P : α → Prop) (A B : Nat → Option α) : Prop := ∃ r, Ev A r ∧ Ev B r ∧ P r
section
variable {α β : Type} {P : α → Prop} {Q : β → Prop} {A B A2 B2 C : Nat → Option α}
theorem both_now (r : α) (h : P r) : Both P (fun _ => some r) (fun _ => some r) := ⟨r, Ev.now r, Ev.now r, h⟩
theorem both_step (hA : ∀ k, A (k + 1) = A2 k) (hB : ∀ k, B (k + 1) = B2 k) (h : Both P A2 B2) : Both P A B := by
  obtain ⟨r, h1, h2, hp⟩ := h
  exact ⟨r, Ev.step hA h1, Ev.step hB h2, hp⟩
theorem both_stepL (hA : ∀ k, A (k + 1) = A2 k) (h : Both P A2 B) : Both P A B := by
  obtain ⟨r, h1, h2, hp⟩ := h
  exact ⟨r, Ev.step hA h1, h2, hp⟩
theorem both_ite {c : Prop} [Decidable c] (h : c → Both P A A2) (h2 : ¬ c → Both P B B2) : Both P (fun k => if c then A k else B k) (fun k => if c then A2 k else B2 k) := by
  by_cases hc : c
  · obtain ⟨r, h3, h4, hp⟩ := h hc
    exact ⟨r, ev_pos hc h3, ev_pos hc h4, hp⟩
  · obtain ⟨r, h3, h4, hp⟩ := h2 hc
    exact ⟨r, ev_neg hc h3, ev_neg hc h4, hp⟩
theorem both_posL {c : Prop} [Decidable c] (hc : c) (h : Both P A C) : Both P (fun k => if c then A k else B k) C := by
  obtain ⟨r, h3, h4, hp⟩ := h
  exact ⟨r, ev_pos hc h3, h4, hp⟩
theorem both_negL {c : Prop} [Decidable c] (hc : ¬ c) (h : Both P B C) : Both P (fun k => if c then A k else B k) C := by
  obtain ⟨r, h3, h4, hp⟩ := h
  exact ⟨r, ev_neg hc h3, h4, hp⟩
theorem both_posR {c : Prop} [Decidable c] (hc : c) (h : Both P C A) : Both P C (fun k => if c then A k else B k) := by
  obtain ⟨r, h3, h4, hp⟩ := h
  exact ⟨r, h3, ev_pos hc h4, hp⟩
theorem both_negR {c : Prop} [Decidable c] (hc : ¬ c) (h : Both P C B) : Both P C (fun k => if c then A k else B k) := by
  obtain ⟨r, h3, h4, hp⟩ := h
  exact ⟨r, h3, ev_neg hc h4, hp⟩
theorem both_bind {F G : Nat → α → Option β} (h : Both P A B) (h2 : ∀ r, P r → Both Q (fun k => F k r) (fun k => G k r)) : Both Q (fun k => (A k).bind (F k)) (fun k => (B k).bind (G k)) := by
  obtain ⟨r, h3, h4, hp⟩ := h
  obtain ⟨q, h5, h6, hq⟩ := h2 r hp
  exact ⟨q, Ev.bind h3 h5, Ev.bind h4 h6, hq⟩
theorem both_bindL {D : Nat → Option β} {F : Nat → α → Option β} {a : α} (h : Ev A a) (h2 : Both Q (fun k => F k a) D) : Both Q (fun k => (A k).bind (F k)) D := by
  obtain ⟨r, h3, h4, hq⟩ := h2
  exact ⟨r, Ev.bind h h3, h4, hq⟩
theorem both_bindR {D : Nat → Option β} {F : Nat → α → Option β} {a : α} (h : Ev A a) (h2 : Both Q D (fun k => F k a)) : Both Q D (fun k => (A k).bind (F k)) := by
  obtain ⟨r, h3, h4, hq⟩ := h2
  exact ⟨r, h3, Ev.bind h h4, hq⟩
theorem both_bind0L {D : Nat → Option β} {F : Nat → α → Option β} {g : Option α} {a : α} (h : g = some a) (h2 : Both Q (fun k => F k a) D) : Both Q (fun k => g.bind (F k)) D := by
  subst h
  exact h2
theorem both_bind0R {D : Nat → Option β} {F : Nat → α → Option β} {g : Option α} {a : α} (h : g = some a) (h2 : Both Q D (fun k => F k a)) : Both Q D (fun k => g.bind (F k)) := by
  subst h
  exact h2
theorem both_of {r : α} (h : Ev A r) (h2 : Ev B r) (hp : P r) : Both P A B := ⟨r, h, h2, hp⟩
theorem both_imp {P2 : α → Prop} (h : Both P A B) (hi : ∀ r, P r → P2 r) : Both P2 A B := by
  obtain ⟨r, h1, h2, hp⟩ := h
  exact ⟨r, h1, h2, hi r hp⟩
end

theorem max_of {s : ByteArray} (h : s.size ≤ 1048576) : s.size ≤ maxLen := by
  unfold maxLen
  omega


/-- A name, as the document has it, over its bytes. -/
def smallB (c : Int) : Bool := decide (97 ≤ c) && decide (c ≤ 122)
def partB (c : Int) : Bool := smallB c || (decide (48 ≤ c) && decide (c ≤ 57)) || decide (c = 45)
def nameL (l : List Int) : Bool := match l with
  | [] => false
  | c :: cs => decide ((c :: cs).length ≤ 12) && smallB c && (c :: cs).all partB
def nameB (s : ByteArray) : Bool := nameL (bytesOf s)
end Go.Proofs.YtfenjlkopofopaaB
end

section
/- IsName, within and their kin: the reference's and the program's functions, as one plain function of the bytes. -/
namespace Go.Proofs.YtfenjlkopofopaaB
open Go.RowKit Go.Proofs.YtfenjlkopofopaaW.PrintWords Go.Proofs.YtfenjlkopofopaaW.PrintLast Go.Proofs.Ytfenjlkopofopaa.P

theorem in_some (a b c : Int) : spec_l00In.f a b c = some (decide (b ≤ a) && decide (a ≤ c)) := by
  unfold spec_l00In.f
  by_cases h : a ≥ b
  · rw [if_pos h, decide_eq_true (show b ≤ a from h)]
    simp
  · rw [if_neg h, decide_eq_false (show ¬ b ≤ a from h)]
    simp
theorem within_some (a b c : Int) : impl_within.f a b c = some (decide (b ≤ a) && decide (a ≤ c)) := by
  unfold impl_within.f
  by_cases h : a ≥ b
  · rw [if_pos h, decide_eq_true (show b ≤ a from h)]
    simp
  · rw [if_neg h, decide_eq_false (show ¬ b ≤ a from h)]
    simp
theorem small_some (a : Int) : spec_l01Small.f a = some (smallB a) := by
  unfold spec_l01Small.f smallB
  by_cases h : a ≥ 97
  · rw [if_pos h, decide_eq_true (show 97 ≤ a from h)]
    simp
  · rw [if_neg h, decide_eq_false (show ¬ 97 ≤ a from h)]
    simp
theorem digit_some (a : Int) : spec_l01Digit.f a = some (decide (48 ≤ a) && decide (a ≤ 57)) := by
  unfold spec_l01Digit.f
  by_cases h : a ≥ 48
  · rw [if_pos h, decide_eq_true (show 48 ≤ a from h)]
    simp
  · rw [if_neg h, decide_eq_false (show ¬ 48 ≤ a from h)]
    simp

theorem spec_name_loop (s : ByteArray) (hs : s.size ≤ 1048576) : ∀ (xs p : List Int), bytesOf s = p ++ xs → Ev (fun k => spec_IsName.l0 k s (p.length : Int)) (xs.all partB) := by
  intro xs
  induction xs with
  | nil =>
    intro p hp
    have hz : (s.size : Int) = p.length := by rw [← bytes_length, hp]; simp
    refine Ev.step (fun k => by rw [spec_IsName.l0]) ?_
    exact ev_neg (by omega) (Ev.now _)
  | cons x xs ih =>
    intro p hp
    have hz : (s.size : Int) = p.length + (xs.length + 1) := by rw [← bytes_length, hp]; simp
    have hb : bt s (p.length : Int) = x := by rw [bt_rd, hp]; exact rd_mid p x xs
    have hw : wrap64 ((p.length : Int) + 1) = ((p ++ [x]).length : Int) := wrap_next p x (by omega)
    have hi := ih (p ++ [x]) (by rw [hp]; simp)
    refine Ev.step (fun k => by rw [spec_IsName.l0]) ?_
    refine ev_pos (by omega) (ev_pos (by omega) ?_)
    rw [hb, hw]
    refine ev_bind0 (small_some x) ?_
    refine ev_ite (fun h => ?_) (fun h => ?_)
    · refine ev_of hi ?_
      simp [partB, h]
    · refine ev_bind0 (digit_some x) (ev_ite (fun h2 => ?_) (fun h2 => ?_))
      · refine ev_of hi ?_
        simp [partB, h2]
      · refine ev_ite (fun h3 => ?_) (fun h3 => ?_)
        · refine ev_of hi ?_
          simp [partB, h3]
        · refine ev_of (Ev.now _) ?_
          simp only [Bool.not_eq_true] at h h2
          simp [partB, h, h2, h3]

theorem impl_name_loop (s : ByteArray) (hs : s.size ≤ 1048576) : ∀ (xs p : List Int), bytesOf s = p ++ xs → Ev (fun k => impl_IsName.l0 k s (p.length : Int)) (xs.all partB) := by
  intro xs
  induction xs with
  | nil =>
    intro p hp
    have hz : (s.size : Int) = p.length := by rw [← bytes_length, hp]; simp
    refine Ev.step (fun k => by rw [impl_IsName.l0]) ?_
    exact ev_neg (by omega) (Ev.now _)
  | cons x xs ih =>
    intro p hp
    have hz : (s.size : Int) = p.length + (xs.length + 1) := by rw [← bytes_length, hp]; simp
    have hb : bt s (p.length : Int) = x := by rw [bt_rd, hp]; exact rd_mid p x xs
    have hw : wrap64 ((p.length : Int) + 1) = ((p ++ [x]).length : Int) := wrap_next p x (by omega)
    have hi := ih (p ++ [x]) (by rw [hp]; simp)
    have hy : partB x = true → Ev (fun k => impl_IsName.l0 k s ((p ++ [x]).length : Int)) ((x :: xs).all partB) := fun h => ev_of hi (by simp [h])
    have hn : partB x = false → Ev (fun _ => some false) ((x :: xs).all partB) := fun h => ev_of (Ev.now _) (by simp [h])
    refine Ev.step (fun k => by rw [impl_IsName.l0]) ?_
    refine ev_pos (by omega) (ev_pos (by omega) ?_)
    rw [hb, hw]
    have tail : (¬ smallB x = true) → Ev (fun k => if x < 48 then if x = 45 then impl_IsName.l0 k s ((p ++ [x]).length : Int) else some false else if x > 57 then if x = 45 then impl_IsName.l0 k s ((p ++ [x]).length : Int) else some false else impl_IsName.l0 k s ((p ++ [x]).length : Int)) ((x :: xs).all partB) := by
      intro hsm
      refine ev_ite (fun h => ?_) (fun h => ?_)
      · refine ev_ite (fun h2 => hy ?_) (fun h2 => hn ?_)
        · simp [partB, h2]
        · simp only [Bool.not_eq_true] at hsm
          simp [partB, hsm, h2]; omega
      · refine ev_ite (fun h2 => ?_) (fun h2 => hy ?_)
        · refine ev_ite (fun h3 => hy ?_) (fun h3 => hn ?_)
          · simp [partB, h3]
          · simp only [Bool.not_eq_true] at hsm
            simp [partB, hsm, h3]; omega
        · simp [partB]; omega
    refine ev_ite (fun h => tail (by simp [smallB]; omega)) (fun h => ?_)
    refine ev_ite (fun h2 => tail (by simp [smallB]; omega)) (fun h2 => hy ?_)
    simp [partB, smallB]; omega

theorem spec_name (s : ByteArray) (_hs : s.size ≤ maxLen) : Ev (fun k => spec_IsName.f k s) (nameB s) := by
  have hl := bytes_length s
  unfold spec_IsName.f nameB nameL
  refine ev_ite (fun h => ?_) (fun h => ?_)
  · rw [bytes_nil] at h
    rw [h]
    refine Ev.step (fun k => by rw [spec_IsName.j0]) ?_
    exact ev_pos rfl (Ev.now _)
  · rw [bytes_nil] at h
    cases hb : bytesOf s with
    | nil => exact absurd hb h
    | cons c cs =>
      rw [hb] at hl
      have hl2 : (s.size : Int) = cs.length + 1 := by rw [← hl]; simp
      have hc : bt s 0 = c := by rw [bt_rd, hb]; rfl
      refine ev_ite (fun h1 => ?_) (fun h1 => ?_)
      · refine Ev.step (fun k => by rw [spec_IsName.j0]) ?_
        refine ev_pos rfl (ev_of (Ev.now _) ?_)
        simp; omega
      · refine ev_pos (by omega) ?_
        rw [hc]
        refine ev_bind0 (small_some c) ?_
        refine Ev.step (fun k => by rw [spec_IsName.j0]) ?_
        refine ev_ite (fun h2 => ?_) (fun h2 => ?_)
        · refine ev_of (Ev.now _) ?_
          simp at h2
          simp [h2]
        · simp at h2
          refine ev_of (spec_name_loop s (by omega) (c :: cs) [] hb) ?_
          simp [h2]; omega
theorem impl_name (s : ByteArray) (_hs : s.size ≤ maxLen) : Ev (fun k => impl_IsName.f k s) (nameB s) := by
  have hl := bytes_length s
  unfold impl_IsName.f nameB nameL
  have no : ∀ v : Bool, v = false → Ev (fun k => impl_IsName.j0 k s true) v := fun v h => Ev.step (fun k => by rw [impl_IsName.j0]) (ev_pos rfl (ev_of (Ev.now _) h.symm))
  cases hb : bytesOf s with
  | nil =>
    rw [hb] at hl
    exact ev_pos (by simp at hl; omega) (no _ rfl)
  | cons c cs =>
    rw [hb] at hl
    have hl2 : (s.size : Int) = cs.length + 1 := by rw [← hl]; simp
    have hc : bt s 0 = c := by rw [bt_rd, hb]; rfl
    refine ev_neg (by omega) (ev_ite (fun h1 => no _ ?_) (fun h1 => ?_))
    · simp; omega
    · refine ev_pos (by omega) ?_
      rw [hc]
      refine ev_ite (fun h2 => no _ ?_) (fun h2 => ?_)
      · simp [smallB]; omega
      · refine Ev.step (fun k => by rw [impl_IsName.j0]) ?_
        refine ev_ite (fun h3 => ?_) (fun h3 => ?_)
        · refine ev_of (Ev.now _) ?_
          simp at h3
          simp [smallB]; omega
        · simp at h3
          refine ev_of (impl_name_loop s (by omega) (c :: cs) [] hb) ?_
          simp [smallB]; omega
end Go.Proofs.YtfenjlkopofopaaB
end

section
/- Gear: what is asked of one. -/
namespace Go.Proofs.YtfenjlkopofopaaB
open Go.RowKit Go.Proofs.YtfenjlkopofopaaW.PrintWords Go.Proofs.YtfenjlkopofopaaW.PrintLast Go.Proofs.Ytfenjlkopofopaa.P

theorem rd72_mid (p : List S72) (x : S72) (xs : List S72) : rd_T72 (p ++ x :: xs) (p.length : Int) = x := by
  unfold rd_T72
  exact getD_at p x xs _
def GoodGear (x : S72) : Prop := x.f0.size ≤ 1048576 ∧ I64 x.f1 ∧ I64 x.f2 ∧ I64 x.f3
end Go.Proofs.YtfenjlkopofopaaB
end

section
/- Gear: where a name is found; whether a part, and a list of them, is valid. -/
namespace Go.Proofs.YtfenjlkopofopaaB
open Go.RowKit Go.Proofs.YtfenjlkopofopaaW.PrintWords Go.Proofs.YtfenjlkopofopaaW.PrintLast Go.Proofs.Ytfenjlkopofopaa.P

abbrev G := S72
abbrev GoodGears (l : List G) : Prop := l.length ≤ 1048576 ∧ ∀ x ∈ l, GoodGear x
abbrev goG := impl_gearNamed.go
theorem goG_nil (a : ByteArray) (i : Int) : goG [] a i = -1 := rfl
theorem goG_cons (x : G) (xs : List G) (a : ByteArray) (i : Int) : goG (x :: xs) a i = if x.f0.toList = a.toList then i else goG xs a (i + 1) := rfl
theorem goG_range : ∀ (xs : List G) (a : ByteArray) (i : Int), goG xs a i = -1 ∨ (i ≤ goG xs a i ∧ goG xs a i < i + xs.length) := by
  intro xs
  induction xs with
  | nil => intro a i; exact .inl rfl
  | cons x xs ih =>
    intro a i
    rw [goG_cons, List.length_cons]
    have := ih a (i + 1)
    by_cases h : x.f0.toList = a.toList
    · rw [if_pos h]
      omega
    · rw [if_neg h]
      omega
theorem goG_append : ∀ (p q : List G) (a : ByteArray) (i : Int), 0 ≤ i → goG (p ++ q) a i = if goG p a i = -1 then goG q a (i + p.length) else goG p a i := by
  intro p
  induction p with
  | nil => intro q a i _; rw [goG_nil, if_pos rfl]; simp
  | cons x p ih =>
    intro q a i h0
    rw [List.cons_append, goG_cons, goG_cons]
    by_cases h : x.f0.toList = a.toList
    · rw [if_pos h, if_pos h, if_neg (by omega)]
    · rw [if_neg h, if_neg h, ih q a (i + 1) (by omega), List.length_cons]
      have e : i + 1 + (p.length : Int) = i + ((p.length + 1 : Nat) : Int) := by omega
      rw [e]
theorem goG_mid (p xs : List G) (x : G) : goG (p ++ x :: xs) x.f0 0 = (p.length : Int) ↔ goG p x.f0 0 = -1 := by
  rw [goG_append p (x :: xs) x.f0 0 (by omega)]
  have hr := goG_range p x.f0 0
  by_cases h : goG p x.f0 0 = -1
  · rw [if_pos h, goG_cons, if_pos rfl]
    exact ⟨fun _ => h, fun _ => by omega⟩
  · rw [if_neg h]
    exact ⟨fun h2 => by omega, fun h2 => absurd h2 h⟩
theorem find_loop (a : ByteArray) : ∀ (xs p : List G), p.length + xs.length ≤ 1048576 → Ev (fun k => spec_l21Find.l0 k (p ++ xs) a (p.length : Int)) (goG xs a (p.length : Int)) := by
  intro xs
  induction xs with
  | nil =>
    intro p _
    refine Ev.step (fun k => by rw [spec_l21Find.l0]) ?_
    exact ev_neg (not_lt_end p) (Ev.now _)
  | cons x xs ih =>
    intro p hl
    rw [List.length_cons] at hl
    have hw : wrap64 ((p.length : Int) + 1) = ((p ++ [x]).length : Int) := wrap_next p x (by omega)
    have hi := ih (p ++ [x]) (by rw [List.length_append]; simp; omega)
    have hz : ((p ++ [x]).length : Int) = (p.length : Int) + 1 := by simp
    refine Ev.step (fun k => by rw [spec_l21Find.l0]) ?_
    refine ev_pos (lt_mid p x xs) (ev_pos (Int.natCast_nonneg _) ?_)
    rw [rd72_mid, hw, push_mid p x xs]
    refine ev_ite (fun h => ?_) (fun h => ?_)
    · exact ev_of (Ev.now _) (by rw [goG_cons, if_pos h])
    · exact ev_of hi (by rw [goG_cons, if_neg h, hz])
theorem spec_find (l : List G) (a : ByteArray) (h : l.length ≤ 1048576) : Ev (fun k => spec_l21Find.f k l a) (goG l a 0) := by
  unfold spec_l21Find.f
  exact find_loop a l [] (by simp; omega)
theorem impl_find (l : List G) (a : ByteArray) : impl_gearNamed.f l a = some (goG l a 0) := rfl

def gearB (x : G) : Bool := nameB x.f0 && ((decide (0 ≤ x.f1) && decide (x.f1 ≤ 20000)) && ((decide (0 ≤ x.f2) && decide (x.f2 ≤ 1000)) && (decide (1 ≤ x.f3) && decide (x.f3 ≤ 1000000))))
/-- A part's numbers lie within their bounds. -/
def GearIn (x : G) : Prop := 0 ≤ x.f1 ∧ x.f1 ≤ 20000 ∧ 0 ≤ x.f2 ∧ x.f2 ≤ 1000 ∧ 1 ≤ x.f3 ∧ x.f3 ≤ 1000000
theorem gearB_in {x : G} (h : gearB x = true) : GearIn x := by
  simp [gearB] at h
  unfold GearIn
  omega
theorem day_some (a : Int) : spec_l21Day.f a = some (decide (0 ≤ a) && decide (a ≤ 20000)) := by
  unfold spec_l21Day.f
  rw [in_some]
  rfl
theorem spec_gear (x : G) (hs : x.f0.size ≤ 1048576) : Ev (fun k => spec_l21One.f k x.f0 x.f1 x.f2 x.f3) (gearB x) := by
  unfold spec_l21One.f gearB
  refine Ev.bind (spec_name x.f0 (max_of hs)) ?_
  cases nameB x.f0 with
  | false => exact ev_neg (by simp) (Ev.now _)
  | true =>
    refine ev_pos rfl (ev_bind0 (day_some _) ?_)
    cases decide (0 ≤ x.f1) && decide (x.f1 ≤ 20000) with
    | false => exact ev_neg (by simp) (Ev.now _)
    | true =>
      refine ev_pos rfl (ev_bind0 (in_some _ _ _) ?_)
      cases decide (0 ≤ x.f2) && decide (x.f2 ≤ 1000) with
      | false => exact ev_neg (by simp) (Ev.now _)
      | true => exact ev_pos rfl (ev_bind0 (in_some _ _ _) (Ev.now _))
theorem impl_gear (x : G) (hs : x.f0.size ≤ 1048576) : Ev (fun k => impl_validGear.f k x.f0 x.f1 x.f2 x.f3) (gearB x) := by
  unfold impl_validGear.f gearB
  refine Ev.bind (impl_name x.f0 (max_of hs)) ?_
  cases nameB x.f0 with
  | false => exact ev_neg (by simp) (Ev.now _)
  | true =>
    refine ev_pos rfl (ev_bind0 (within_some _ _ _) ?_)
    cases decide (0 ≤ x.f1) && decide (x.f1 ≤ 20000) with
    | false => exact ev_neg (by simp) (Ev.now _)
    | true =>
      refine ev_pos rfl (ev_bind0 (within_some _ _ _) ?_)
      cases decide (0 ≤ x.f2) && decide (x.f2 ≤ 1000) with
      | false => exact ev_neg (by simp) (Ev.now _)
      | true => exact ev_pos rfl (ev_bind0 (within_some _ _ _) (Ev.now _))
def GearsIn (l : List G) : Prop := (l.length : Int) ≤ 40 ∧ ∀ x ∈ l, GearIn x
theorem take_mid {α : Type} (p xs : List α) : (p ++ xs).take ((p.length : Int)).toNat = p := by simp
theorem gear_loop : ∀ (xs p : List G), p.length + xs.length ≤ 1048576 → (∀ x ∈ xs, GoodGear x) → ∃ r, Ev (fun k => spec_l21Ok.l0 k (p ++ xs) (p.length : Int)) r ∧
    (((p ++ xs).length : Int) ≤ 40 → Ev (fun k => impl_ValidGear.l0 k (p ++ xs) (p ++ xs) ((p ++ xs).length : Int) (p.length : Int)) r) ∧ (r = true → ((p ++ xs).length : Int) ≤ 40 ∧ ∀ x ∈ xs, GearIn x) := by
  intro xs
  induction xs with
  | nil =>
    intro p _ _
    refine ⟨decide (((p ++ []).length : Int) ≤ 40), ?_, fun h => ?_, fun h => ⟨of_decide_eq_true h, fun x hx => by simp at hx⟩⟩
    · refine Ev.step (fun k => by rw [spec_l21Ok.l0]) ?_
      exact ev_neg (not_lt_end p) (Ev.now _)
    · refine Ev.step (fun k => by rw [impl_ValidGear.l0]) ?_
      refine ev_neg (not_lt_end p) (ev_of (Ev.now _) ?_)
      rw [decide_eq_true h]
  | cons x xs ih =>
    intro p hl hs
    rw [List.length_cons] at hl
    have hw : wrap64 ((p.length : Int) + 1) = ((p ++ [x]).length : Int) := wrap_next p x (by omega)
    obtain ⟨r, h1, h2, h3⟩ := ih (p ++ [x]) (by rw [List.length_append]; simp; omega) (fun y hy => hs y (List.mem_cons_of_mem _ hy))
    rw [← push_mid p x xs] at h1 h2 h3
    have hx := hs x List.mem_cons_self
    have sA := spec_gear x hx.1
    have sB := impl_gear x hx.1
    cases hg : gearB x with
    | false =>
      rw [hg] at sA sB
      refine ⟨false, ?_, fun _ => ?_, fun h => by simp at h⟩
      · refine Ev.step (fun k => by rw [spec_l21Ok.l0]) ?_
        refine ev_pos (lt_mid p x xs) (ev_pos (Int.natCast_nonneg _) ?_)
        rw [rd72_mid]
        exact Ev.bind sA (ev_neg (by simp) (Ev.now _))
      · refine Ev.step (fun k => by rw [impl_ValidGear.l0]) ?_
        refine ev_pos (lt_mid p x xs) (ev_pos (Int.natCast_nonneg _) (ev_pos (lt_mid p x xs) ?_))
        rw [rd72_mid]
        exact Ev.bind sB (ev_neg (by simp) (Ev.now _))
    | true =>
      rw [hg] at sA sB
      have hf := spec_find (p ++ x :: xs) x.f0 (by rw [List.length_append, List.length_cons]; omega)
      have hr := goG_range p x.f0 0
      by_cases hn : goG p x.f0 0 = -1
      · refine ⟨r, ?_, fun hle => ?_, fun h => ⟨(h3 h).1, fun y hy => ?_⟩⟩
        · refine Ev.step (fun k => by rw [spec_l21Ok.l0]) ?_
          refine ev_pos (lt_mid p x xs) (ev_pos (Int.natCast_nonneg _) ?_)
          rw [rd72_mid, hw]
          exact Ev.bind sA (ev_pos rfl (Ev.bind hf (ev_pos ((goG_mid p xs x).2 hn) h1)))
        · refine Ev.step (fun k => by rw [impl_ValidGear.l0]) ?_
          refine ev_pos (lt_mid p x xs) (ev_pos (Int.natCast_nonneg _) (ev_pos (lt_mid p x xs) ?_))
          rw [rd72_mid, hw, take_mid]
          exact Ev.bind sB (ev_pos rfl (ev_pos (by have := lt_mid p x xs; omega) (ev_bind0 (impl_find p x.f0) (ev_neg (by omega) (h2 hle)))))
        · rcases List.mem_cons.1 hy with rfl | hy
          · exact gearB_in hg
          · exact (h3 h).2 y hy
      · refine ⟨false, ?_, fun _ => ?_, fun h => by simp at h⟩
        · refine Ev.step (fun k => by rw [spec_l21Ok.l0]) ?_
          refine ev_pos (lt_mid p x xs) (ev_pos (Int.natCast_nonneg _) ?_)
          rw [rd72_mid]
          exact Ev.bind sA (ev_pos rfl (Ev.bind hf (ev_neg (fun h => hn ((goG_mid p xs x).1 h)) (Ev.now _))))
        · refine Ev.step (fun k => by rw [impl_ValidGear.l0]) ?_
          refine ev_pos (lt_mid p x xs) (ev_pos (Int.natCast_nonneg _) (ev_pos (lt_mid p x xs) ?_))
          rw [rd72_mid, take_mid]
          exact Ev.bind sB (ev_pos rfl (ev_pos (by have := lt_mid p x xs; omega) (ev_bind0 (impl_find p x.f0) (ev_pos (by omega) (Ev.now _)))))
theorem gears_both (l : List G) (h : GoodGears l) : Both (fun r => r = true → GearsIn l) (fun k => spec_l21Ok.f k l) (fun k => impl_ValidGear.f k l) := by
  obtain ⟨r, h1, h2, h3⟩ := gear_loop l [] (by have := h.1; simp; omega) h.2
  unfold spec_l21Ok.f impl_ValidGear.f
  by_cases hle : (l.length : Int) ≤ 40
  · exact ⟨r, h1, ev_neg (by omega) (h2 hle), fun hr => h3 hr⟩
  · cases hr : r with
    | true => exact absurd (h3 hr).1 hle
    | false =>
      rw [hr] at h1
      exact ⟨false, h1, ev_pos (by omega) (Ev.now _), fun hf => by simp at hf⟩
theorem ValidGear_both (l : List G) (h : GoodGears l) : Both (fun _ => True) (fun k => spec_ValidGear.f k l) (fun k => impl_ValidGear.f k l) := by
  obtain ⟨r, h1, h2, _⟩ := gears_both l h
  unfold spec_ValidGear.f
  exact ⟨r, Ev.bind h1 (Ev.now _), h2, trivial⟩
end Go.Proofs.YtfenjlkopofopaaB
end

section
/- Check: what is asked of one. -/
namespace Go.Proofs.YtfenjlkopofopaaB
open Go.RowKit Go.Proofs.YtfenjlkopofopaaW.PrintWords Go.Proofs.YtfenjlkopofopaaW.PrintLast Go.Proofs.Ytfenjlkopofopaa.P

theorem rd75_mid (p : List S75) (x : S75) (xs : List S75) : rd_T75 (p ++ x :: xs) (p.length : Int) = x := by
  unfold rd_T75
  exact getD_at p x xs _
def GoodCheck (x : S75) : Prop := x.f0.size ≤ 1048576 ∧ I64 x.f1 ∧ I64 x.f2
end Go.Proofs.YtfenjlkopofopaaB
end

section
/- Inspections: whether a list of them is valid for a list of gear, of both; what holds of a valid one. -/
namespace Go.Proofs.YtfenjlkopofopaaB
open Go.RowKit Go.Proofs.YtfenjlkopofopaaW.PrintWords Go.Proofs.YtfenjlkopofopaaW.PrintLast Go.Proofs.Ytfenjlkopofopaa.P

abbrev K := S75
abbrev GoodChecks (l : List K) : Prop := l.length ≤ 1048576 ∧ ∀ x ∈ l, GoodCheck x
def checkB (l : List G) (x : K) : Bool := decide (0 ≤ goG l x.f0 0) && ((decide ((rd_T72 l (goG l x.f0 0)).f1 ≤ x.f1) && decide (x.f1 ≤ 20000)) && (decide (0 ≤ x.f2) && decide (x.f2 ≤ 1000000)))
theorem spec_check (l : List G) (x : K) (h : l.length ≤ 1048576) : Ev (fun k => spec_l21Check.f k l x.f0 x.f1 x.f2) (checkB l x) := by
  unfold spec_l21Check.f checkB
  refine Ev.bind (spec_find l x.f0 h) ?_
  have hr := goG_range l x.f0 0
  by_cases h0 : 0 ≤ goG l x.f0 0
  · rw [decide_eq_true h0]
    refine ev_pos h0 (ev_pos h0 (ev_pos (by omega) (ev_bind0 (in_some _ _ _) ?_)))
    cases decide ((rd_T72 l (goG l x.f0 0)).f1 ≤ x.f1) && decide (x.f1 ≤ 20000) with
    | false => exact ev_neg (by simp) (Ev.now _)
    | true => exact ev_pos rfl (ev_bind0 (in_some _ _ _) (Ev.now _))
  · rw [decide_eq_false h0]
    exact ev_neg h0 (Ev.now _)
theorem impl_check (l : List G) (x : K) : impl_isCheck.f l x.f0 x.f1 x.f2 = some (checkB l x) := by
  unfold impl_isCheck.f checkB
  rw [impl_find]
  simp only [Option.bind_some]
  have hr := goG_range l x.f0 0
  by_cases h0 : 0 ≤ goG l x.f0 0
  · rw [if_pos h0, if_pos h0, if_pos (by omega), within_some, decide_eq_true h0]
    simp only [Option.bind_some]
    cases decide ((rd_T72 l (goG l x.f0 0)).f1 ≤ x.f1) && decide (x.f1 ≤ 20000) with
    | false => rfl
    | true =>
      rw [if_pos rfl, within_some]
      rfl
  · rw [if_neg h0, decide_eq_false h0]
    rfl
/-- An inspection's numbers lie within their bounds. -/
def CheckIn (x : K) : Prop := 0 ≤ x.f1 ∧ x.f1 ≤ 20000 ∧ 0 ≤ x.f2 ∧ x.f2 ≤ 1000000
theorem checkB_in {l : List G} {x : K} (hl : ∀ y ∈ l, GearIn y) (h : checkB l x = true) : CheckIn x := by
  simp only [checkB, Bool.and_eq_true, decide_eq_true_eq] at h
  obtain ⟨h0, ⟨h1, h2⟩, h3, h4⟩ := h
  have hr := goG_range l x.f0 0
  have hlt : (goG l x.f0 0).toNat < l.length := by omega
  have hm : rd_T72 l (goG l x.f0 0) ∈ l := by
    unfold rd_T72
    rw [List.getD_eq_getElem?_getD, List.getElem?_eq_getElem hlt]
    exact List.getElem_mem hlt
  have := (hl _ hm).1
  exact ⟨by omega, h2, h3, h4⟩
/-- Of two inspections of one part the later one's day is greater, its wear not less. -/
def Later (y x : K) : Prop := y.f0.toList = x.f0.toList → y.f1 < x.f1 ∧ y.f2 ≤ x.f2
/-- No day behind is greater than the last one. -/
def Risen (p : List K) : Prop := ∀ y ∈ p, ∀ z, p.getLast? = some z → y.f1 ≤ z.f1

theorem inner_both (g : List G) (x : K) (p xs : List K) (P : Bool → Prop) (hl : p.length + xs.length ≤ 1048576)
    (hd : ∀ y ∈ p, y.f1 ≤ x.f1) (hn : Both P (fun k => spec_l21Checks.l0 k g (p ++ x :: xs) ((p.length : Int) + 1)) (fun k => impl_areChecks.l0 k g (p ++ x :: xs) (p ++ x :: xs) ((p ++ x :: xs).length : Int) ((p.length : Int) + 1)))
    (hf : P false) : ∀ (b a : List K), p = a ++ b →
    Both (fun r => P r ∧ (r = true → ∀ y ∈ b, Later y x)) (fun k => spec_l21Checks.l1 k g (p ++ x :: xs) (p.length : Int) (a.length : Int))
      (fun k => impl_areChecks.l1 k g (p ++ x :: xs) (p ++ x :: xs) ((p ++ x :: xs).length : Int) (p.length : Int) p (p.length : Int) (a.length : Int) x.f0 x.f1 x.f2) := by
  intro b
  induction b with
  | nil =>
    intro a hp
    have e : (a.length : Int) = (p.length : Int) := by rw [hp]; simp
    have hw : wrap64 ((p.length : Int) + 1) = (p.length : Int) + 1 := wrap_small (by omega) (by omega)
    refine both_step (fun k => by rw [spec_l21Checks.l1]) (fun k => by rw [impl_areChecks.l1]) ?_
    refine both_negL (by omega) (both_negR (by omega) ?_)
    rw [hw]
    exact both_imp hn (fun r hr => ⟨hr, fun _ y hy => by simp at hy⟩)
  | cons y b ih =>
    intro a hp
    have hlp : (p.length : Int) = a.length + (b.length + 1) := by rw [hp]; simp
    have hw : wrap64 ((a.length : Int) + 1) = ((a ++ [y]).length : Int) := wrap_next a y (by omega)
    have hi := ih (a ++ [y]) (by rw [hp]; simp)
    have hL : ((p ++ x :: xs).length : Int) = p.length + (xs.length + 1) := by simp
    have r1 : rd_T75 (p ++ x :: xs) (a.length : Int) = y := by
      rw [hp, List.append_assoc, List.cons_append]
      exact rd75_mid a y (b ++ x :: xs)
    have r2 : rd_T75 (p ++ x :: xs) (p.length : Int) = x := rd75_mid p x xs
    have r3 : rd_T75 p (a.length : Int) = y := by
      rw [hp]
      exact rd75_mid a y b
    have hy : y ∈ p := by rw [hp]; simp
    have hdy := hd y hy
    have more : Both (fun r => P r ∧ (r = true → ∀ z ∈ b, Later z x)) (fun k => spec_l21Checks.l1 k g (p ++ x :: xs) (p.length : Int) (wrap64 ((a.length : Int) + 1))) (fun k => impl_areChecks.l1 k g (p ++ x :: xs) (p ++ x :: xs) ((p ++ x :: xs).length : Int) (p.length : Int) p (p.length : Int) (wrap64 ((a.length : Int) + 1)) x.f0 x.f1 x.f2) := by
      rw [hw]
      exact hi
    have no : Both (fun r => P r ∧ (r = true → ∀ z ∈ y :: b, Later z x)) (fun _ => some false) (fun _ => some false) := both_now _ ⟨hf, fun h => by simp at h⟩
    refine both_step (fun k => by rw [spec_l21Checks.l1]) (fun k => by rw [impl_areChecks.l1]) ?_
    refine both_posL (by omega) (both_posL (by omega) (both_posL (by omega) (both_posL (by omega) (both_posL (by omega) (both_posR (by omega) (both_posR (by omega) (both_posR (by omega) ?_)))))))
    rw [r1, r2, r3]
    refine both_ite (fun hq => ?_) (fun hq => both_imp more (fun r hr => ⟨hr.1, fun h z hz => ?_⟩))
    · by_cases h1 : y.f1 = x.f1
      · exact both_posL h1 (both_posR (by omega) no)
      · refine both_negL h1 (both_negR (by omega) ?_)
        by_cases h2 : y.f2 > x.f2
        · exact both_posL h2 (both_posR (by omega) no)
        · refine both_negL h2 (both_negR (by omega) (both_imp more (fun r hr => ⟨hr.1, fun h z hz => ?_⟩)))
          rcases List.mem_cons.1 hz with rfl | hz
          · intro _
            exact ⟨by omega, by omega⟩
          · exact hr.2 h z hz
    · rcases List.mem_cons.1 hz with rfl | hz
      · intro he
        exact absurd he hq
      · exact hr.2 h z hz

theorem last_cases {α : Type} (p : List α) : p = [] ∨ ∃ q z, p = q ++ [z] := by
  rcases List.eq_nil_or_concat p with h | ⟨q, z, h⟩
  · exact .inl h
  · exact .inr ⟨q, z, by simpa using h⟩
theorem checks_loop (g : List G) (hg : g.length ≤ 1048576) (hgi : ∀ y ∈ g, GearIn y) : ∀ (xs p : List K), p.length + xs.length ≤ 1048576 → Risen p →
    Both (fun r => r = true → (∀ x ∈ xs, CheckIn x) ∧ (p.Pairwise Later → (p ++ xs).Pairwise Later)) (fun k => spec_l21Checks.l0 k g (p ++ xs) (p.length : Int)) (fun k => impl_areChecks.l0 k g (p ++ xs) (p ++ xs) ((p ++ xs).length : Int) (p.length : Int)) := by
  intro xs
  induction xs with
  | nil =>
    intro p _ _
    refine both_step (fun k => by rw [spec_l21Checks.l0]) (fun k => by rw [impl_areChecks.l0]) ?_
    exact both_negL (not_lt_end p) (both_negR (not_lt_end p) (both_now _ (fun _ => ⟨fun x hx => by simp at hx, fun h => by simpa using h⟩)))
  | cons x xs ih =>
    intro p hl hp
    rw [List.length_cons] at hl
    have hz : ((p ++ [x]).length : Int) = (p.length : Int) + 1 := by simp
    have no : Both (fun r => r = true → (∀ y ∈ x :: xs, CheckIn y) ∧ (p.Pairwise Later → (p ++ x :: xs).Pairwise Later)) (fun _ => some false) (fun _ => some false) := both_now _ (fun h => by simp at h)
    have sA := spec_check g x hg
    have sB := impl_check g x
    refine both_step (fun k => by rw [spec_l21Checks.l0]) (fun k => by rw [impl_areChecks.l0]) ?_
    refine both_posL (lt_mid p x xs) (both_posL (Int.natCast_nonneg _) (both_posR (lt_mid p x xs) (both_posR (Int.natCast_nonneg _) (both_posR (lt_mid p x xs) ?_))))
    rw [rd75_mid]
    refine both_bindL sA (both_bind0R sB ?_)
    cases hc : checkB g x with
    | false =>
      refine both_negL (by simp) (both_negR (by simp) ?_)
      exact both_step (fun k => by rw [spec_l21Checks.j2]) (fun k => by rw [impl_areChecks.j1]) (both_posL rfl (both_posR rfl no))
    | true =>
      refine both_posL rfl (both_posR rfl ?_)
      have hin := checkB_in hgi hc
      -- what follows where no day behind is greater
      have on : (∀ y ∈ p, y.f1 ≤ x.f1) → Both (fun r => r = true → (∀ y ∈ x :: xs, CheckIn y) ∧ (p.Pairwise Later → (p ++ x :: xs).Pairwise Later)) (fun k => spec_l21Checks.j2 k g (p ++ x :: xs) (p.length : Int) false) (fun k => impl_areChecks.j1 k g (p ++ x :: xs) (p.length : Int) (p ++ x :: xs) ((p ++ x :: xs).length : Int) (p.length : Int) false x.f0 x.f1 x.f2) := by
        intro hd
        have hr : Risen (p ++ [x]) := by
          intro y hy z hz
          rw [List.getLast?_append] at hz
          simp at hz
          subst hz
          rcases List.mem_append.1 hy with hy | hy
          · exact hd y hy
          · simp at hy
            subst hy
            exact Int.le_refl _
        have hi := ih (p ++ [x]) (by rw [List.length_append]; simp; omega) hr
        rw [← push_mid p x xs, hz] at hi
        have hin2 := inner_both g x p xs _ (by omega) hd hi (fun h => by simp at h) p [] rfl
        have hlt := lt_mid p x xs
        refine both_step (fun k => by rw [spec_l21Checks.j2]) (fun k => by rw [impl_areChecks.j1]) ?_
        refine both_negL (by simp) (both_negR (by simp) (both_posR (Int.natCast_nonneg _) (both_posR (by omega) ?_)))
        rw [take_mid]
        refine both_imp hin2 (fun r hr2 h => ?_)
        obtain ⟨h3, h4⟩ := hr2
        obtain ⟨h5, h6⟩ := h3 h
        refine ⟨fun y hy => ?_, fun hpw => ?_⟩
        · rcases List.mem_cons.1 hy with rfl | hy
          · exact hin
          · exact h5 y hy
        · rw [push_mid p x xs]
          rw [push_mid p x xs] at h6
          refine h6 (List.pairwise_append.2 ⟨hpw, List.pairwise_singleton _ _, fun y hy z hz => ?_⟩)
          simp at hz
          subst hz
          exact h4 h y hy
      rcases last_cases p with rfl | ⟨q, z, rfl⟩
      · exact both_negL (by simp) (both_negR (by simp) (on (fun y hy => by simp at hy)))
      · have hw : wrap64 (((q ++ [z]).length : Int) - 1) = (q.length : Int) := by
          have e : ((q ++ [z]).length : Int) = q.length + 1 := by simp
          rw [wrap_small (by omega) (by omega)]
          omega
        have hr1 : rd_T75 (q ++ [z] ++ x :: xs) (q.length : Int) = z := by
          rw [List.append_assoc]
          exact rd75_mid q z (x :: xs)
        have hlt : (q.length : Int) < ((q ++ [z] ++ x :: xs).length : Int) := by simp; omega
        have e : ((q ++ [z]).length : Int) = q.length + 1 := by simp
        refine both_posL (by omega) (both_posR (by omega) ?_)
        rw [hw]
        refine both_posL (Int.natCast_nonneg _) (both_posL hlt (both_posR (Int.natCast_nonneg _) (both_posR hlt ?_)))
        rw [hr1]
        by_cases hzx : z.f1 > x.f1
        · rw [decide_eq_true hzx]
          exact both_step (fun k => by rw [spec_l21Checks.j2]) (fun k => by rw [impl_areChecks.j1]) (both_posL rfl (both_posR rfl no))
        · rw [decide_eq_false hzx]
          refine on (fun y hy => ?_)
          have := hp y hy z (by simp)
          omega
def ChecksIn (l : List K) : Prop := (l.length : Int) ≤ 60 ∧ (∀ x ∈ l, CheckIn x) ∧ l.Pairwise Later
/-- What both say of a list of inspections, for gear that is valid. -/
theorem are_both (g : List G) (l : List K) (hg : g.length ≤ 1048576) (hgi : ∀ y ∈ g, GearIn y) (hl : l.length ≤ 1048576) :
    Both (fun r => r = true → ChecksIn l) (fun k => spec_l21Checks.j0 k g l (decide ((l.length : Int) > 60))) (fun k => impl_areChecks.f k g l) := by
  unfold impl_areChecks.f
  refine both_stepL (fun k => by rw [spec_l21Checks.j0]) ?_
  by_cases h : (l.length : Int) > 60
  · rw [decide_eq_true h]
    exact both_posL rfl (both_posR h (both_now _ (fun h => by simp at h)))
  · rw [decide_eq_false h]
    refine both_negL (by simp) (both_negR h ?_)
    refine both_imp (checks_loop g hg hgi l [] (by simp; omega) (fun y hy => by simp at hy)) (fun r hr h2 => ?_)
    obtain ⟨h3, h4⟩ := hr h2
    exact ⟨by omega, h3, h4 List.Pairwise.nil⟩
end Go.Proofs.YtfenjlkopofopaaB
end

section
/- The code of gear and inspections, of both. -/
namespace Go.Proofs.YtfenjlkopofopaaB
open Go.RowKit Go.Proofs.YtfenjlkopofopaaW.PrintWords Go.Proofs.YtfenjlkopofopaaW.PrintLast Go.Proofs.Ytfenjlkopofopaa.P

def dayB (d : Int) : Bool := decide (0 ≤ d) && decide (d ≤ 20000)
theorem dayB0 : dayB 0 = true := by decide
def codeOf (r : Bool) (d : Int) : Int := if r = true then (if dayB d = true then 0 else 2) else 1
theorem code_both (g : List G) (l : List K) (hg : GoodGears g) (hl : GoodChecks l) :
    ∃ r, Ev (fun k => spec_l21Checks.f k g l) r ∧ (∀ d, Ev (fun k => impl_gearCode.f k g l d) (codeOf r d)) ∧ (r = true → GearsIn g ∧ ChecksIn l) := by
  obtain ⟨r, h1, h2, h3⟩ := gears_both g hg
  have bad : ∀ d, Ev (fun k => impl_gearCode.j0 k d true) 1 := fun d => Ev.step (fun k => by rw [impl_gearCode.j0]) (ev_pos rfl (Ev.now _))
  have good : ∀ d, Ev (fun k => impl_gearCode.j0 k d false) (codeOf true d) := fun d => by
    refine Ev.step (fun k => by rw [impl_gearCode.j0]) ?_
    refine ev_neg (by simp) (ev_bind0 (within_some _ _ _) ?_)
    by_cases hd : dayB d = true
    · exact ev_of (ev_pos hd (Ev.now _)) (by simp [codeOf, hd])
    · exact ev_of (ev_neg hd (Ev.now _)) (by simp [codeOf, hd])
  cases r with
  | false =>
    refine ⟨false, ?_, fun d => ?_, fun h => by simp at h⟩
    · unfold spec_l21Checks.f
      refine Ev.bind h1 (ev_neg (by simp) ?_)
      refine Ev.step (fun k => by rw [spec_l21Checks.j0]) ?_
      exact ev_pos rfl (Ev.now _)
    · unfold impl_gearCode.f
      exact Ev.bind h2 (ev_neg (by simp) (bad d))
  | true =>
    obtain ⟨q, h4, h5, h6⟩ := are_both g l hg.1 (h3 rfl).2 hl.1
    refine ⟨q, ?_, fun d => ?_, fun h => ⟨h3 rfl, h6 h⟩⟩
    · unfold spec_l21Checks.f
      exact Ev.bind h1 (ev_pos rfl h4)
    · unfold impl_gearCode.f
      refine Ev.bind h2 (ev_pos rfl (Ev.bind h5 ?_))
      cases q with
      | true => exact good d
      | false => exact bad d

/-- The inspections of one part. -/
def ownL (l : List K) (a : ByteArray) : List K := l.filter (fun x => x.f0.toList == a.toList)
theorem own_loop (a : ByteArray) : ∀ (xs p acc : List K), p.length + xs.length ≤ 1048576 → acc.length ≤ p.length → Ev (fun k => impl_checksOf.l0 k a acc (p ++ xs) ((p ++ xs).length : Int) (p.length : Int)) (acc ++ ownL xs a) := by
  intro xs
  induction xs with
  | nil =>
    intro p acc _ _
    refine Ev.step (fun k => by rw [impl_checksOf.l0]) ?_
    exact ev_neg (not_lt_end p) (ev_of (Ev.now _) (by simp [ownL]))
  | cons x xs ih =>
    intro p acc hl ha
    rw [List.length_cons] at hl
    have hw : wrap64 ((p.length : Int) + 1) = ((p ++ [x]).length : Int) := wrap_next p x (by omega)
    have hi := fun acc (h : acc.length ≤ p.length + 1) => ih (p ++ [x]) acc (by rw [List.length_append]; simp; omega) (by simpa using h)
    refine Ev.step (fun k => by rw [impl_checksOf.l0]) ?_
    refine ev_pos (lt_mid p x xs) (ev_pos (Int.natCast_nonneg _) (ev_pos (lt_mid p x xs) ?_))
    rw [rd75_mid, hw, push_mid p x xs]
    refine ev_ite (fun h => ?_) (fun h => ?_)
    · refine ev_pos (by omega) (ev_of (hi _ (by simp; omega)) ?_)
      simp [ownL, h]
    · refine ev_of (hi acc (by omega)) ?_
      simp [ownL, h]
theorem own_ev (l : List K) (a : ByteArray) (h : l.length ≤ 1048576) : Ev (fun k => impl_checksOf.f k l a) (ownL l a) := by
  unfold impl_checksOf.f
  exact own_loop a l [] [] (by simp; omega) (by simp)
theorem own_length (l : List K) (a : ByteArray) : (ownL l a).length ≤ l.length := List.length_filter_le _ _

/-- The last inspection of a part not behind a day. -/
def lastOf (l : List K) (a : ByteArray) (d : Int) : Option K := ((ownL l a).filter (fun x => decide (x.f1 ≤ d))).getLast?
def lastE : Option K → ByteArray × Int × Int × Bool
  | none => ((⟨#[]⟩ : ByteArray), 0, 0, false)
  | some z => (z.f0, z.f1, z.f2, true)
theorem last_loop (l : List K) (a : ByteArray) (d : Int) (hl : l.length ≤ 1048576) : ∀ (r xs : List K), l = r.reverse ++ xs →
    Ev (fun k => spec_l21Last.l0 k l a d ((r.length : Int) - 1)) (lastE (r.find? (fun x => x.f0.toList == a.toList && decide (x.f1 ≤ d)))) := by
  intro r
  induction r with
  | nil =>
    intro xs _
    refine Ev.step (fun k => by rw [spec_l21Last.l0]) ?_
    exact ev_neg (by simp) (Ev.now _)
  | cons z r ih =>
    intro xs h
    have hrl : (r.length : Int) + 1 + xs.length = l.length := by rw [h]; simp; omega
    have hr : rd_T75 l ((((z :: r).length : Nat) : Int) - 1) = z := by
      have e : ((((z :: r).length : Nat) : Int) - 1) = (r.reverse.length : Int) := by simp
      rw [e, h, List.reverse_cons, List.append_assoc]
      exact rd75_mid r.reverse z xs
    have hw : wrap64 ((((z :: r).length : Nat) : Int) - 1 - 1) = (r.length : Int) - 1 := by
      have e2 : (((z :: r).length : Nat) : Int) = (r.length : Int) + 1 := by simp
      rw [wrap_small (by omega) (by omega)]
      omega
    have hi := ih (z :: xs) (by rw [h]; simp)
    refine Ev.step (fun k => by rw [spec_l21Last.l0]) ?_
    have e2 : (((z :: r).length : Nat) : Int) = (r.length : Int) + 1 := by simp
    refine ev_pos (by omega) (ev_pos (by omega) (ev_pos (by omega) ?_))
    rw [hr, hw]
    refine ev_ite (fun h1 => ev_ite (fun h2 => ?_) (fun h2 => ?_)) (fun h1 => ?_)
    · refine ev_of (Ev.now _) ?_
      simp [h1, h2, lastE]
    · refine ev_of hi ?_
      simp [h2]
    · refine ev_of hi ?_
      simp [h1]
theorem find_last (l : List K) (a : ByteArray) (d : Int) : l.reverse.find? (fun x => x.f0.toList == a.toList && decide (x.f1 ≤ d)) = lastOf l a d := by
  unfold lastOf ownL
  rw [List.filter_filter, ← List.head?_filter, List.filter_reverse, List.head?_reverse]
  congr 1
  apply List.filter_congr
  intro x _
  exact Bool.and_comm _ _
theorem last_ev (l : List K) (a : ByteArray) (d : Int) (h : l.length ≤ 1048576) : Ev (fun k => spec_l21Last.f k l a d) (lastE (lastOf l a d)) := by
  unfold spec_l21Last.f
  rw [wrap_small (by omega) (by omega)]
  have hz := last_loop l a d h l.reverse [] (by simp)
  rw [find_last, List.length_reverse] at hz
  exact hz
/-- Where all days lie within the bound: the last one of its own. -/
theorem last_all (l : List K) (a : ByteArray) (h : ∀ x ∈ l, CheckIn x) : lastOf l a 20000 = (ownL l a).getLast? := by
  unfold lastOf
  congr 1
  apply List.filter_eq_self.2
  intro x hx
  have := h x (List.mem_filter.1 hx).1
  exact decide_eq_true this.2.1
theorem own_in {l : List K} {a : ByteArray} {z : K} (hz : z ∈ ownL l a) : z ∈ l := (List.mem_filter.1 hz).1
theorem rd_last (o : List K) (z : K) (h : o.getLast? = some z) (hl : o.length ≤ 1048576) : 0 ≤ wrap64 ((o.length : Int) - 1) ∧ wrap64 ((o.length : Int) - 1) < (o.length : Int) ∧ rd_T75 o (wrap64 ((o.length : Int) - 1)) = z := by
  rcases last_cases o with rfl | ⟨q, y, rfl⟩
  · simp at h
  · have : y = z := by simpa using h
    subst this
    have e : wrap64 (((q ++ [y]).length : Int) - 1) = (q.length : Int) := by
      have e2 : ((q ++ [y]).length : Int) = (q.length : Int) + 1 := by simp
      rw [wrap_small (by omega) (by omega)]
      omega
    rw [e]
    exact ⟨Int.natCast_nonneg _, by simp; omega, rd75_mid q y []⟩
end Go.Proofs.YtfenjlkopofopaaB
end

section
/- The wear of a part on a day, of both. -/
namespace Go.Proofs.YtfenjlkopofopaaB
open Go.RowKit Go.Proofs.YtfenjlkopofopaaW.PrintWords Go.Proofs.YtfenjlkopofopaaW.PrintLast Go.Proofs.Ytfenjlkopofopaa.P

theorem max0 (b : Int) : spec_l00Max.f 0 b = some (mx 0 b) := by
  unfold spec_l00Max.f mx
  split <;> split <;> first | rfl | (congr 1; omega)
def wearV (x : G) (d : Int) (o : Option K) : Int := match o with
  | none => wrap64 (x.f2 * mx 0 (wrap64 (d - x.f1)))
  | some c => wrap64 (c.f2 + wrap64 (x.f2 * wrap64 (d - c.f1)))
theorem wear_loop (x : G) (d : Int) : ∀ (xs p : List K) (acc : Int), p.length + xs.length ≤ 1048576 →
    Ev (fun k => impl_wearOn.l0 k d acc (p ++ xs) ((p ++ xs).length : Int) (p.length : Int) x.f0 x.f1 x.f2 x.f3) (match (xs.filter (fun c => decide (c.f1 ≤ d))).getLast? with | none => acc | some c => wrap64 (c.f2 + wrap64 (x.f2 * wrap64 (d - c.f1)))) := by
  intro xs
  induction xs with
  | nil =>
    intro p acc _
    refine Ev.step (fun k => by rw [impl_wearOn.l0]) ?_
    exact ev_neg (not_lt_end p) (Ev.now _)
  | cons c xs ih =>
    intro p acc hl
    rw [List.length_cons] at hl
    have hw : wrap64 ((p.length : Int) + 1) = ((p ++ [c]).length : Int) := wrap_next p c (by omega)
    have hi := fun acc => ih (p ++ [c]) acc (by rw [List.length_append]; simp; omega)
    refine Ev.step (fun k => by rw [impl_wearOn.l0]) ?_
    refine ev_pos (lt_mid p c xs) (ev_pos (Int.natCast_nonneg _) (ev_pos (lt_mid p c xs) ?_))
    rw [rd75_mid, hw, push_mid p c xs]
    refine ev_ite (fun h => ?_) (fun h => ?_)
    · refine ev_of (hi _) ?_
      rw [List.filter_cons_of_pos (by simpa using h), List.getLast?_cons]
      cases (xs.filter (fun c => decide (c.f1 ≤ d))).getLast? with
      | none => rfl
      | some z => rfl
    · refine ev_of (hi acc) ?_
      rw [List.filter_cons_of_neg (by simpa using h)]
theorem spec_wear (x : G) (l : List K) (d : Int) (h : l.length ≤ 1048576) : Ev (fun k => spec_l21Wear.f k x.f0 x.f1 x.f2 x.f3 l d) (wearV x d (lastOf l x.f0 d)) := by
  unfold spec_l21Wear.f
  refine Ev.bind (last_ev l x.f0 d h) ?_
  cases lastOf l x.f0 d with
  | none => exact ev_neg (by simp [lastE]) (ev_bind0 (max0 _) (Ev.now _))
  | some c => exact ev_pos rfl (Ev.now _)
theorem impl_wear (x : G) (l : List K) (d : Int) (h : l.length ≤ 1048576) : Ev (fun k => impl_wearOn.f k x.f0 x.f1 x.f2 x.f3 l d) (wearV x d (lastOf l x.f0 d)) := by
  unfold impl_wearOn.f
  refine Ev.bind (own_ev l x.f0 h) ?_
  have hz := wear_loop x d (ownL l x.f0) [] (wrap64 (x.f2 * mx 0 (wrap64 (d - x.f1)))) (by have := own_length l x.f0; simp; omega)
  refine ev_of hz ?_
  unfold wearV lastOf
  cases ((ownL l x.f0).filter (fun c => decide (c.f1 ≤ d))).getLast? with
  | none => rfl
  | some z => rfl
end Go.Proofs.YtfenjlkopofopaaB
end

section
/- WearOn, of both. -/
namespace Go.Proofs.YtfenjlkopofopaaB
open Go.RowKit Go.Proofs.YtfenjlkopofopaaW.PrintWords Go.Proofs.YtfenjlkopofopaaW.PrintLast Go.Proofs.Ytfenjlkopofopaa.P

theorem WearOn_both (g : List G) (l : List K) (a : ByteArray) (d : Int) (hg : GoodGears g) (hl : GoodChecks l) (_ha : a.size ≤ 1048576) (_hd : I64 d) :
    Both (fun _ => True) (fun k => spec_WearOn.f k g l a d) (fun k => impl_WearOn.f k g l a d) := by
  obtain ⟨r, h1, h2, _⟩ := code_both g l hg hl
  unfold spec_WearOn.f impl_WearOn.f
  refine both_bindL h1 (both_bindR (h2 d) ?_)
  cases r with
  | false => exact both_negL (by simp) (both_negR (by simp [codeOf]) (both_now _ trivial))
  | true =>
    refine both_posL rfl (both_bind0L (day_some d) ?_)
    by_cases hd : dayB d = true
    · refine both_posL hd (both_posR (by simp [codeOf, hd]) ?_)
      unfold spec_l21Named.f
      have hr := goG_range g a 0
      by_cases hn : goG g a 0 < 0
      · refine both_bindL (a := (0, 3)) (Ev.bind h1 (ev_pos rfl (Ev.bind (spec_find g a hg.1) (ev_pos hn (Ev.now _))))) ?_
        exact both_negL (by simp) (both_bind0R (impl_find g a) (both_posR hn (both_now _ trivial)))
      · refine both_bindL (a := (goG g a 0, 0)) (Ev.bind h1 (ev_pos rfl (Ev.bind (spec_find g a hg.1) (ev_neg hn (Ev.now _))))) ?_
        refine both_posL rfl (both_posL (by show 0 ≤ goG g a 0; omega) (both_posL (by show goG g a 0 < _; omega) (both_bind0R (impl_find g a) (both_negR hn (both_posR (by omega) (both_posR (by omega) ?_))))))
        exact both_bindL (spec_wear _ l d hl.1) (both_bindR (impl_wear _ l d hl.1) (both_now _ trivial))
    · exact both_negL hd (both_negR (by simp [codeOf, hd]) (both_of (r := (0, 2)) (Ev.now _) (ev_of (Ev.now _) (by simp [codeOf, hd])) trivial))
end Go.Proofs.YtfenjlkopofopaaB
end

section
/- WornOn, of both. -/
namespace Go.Proofs.YtfenjlkopofopaaB
open Go.RowKit Go.Proofs.YtfenjlkopofopaaW.PrintWords Go.Proofs.YtfenjlkopofopaaW.PrintLast Go.Proofs.Ytfenjlkopofopaa.P

theorem worn_loop (l : List K) (d : Int) (hl : l.length ≤ 1048576) : ∀ (xs p : List G) (acc : List ByteArray), p.length + xs.length ≤ 1048576 → acc.length ≤ p.length →
    Both (fun r => r.1.length ≤ 1048576) (fun k => spec_WornOn.l0 k (p ++ xs) l d acc (p.length : Int)) (fun k => impl_WornOn.l0 k l d acc (p ++ xs) ((p ++ xs).length : Int) (p.length : Int)) := by
  intro xs
  induction xs with
  | nil =>
    intro p acc hm ha
    exact both_step (fun k => by rw [spec_WornOn.l0]) (fun k => by rw [impl_WornOn.l0]) (both_negL (not_lt_end p) (both_negR (not_lt_end p) (both_now _ (by show acc.length ≤ _; omega))))
  | cons x xs ih =>
    intro p acc hm ha
    rw [List.length_cons] at hm
    have hw : wrap64 ((p.length : Int) + 1) = ((p ++ [x]).length : Int) := wrap_next p x (by omega)
    have hi := fun acc (h : acc.length ≤ p.length + 1) => ih (p ++ [x]) acc (by rw [List.length_append]; simp; omega) (by simpa using h)
    refine both_step (fun k => by rw [spec_WornOn.l0]) (fun k => by rw [impl_WornOn.l0]) ?_
    refine both_posL (lt_mid p x xs) (both_posL (Int.natCast_nonneg _) (both_posR (lt_mid p x xs) (both_posR (Int.natCast_nonneg _) (both_posR (lt_mid p x xs) ?_))))
    rw [rd72_mid, hw, push_mid p x xs]
    refine both_bindL (spec_wear x l d hl) (both_bindR (impl_wear x l d hl) (both_ite (fun _ => ?_) (fun _ => hi _ (by omega))))
    exact both_posL (by omega) (both_posR (by omega) (hi _ (by simp; omega)))
theorem WornOn_both (g : List G) (l : List K) (d : Int) (hg : GoodGears g) (hl : GoodChecks l) (_hd : I64 d) :
    Both (fun r => r.1.length ≤ 1048576) (fun k => spec_WornOn.f k g l d) (fun k => impl_WornOn.f k g l d) := by
  obtain ⟨r, h1, h2, _⟩ := code_both g l hg hl
  unfold spec_WornOn.f impl_WornOn.f
  refine both_bindL h1 (both_bindR (h2 d) ?_)
  cases r with
  | false => exact both_negL (by simp) (both_negR (by simp [codeOf]) (both_now _ (by simp)))
  | true =>
    refine both_posL rfl (both_bind0L (day_some d) ?_)
    by_cases hd : dayB d = true
    · exact both_posL hd (both_posR (by simp [codeOf, hd]) (worn_loop l d hl.1 g [] [] (by have := hg.1; simp; omega) (by simp)))
    · exact both_negL hd (both_negR (by simp [codeOf, hd]) (both_of (r := ([], 2)) (Ev.now _) (ev_of (Ev.now _) (by simp [codeOf, hd])) (by simp)))
end Go.Proofs.YtfenjlkopofopaaB
end

section
/- The day at which a part has worn out, of both; DayOfEnd, NextToFail. -/
namespace Go.Proofs.YtfenjlkopofopaaB
open Go.RowKit Go.Proofs.YtfenjlkopofopaaW.PrintWords Go.Proofs.YtfenjlkopofopaaW.PrintLast Go.Proofs.Ytfenjlkopofopaa.P

theorem end_both (x : G) (l : List K) (h : l.length ≤ 1048576) (hx : GearIn x) (hl : ∀ y ∈ l, CheckIn y) :
    Both (fun _ => True) (fun k => spec_l21End.f k x.f0 x.f1 x.f2 x.f3 l) (fun k => impl_dayOfEnd.f k x.f0 x.f1 x.f2 x.f3 l) := by
  have core : ∀ d w : Int, 0 ≤ d → d ≤ 20000 → Both (fun _ => True) (fun k => spec_l21End.j0 k d w x.f0 x.f1 x.f2 x.f3) (fun k => impl_dayOfEnd.j0 k w d x.f0 x.f1 x.f2 x.f3) := by
    intro d w h0 h1
    refine both_step (fun k => by rw [spec_l21End.j0]) (fun k => by rw [impl_dayOfEnd.j0]) ?_
    by_cases hw : w > x.f3
    · exact both_posL hw (both_negR (by omega) (both_negR (by omega) (both_now _ trivial)))
    · refine both_negL hw (both_posR (by omega) (both_ite (fun _ => both_now _ trivial) (fun _ => ?_)))
      have e : wrap64 (wrap64 (d + wrap64 (Int.tdiv (wrap64 (x.f3 - w)) x.f2)) + 1) = wrap64 (d + wrap64 (wrap64 (Int.tdiv (wrap64 (x.f3 - w)) x.f2) + 1)) := by
        generalize wrap64 (Int.tdiv (wrap64 (x.f3 - w)) x.f2) = q
        unfold wrap64
        omega
      rw [e]
      exact both_ite (fun _ => both_now _ trivial) (fun _ => both_now _ trivial)
  unfold spec_l21End.f impl_dayOfEnd.f
  refine both_bindL (last_ev l x.f0 20000 h) (both_bindR (own_ev l x.f0 h) ?_)
  rw [last_all l x.f0 hl]
  have hol := own_length l x.f0
  cases hz : (ownL l x.f0).getLast? with
  | none =>
    have he : ownL l x.f0 = [] := by simpa using hz
    rw [he]
    exact both_negL (by simp [lastE]) (both_negR (by simp) (core _ _ hx.1 hx.2.1))
  | some z =>
    obtain ⟨r1, r2, r3⟩ := rd_last (ownL l x.f0) z hz (by omega)
    have hzl := hl z (own_in (List.mem_of_getLast? hz))
    refine both_posL rfl (both_posR (by omega) (both_posR r1 (both_posR r2 ?_)))
    rw [r3]
    exact core _ _ hzl.1 hzl.2.1

theorem DayOfEnd_both (g : List G) (l : List K) (a : ByteArray) (hg : GoodGears g) (hl : GoodChecks l) (_ha : a.size ≤ 1048576) :
    Both (fun _ => True) (fun k => spec_DayOfEnd.f k g l a) (fun k => impl_DayOfEnd.f k g l a) := by
  obtain ⟨r, h1, h2, h3⟩ := code_both g l hg hl
  unfold spec_DayOfEnd.f impl_DayOfEnd.f spec_l21Named.f
  refine both_bindR (h2 0) ?_
  cases r with
  | false =>
    refine both_bindL (a := (0, 1)) (Ev.bind h1 (ev_neg (by simp) (Ev.now _))) ?_
    exact both_negL (by simp) (both_negR (by simp [codeOf]) (both_now _ trivial))
  | true =>
    refine both_posR (by simp [codeOf, dayB0]) ?_
    have hr := goG_range g a 0
    by_cases hn : goG g a 0 < 0
    · refine both_bindL (a := (0, 3)) (Ev.bind h1 (ev_pos rfl (Ev.bind (spec_find g a hg.1) (ev_pos hn (Ev.now _))))) ?_
      exact both_negL (by simp) (both_bind0R (impl_find g a) (both_posR hn (both_now _ trivial)))
    · refine both_bindL (a := (goG g a 0, 0)) (Ev.bind h1 (ev_pos rfl (Ev.bind (spec_find g a hg.1) (ev_neg hn (Ev.now _))))) ?_
      have hlt : (goG g a 0).toNat < g.length := by omega
      have hm : rd_T72 g (goG g a 0) ∈ g := by
        unfold rd_T72
        rw [List.getD_eq_getElem?_getD, List.getElem?_eq_getElem hlt]
        exact List.getElem_mem hlt
      refine both_posL rfl (both_posL (by show 0 ≤ goG g a 0; omega) (both_posL (by show goG g a 0 < _; omega) (both_bind0R (impl_find g a) (both_negR hn (both_posR (by omega) (both_posR (by omega) ?_))))))
      exact both_bind (end_both _ l hl.1 ((h3 rfl).1.2 _ hm) (h3 rfl).2.2.1) (fun _ _ => both_ite (fun _ => both_now _ trivial) (fun _ => both_now _ trivial))

/-- What the two loops hold: the reference an index, the program a name. -/
theorem fail_loop (g : List G) (l : List K) (hl : l.length ≤ 1048576) (hin : ∀ y ∈ l, CheckIn y) (hg : ∀ y ∈ g, GearIn y) : ∀ (xs p : List G), g = p ++ xs → p.length + xs.length ≤ 1048576 →
    ∀ (i e : Int) (n : ByteArray) (m : Int), ((i = -1 ∧ m = -1) ∨ (0 ≤ i ∧ i < (p.length : Int) ∧ (rd_T72 g i).f0 = n ∧ e = m ∧ 0 ≤ m)) →
    Both (fun _ => True) (fun k => spec_NextToFail.l0 k g l i e (p.length : Int)) (fun k => impl_NextToFail.l0 k l n m g (g.length : Int) (p.length : Int)) := by
  intro xs
  induction xs with
  | nil =>
    intro p hp hm i e n m hi
    have hgl : (g.length : Int) = p.length := by rw [hp]; simp
    refine both_step (fun k => by rw [spec_NextToFail.l0]) (fun k => by rw [impl_NextToFail.l0]) ?_
    refine both_negL (by omega) (both_negR (by omega) ?_)
    rcases hi with ⟨h1, h2⟩ | ⟨h1, h2, h3, h4, h5⟩
    · exact both_posL (by omega) (both_posR (by omega) (both_now _ trivial))
    · refine both_negL (by omega) (both_negR (by omega) (both_posL (by omega) (both_posL (by omega) ?_)))
      rw [h3, h4]
      exact both_now _ trivial
  | cons x xs ih =>
    intro p hp hm i e n m hi
    rw [List.length_cons] at hm
    have hw : wrap64 ((p.length : Int) + 1) = ((p ++ [x]).length : Int) := wrap_next p x (by omega)
    have hgl : (g.length : Int) = p.length + (xs.length + 1) := by rw [hp]; simp
    have hx : rd_T72 g (p.length : Int) = x := by rw [hp]; exact rd72_mid p x xs
    have hz : ((p ++ [x]).length : Int) = (p.length : Int) + 1 := by simp
    have ih2 := ih (p ++ [x]) (by rw [hp]; simp) (by rw [List.length_append]; simp; omega)
    refine both_step (fun k => by rw [spec_NextToFail.l0]) (fun k => by rw [impl_NextToFail.l0]) ?_
    refine both_posL (by omega) (both_posL (by omega) (both_posR (by omega) (both_posR (by omega) (both_posR (by omega) ?_))))
    rw [hx, hw]
    refine both_bind (end_both x l hl (hg x (by rw [hp]; simp)) hin) (fun r _ => ?_)
    have old := ih2 i e n m (by
      rcases hi with h1 | ⟨h1, h2, h3, h4, h5⟩
      · exact .inl h1
      · exact .inr ⟨h1, by omega, h3, h4, h5⟩)
    refine both_ite (fun hr => ?_) (fun _ => old)
    have new := ih2 (p.length : Int) r x.f0 r (.inr ⟨by omega, by omega, by rw [hx], rfl, hr⟩)
    rcases hi with ⟨h1, h2⟩ | ⟨h1, h2, h3, h4, h5⟩
    · exact both_posL (by omega) (both_posR (by omega) new)
    · refine both_negL (by omega) (both_negR (by omega) ?_)
      rw [h4]
      rw [h4] at old
      exact both_ite (fun _ => new) (fun _ => old)
theorem NextToFail_both (g : List G) (l : List K) (hg : GoodGears g) (hl : GoodChecks l) :
    Both (fun _ => True) (fun k => spec_NextToFail.f k g l) (fun k => impl_NextToFail.f k g l) := by
  obtain ⟨r, h1, h2, h3⟩ := code_both g l hg hl
  unfold spec_NextToFail.f impl_NextToFail.f
  refine both_bindL h1 (both_bindR (h2 0) ?_)
  cases r with
  | false => exact both_negL (by simp) (both_negR (by simp [codeOf]) (both_now _ trivial))
  | true => exact both_posL rfl (both_posR (by simp [codeOf, dayB0]) (fail_loop g l hl.1 (h3 rfl).2.2.1 (h3 rfl).1.2 g [] rfl (by have := hg.1; simp; omega) (-1) 0 _ (-1) (.inl ⟨rfl, rfl⟩)))
end Go.Proofs.YtfenjlkopofopaaB
end
