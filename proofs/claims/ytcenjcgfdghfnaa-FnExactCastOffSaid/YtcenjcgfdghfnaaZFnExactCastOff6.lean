/- The law FnExactCastOff: for every input it returns true and its arguments read as before: the row, out of its plain statement and the printed contracts. No condition beside the form's own. -/
import Derived.Deep.Slices
import Derived.Deep.Fields
import Derived.ChangeSame
import Derived.WideShapes
import Derived.Lib.Bytes
import Derived.Test.YtcenjcgfdghfnaaRows
import Derived.WalkKit
import Derived.ProofKit
import Derived.OpenShut
import Derived.ShutString
import Derived.ChangeOld
import Derived.Below
import Derived.SizedLaws
import Derived.Test.YtcenjcgfdghfnaaZFnExactCastOff5
section
/- How an argument of a law reads: out of the form's reading (trod) of a value comes the list or structure that the printed contracts speak of. -/
namespace Go.Proofs.YtcenjcgfdghfnaaOp
open Go.RowKit Go.ChangeShapes Go.WideShapes Go.Deep Go.Proofs.YtcenjcgfdghfnaaW.PrintWords

/-- Every reading of cells at type t gives a value of this kind with the property Q. -/
structure Opens (P : Program) (t : TypeId) {α : Type} (d : Kd α) (Q : α → Prop) : Prop where
  mk ::
  out : ∀ {H : Type} (enc : TypeId × Value → H) (w : World) (base : Nat) (spare : Nat → Bool) (held : Bool) (fuel : Nat) (cs : List Value) (x : DataW H × List MemPlace), DataW.trod enc P w base spare held fuel t cs = some x → ∃ a, d.K w a cs ∧ Q a

theorem opens_int {P : Program} {t : TypeId} {k : IntKind} (ht : P.underlying t = some (.int k)) : Opens P t (Kd.int k) (fun n => (Lit.int k n).wf = true) :=
  ⟨fun enc w base spare held fuel cs x h => by
    obtain ⟨n, rfl, _, hw⟩ := DataW.trod_int ht h
    exact ⟨n, rfl, hw⟩⟩
theorem opens_string {P : Program} {t : TypeId} (ht : P.underlying t = some .string) : Opens P t Kd.string (fun s => s.size ≤ maxLen) :=
  ⟨fun enc w base spare held fuel cs x h => by
    obtain ⟨s, rfl, _, hw⟩ := DataW.trod_string ht h
    exact ⟨s, rfl, hw⟩⟩

theorem list_of_index {α : Type} (p : Nat → α → Prop) : ∀ n : Nat, (∀ i, i < n → ∃ x, p i x) → ∃ xs : List α, xs.length = n ∧ ∀ i x, xs[i]? = some x → p i x := by
  intro n
  induction n with
  | zero => intro _; exact ⟨[], rfl, fun i x h => by simp at h⟩
  | succ n ih =>
    intro h
    obtain ⟨xs, hl, hx⟩ := ih (fun i hi => h i (Nat.lt_succ_of_lt hi))
    obtain ⟨y, hy⟩ := h n (Nat.lt_succ_self n)
    refine ⟨xs ++ [y], by simp [hl], fun i x hi => ?_⟩
    rcases Nat.lt_or_ge i xs.length with h1 | h1
    · rw [List.getElem?_append_left h1] at hi
      exact hx i x hi
    · have h2 : i < (xs ++ [y]).length := (List.getElem?_eq_some_iff.1 hi).1
      have h3 : i = n := by simp at h2; omega
      subst h3
      rw [← hl, List.getElem?_append_right (Nat.le_refl _)] at hi
      simp at hi
      subst hi
      exact hy

theorem opens_slice {P : Program} {t e : TypeId} {α : Type} {d : Kd α} {Q : α → Prop} (ht : P.underlying t = some (.slice e)) (hd : Opens P e d Q) (hc : P.cellsOf e = d.sz) (e' : Nat) :
    Opens P t (Kd.slice e' d) (fun xs => xs.length ≤ maxLen ∧ ∀ x ∈ xs, Q x) :=
  ⟨fun enc w base spare held fuel cs x h => by
    rcases open_slice ht h with ⟨rfl, _⟩ | ⟨a, len, cap, m, n, D, Pl, rfl, hb, hl, hm, hmm, _, hx⟩
    · exact ⟨[], ⟨none, 0, rfl, Nat.le_refl _, rfl, by simp, fun h0 => absurd h0 (by simp)⟩, by simp [maxLen], fun y hy => by simp at hy⟩
    · have hlm : len ≤ m := by rw [hmm]; split <;> omega
      obtain ⟨xs, hxl, hxs⟩ := list_of_index (fun i (y : α) => Q y ∧ ∃ c, d.K w y c ∧ c.length = d.sz ∧ ∀ j u, c[j]? = some u → w.cell? (a.add (i * d.sz + j)) = some u) len (fun i hi => by
        obtain ⟨cs', h1, h2⟩ := hx i (by omega)
        obtain ⟨y, hK, hQ⟩ := hd.out enc w base spare held n cs' _ h2
        refine ⟨y, hQ, cs', hK, d.K_len hK, fun j u hj => ?_⟩
        rw [hc] at h1
        obtain ⟨_, hcl, hat⟩ := World.cells?_some h1
        have hjl : j < d.sz := by
          have := (List.getElem?_eq_some_iff.1 hj).1
          rw [hcl] at this
          exact this
        rw [← Go.Deep.add_add, hat j hjl]
        exact hj)
      subst hxl
      have hmax : xs.length ≤ maxLen := Nat.le_trans hl hm
      refine ⟨xs, ⟨some a, cap, rfl, hl, rfl, by unfold maxLen at hmax; omega, fun _ => ⟨a, rfl, fun j p hj => ?_⟩⟩, hmax, fun y hy => ?_⟩
      · obtain ⟨_, c, h1, h2, h3⟩ := hxs j p hj
        exact ⟨c, h2, h1, h3⟩
      · obtain ⟨i, hi⟩ := List.mem_iff_getElem?.1 hy
        exact (hxs i y hi).1⟩

theorem opens_iso {P : Program} {t : TypeId} {α β : Type} {d : Kd α} {Q : α → Prop} (h : Opens P t d Q) (f : β → α) (g : α → β) (hfg : ∀ x, f (g x) = x) : Opens P t (Kd.iso d f) (fun y => Q (f y)) :=
  ⟨fun enc w base spare held fuel cs x hx => by
    obtain ⟨a, hK, hQ⟩ := h.out enc w base spare held fuel cs x hx
    exact ⟨g a, by show d.K w (f (g a)) cs; rw [hfg]; exact hK, by rw [hfg]; exact hQ⟩⟩

/-- The cells from 'off' on are read field by field. -/
structure OpensFs (P : Program) (fs : List Field) (off : Nat) {α : Type} (d : Kd α) (Q : α → Prop) : Prop where
  mk ::
  out : ∀ {H : Type} (enc : TypeId × Value → H) (w : World) (base : Nat) (spare : Nat → Bool) (held : Bool) (n : Nat) (cs : List Value), cs.length = off + d.sz →
    (∀ f ∈ fs, ∃ y, DataW.trod enc P w base spare held n f.type ((cs.drop f.offset).take (P.cellsOf f.type)) = some y) → ∃ a, d.K w a (cs.drop off) ∧ Q a
theorem opens_last {P : Program} {f : Field} {off : Nat} {α : Type} {d : Kd α} {Q : α → Prop} (h : Opens P f.type d Q) (ho : f.offset = off) (hs : P.cellsOf f.type = d.sz) : OpensFs P [f] off d Q :=
  ⟨fun enc w base spare held n cs hl hf => by
    obtain ⟨y, hy⟩ := hf f (List.mem_singleton.2 rfl)
    rw [ho, hs, List.take_of_length_le (by rw [List.length_drop]; omega)] at hy
    exact h.out enc w base spare held n _ y hy⟩
theorem opens_cons {P : Program} {f : Field} {fs : List Field} {off : Nat} {α β : Type} {d : Kd α} {d2 : Kd β} {Q : α → Prop} {Q2 : β → Prop} (h : Opens P f.type d Q) (ho : f.offset = off) (hs : P.cellsOf f.type = d.sz) (h2 : OpensFs P fs (off + d.sz) d2 Q2) :
    OpensFs P (f :: fs) off (Kd.pair d d2) (fun x => Q x.1 ∧ Q2 x.2) :=
  ⟨fun enc w base spare held n cs hl hf => by
    have hl' : cs.length = off + (d.sz + d2.sz) := hl
    obtain ⟨y, hy⟩ := hf f List.mem_cons_self
    rw [ho, hs] at hy
    obtain ⟨a, hK, hQ⟩ := h.out enc w base spare held n _ y hy
    obtain ⟨b, hK2, hQ2⟩ := h2.out enc w base spare held n cs (by omega) (fun g hg => hf g (List.mem_cons_of_mem _ hg))
    refine ⟨(a, b), ⟨(cs.drop off).take d.sz, cs.drop (off + d.sz), ?_, hK, hK2⟩, hQ, hQ2⟩
    rw [← List.drop_drop, List.take_append_drop]⟩
theorem opens_struct {P : Program} {t : TypeId} {fs : List Field} {α : Type} {d : Kd α} {Q : α → Prop} (ht : P.underlying t = some (.struct fs.toArray)) (hs : P.cellsOf t = d.sz) (h : OpensFs P fs 0 d Q) : Opens P t d Q :=
  ⟨fun enc w base spare held fuel cs x hx => by
    obtain ⟨xs, n, _, _, hl, hlen, hf⟩ := DataW.trod_struct ht hx
    have := h.out enc w base spare held n cs (by rw [hl, hs]; omega) (fun f hmem => by
      obtain ⟨i, hi⟩ := List.mem_iff_getElem?.1 hmem
      have h1 : fs.toArray[i]? = some f := by simpa using hi
      have h2 := hf i f h1
      have h3 : i < fs.length := (List.getElem?_eq_some_iff.1 hi).1
      have h4 : i < xs.length := by rw [hlen]; simpa using h3
      exact ⟨_, h2.trans (List.getElem?_eq_getElem h4)⟩)
    simpa using this⟩

/-- A struct by value, as an argument. -/
theorem arg_struct {H : Type} {enc : TypeId × Value → H} {P : Program} {w : World} {base : Nat} {spare : Nat → Bool} {held : Bool} {t : TypeId} {α : Type} {d : Kd α} {Q : α → Prop} {cs : Array Value} {y : DataW H} {p : List MemPlace}
    (ho : Opens P t d Q) (h : DataW.Trod enc P w base spare held t (.agg cs) y p) : ∃ x : α, d.K w x cs.toList ∧ Q x := by
  obtain ⟨fuel, hf⟩ := h
  exact ho.out enc w base spare held fuel _ _ (by simpa [Value.cells] using hf)
end Go.Proofs.YtcenjcgfdghfnaaOp
end

section
/- Plain words for the laws' statements over lists: an answer with enough rounds (Ev), step by step; one loop's round over a list that is told as what lies behind and what lies ahead. -/
namespace Go.Proofs.YtcenjcgfdghfnaaB
open Go.RowKit Go.Proofs.YtcenjcgfdghfnaaW.PrintWords Go.Proofs.YtcenjcgfdghfnaaW.PrintLast

theorem ev_pos {α : Type} {c : Prop} [Decidable c] {A B : Nat → Option α} {r : α} (h : c) (e : Ev A r) : Ev (fun k => if c then A k else B k) r := by
  simpa only [if_pos h] using e
theorem ev_neg {α : Type} {c : Prop} [Decidable c] {A B : Nat → Option α} {r : α} (h : ¬ c) (e : Ev B r) : Ev (fun k => if c then A k else B k) r := by
  simpa only [if_neg h] using e
theorem ev_ite {α : Type} {c : Prop} [Decidable c] {A B : Nat → Option α} {r : α} (h : c → Ev A r) (h2 : ¬ c → Ev B r) : Ev (fun k => if c then A k else B k) r := by
  by_cases hc : c
  · exact ev_pos hc (h hc)
  · exact ev_neg hc (h2 hc)
theorem ev_bind0 {α β : Type} {g : Option α} {f : Nat → α → Option β} {a : α} {r : β} (h : g = some a) (k : Ev (fun n => f n a) r) : Ev (fun n => g.bind (f n)) r := by
  subst h
  exact k
theorem ev_of {α : Type} {g : Nat → Option α} {a r : α} (h : Ev g a) (e : a = r) : Ev g r := e ▸ h

theorem wrap_small {i : Int} (h0 : -9223372036854775808 ≤ i) (h1 : i ≤ 9223372036854775807) : wrap64 i = i := by
  unfold wrap64
  omega
theorem wrap_next {α : Type} (p : List α) (x : α) (h : p.length ≤ 4611686018427387904) : wrap64 ((p.length : Int) + 1) = ((p ++ [x]).length : Int) := by
  rw [wrap_small (by omega) (by omega), List.length_append]
  simp
theorem getD_at {α : Type} (p : List α) (x : α) (xs : List α) (z : α) : (p ++ x :: xs).getD ((p.length : Int)).toNat z = x := by
  simp
theorem rd_mid (p : List Int) (x : Int) (xs : List Int) : rd (p ++ x :: xs) (p.length : Int) = x := by
  unfold rd
  exact getD_at p x xs 0
theorem rdOf_mid {α : Type} (d : α) (p : List α) (x : α) (xs : List α) : rdOf d (p ++ x :: xs) (p.length : Int) = x := by
  unfold rdOf
  exact getD_at p x xs d
theorem set_mid {α : Type} (p : List α) (x y : α) (xs : List α) : (p ++ x :: xs).set ((p.length : Int)).toNat y = p ++ y :: xs := by
  simp
theorem push_mid {α : Type} (p : List α) (x : α) (xs : List α) : p ++ x :: xs = (p ++ [x]) ++ xs := by simp
theorem lt_mid {α : Type} (p : List α) (x : α) (xs : List α) : (p.length : Int) < ((p ++ x :: xs).length : Int) := by
  simp
  omega
theorem not_lt_end {α : Type} (p : List α) : ¬ (p.length : Int) < ((p ++ []).length : Int) := by simp

theorem bt_rd (s : ByteArray) (i : Int) : bt s i = rd (bytesOf s) i := by
  unfold bt rd bytesOf
  by_cases h : i.toNat < s.size
  · rw [dif_pos h]
    have h2 : i.toNat < s.data.toList.length := by rw [data_length]; exact h
    rw [List.getD_eq_getElem?_getD, List.getElem?_map, List.getElem?_eq_getElem h2]
    rfl
  · rw [dif_neg h]
    have h2 : ¬ i.toNat < s.data.toList.length := by rw [data_length]; exact h
    rw [List.getD_eq_getElem?_getD, List.getElem?_map, List.getElem?_eq_none (by omega)]
    rfl
theorem bytes_length (s : ByteArray) : (bytesOf s).length = s.size := by
  unfold bytesOf
  rw [List.length_map, data_length]
theorem bytes_nil (s : ByteArray) : s.toList = [] ↔ bytesOf s = [] := by
  unfold bytesOf
  rw [Lib.toList_data]
  simp
theorem set_mid' {α β : Type} (q : List β) (p : List α) (h : q.length = p.length) (x y : β) (xs : List β) : (q ++ x :: xs).set ((p.length : Int)).toNat y = q ++ y :: xs := by
  rw [← h]
  exact set_mid q x y xs
/-- A number of 64 bits. -/
def I64 (n : Int) : Prop := -9223372036854775808 ≤ n ∧ n ≤ 9223372036854775807
theorem i64_of_wf {n : Int} (h : (Lit.int .i64 n).wf = true) : I64 n := by
  simp [Lit.wf, IntKind.min, IntKind.max, IntKind.signed, IntKind.bits] at h
  unfold I64
  omega

section
variable {α β : Type} {P : α → Prop} {Q : β → Prop} {A B A2 B2 C : Nat → Option α}
end

theorem max_of {s : ByteArray} (h : s.size ≤ 1048576) : s.size ≤ maxLen := by
  unfold maxLen
  omega


/-- A name, as the document has it, over its bytes. -/
def smallB (c : Int) : Bool := decide (97 ≤ c) && decide (c ≤ 122)
def partB (c : Int) : Bool := smallB c || (decide (48 ≤ c) && decide (c ≤ 57)) || decide (c = 45)
def nameL (l : List Int) : Bool := match l with
  | [] => false
  | c :: cs => decide ((c :: cs).length ≤ 12) && smallB c && (c :: cs).all partB
def nameB (s : ByteArray) : Bool := nameL (bytesOf s)
end Go.Proofs.YtcenjcgfdghfnaaB
end

section
/- IsName, within and their kin: the reference's and the program's functions, as one plain function of the bytes. -/
namespace Go.Proofs.YtcenjcgfdghfnaaB
open Go.RowKit Go.Proofs.YtcenjcgfdghfnaaW.PrintWords Go.Proofs.YtcenjcgfdghfnaaW.PrintLast Go.Proofs.Ytcenjcgfdghfnaa.P

theorem in_some (a b c : Int) : spec_l00In.f a b c = some (decide (b ≤ a) && decide (a ≤ c)) := by
  unfold spec_l00In.f
  by_cases h : a ≥ b
  · rw [if_pos h, decide_eq_true (show b ≤ a from h)]
    simp
  · rw [if_neg h, decide_eq_false (show ¬ b ≤ a from h)]
    simp
theorem within_some (a b c : Int) : impl_within.f a b c = some (decide (b ≤ a) && decide (a ≤ c)) := by
  unfold impl_within.f
  by_cases h : a ≥ b
  · rw [if_pos h, decide_eq_true (show b ≤ a from h)]
    simp
  · rw [if_neg h, decide_eq_false (show ¬ b ≤ a from h)]
    simp
theorem small_some (a : Int) : spec_l01Small.f a = some (smallB a) := by
  unfold spec_l01Small.f smallB
  by_cases h : a ≥ 97
  · rw [if_pos h, decide_eq_true (show 97 ≤ a from h)]
    simp
  · rw [if_neg h, decide_eq_false (show ¬ 97 ≤ a from h)]
    simp
theorem digit_some (a : Int) : spec_l01Digit.f a = some (decide (48 ≤ a) && decide (a ≤ 57)) := by
  unfold spec_l01Digit.f
  by_cases h : a ≥ 48
  · rw [if_pos h, decide_eq_true (show 48 ≤ a from h)]
    simp
  · rw [if_neg h, decide_eq_false (show ¬ 48 ≤ a from h)]
    simp

theorem spec_name_loop (s : ByteArray) (hs : s.size ≤ 1048576) : ∀ (xs p : List Int), bytesOf s = p ++ xs → Ev (fun k => spec_IsName.l0 k s (p.length : Int)) (xs.all partB) := by
  intro xs
  induction xs with
  | nil =>
    intro p hp
    have hz : (s.size : Int) = p.length := by rw [← bytes_length, hp]; simp
    refine Ev.step (fun k => by rw [spec_IsName.l0]) ?_
    exact ev_neg (by omega) (Ev.now _)
  | cons x xs ih =>
    intro p hp
    have hz : (s.size : Int) = p.length + (xs.length + 1) := by rw [← bytes_length, hp]; simp
    have hb : bt s (p.length : Int) = x := by rw [bt_rd, hp]; exact rd_mid p x xs
    have hw : wrap64 ((p.length : Int) + 1) = ((p ++ [x]).length : Int) := wrap_next p x (by omega)
    have hi := ih (p ++ [x]) (by rw [hp]; simp)
    refine Ev.step (fun k => by rw [spec_IsName.l0]) ?_
    refine ev_pos (by omega) (ev_pos (by omega) ?_)
    rw [hb, hw]
    refine ev_bind0 (small_some x) ?_
    refine ev_ite (fun h => ?_) (fun h => ?_)
    · refine ev_of hi ?_
      simp [partB, h]
    · refine ev_bind0 (digit_some x) (ev_ite (fun h2 => ?_) (fun h2 => ?_))
      · refine ev_of hi ?_
        simp [partB, h2]
      · refine ev_ite (fun h3 => ?_) (fun h3 => ?_)
        · refine ev_of hi ?_
          simp [partB, h3]
        · refine ev_of (Ev.now _) ?_
          simp only [Bool.not_eq_true] at h h2
          simp [partB, h, h2, h3]

theorem impl_name_loop (s : ByteArray) (hs : s.size ≤ 1048576) : ∀ (xs p : List Int), bytesOf s = p ++ xs → Ev (fun k => impl_IsName.l0 k s (p.length : Int)) (xs.all partB) := by
  intro xs
  induction xs with
  | nil =>
    intro p hp
    have hz : (s.size : Int) = p.length := by rw [← bytes_length, hp]; simp
    refine Ev.step (fun k => by rw [impl_IsName.l0]) ?_
    exact ev_neg (by omega) (Ev.now _)
  | cons x xs ih =>
    intro p hp
    have hz : (s.size : Int) = p.length + (xs.length + 1) := by rw [← bytes_length, hp]; simp
    have hb : bt s (p.length : Int) = x := by rw [bt_rd, hp]; exact rd_mid p x xs
    have hw : wrap64 ((p.length : Int) + 1) = ((p ++ [x]).length : Int) := wrap_next p x (by omega)
    have hi := ih (p ++ [x]) (by rw [hp]; simp)
    have hy : partB x = true → Ev (fun k => impl_IsName.l0 k s ((p ++ [x]).length : Int)) ((x :: xs).all partB) := fun h => ev_of hi (by simp [h])
    have hn : partB x = false → Ev (fun _ => some false) ((x :: xs).all partB) := fun h => ev_of (Ev.now _) (by simp [h])
    refine Ev.step (fun k => by rw [impl_IsName.l0]) ?_
    refine ev_pos (by omega) (ev_pos (by omega) ?_)
    rw [hb, hw]
    have tail : (¬ smallB x = true) → Ev (fun k => if x < 48 then if x = 45 then impl_IsName.l0 k s ((p ++ [x]).length : Int) else some false else if x > 57 then if x = 45 then impl_IsName.l0 k s ((p ++ [x]).length : Int) else some false else impl_IsName.l0 k s ((p ++ [x]).length : Int)) ((x :: xs).all partB) := by
      intro hsm
      refine ev_ite (fun h => ?_) (fun h => ?_)
      · refine ev_ite (fun h2 => hy ?_) (fun h2 => hn ?_)
        · simp [partB, h2]
        · simp only [Bool.not_eq_true] at hsm
          simp [partB, hsm, h2]; omega
      · refine ev_ite (fun h2 => ?_) (fun h2 => hy ?_)
        · refine ev_ite (fun h3 => hy ?_) (fun h3 => hn ?_)
          · simp [partB, h3]
          · simp only [Bool.not_eq_true] at hsm
            simp [partB, hsm, h3]; omega
        · simp [partB]; omega
    refine ev_ite (fun h => tail (by simp [smallB]; omega)) (fun h => ?_)
    refine ev_ite (fun h2 => tail (by simp [smallB]; omega)) (fun h2 => hy ?_)
    simp [partB, smallB]; omega

theorem spec_name (s : ByteArray) (_hs : s.size ≤ maxLen) : Ev (fun k => spec_IsName.f k s) (nameB s) := by
  have hl := bytes_length s
  unfold spec_IsName.f nameB nameL
  refine ev_ite (fun h => ?_) (fun h => ?_)
  · rw [bytes_nil] at h
    rw [h]
    refine Ev.step (fun k => by rw [spec_IsName.j0]) ?_
    exact ev_pos rfl (Ev.now _)
  · rw [bytes_nil] at h
    cases hb : bytesOf s with
    | nil => exact absurd hb h
    | cons c cs =>
      rw [hb] at hl
      have hl2 : (s.size : Int) = cs.length + 1 := by rw [← hl]; simp
      have hc : bt s 0 = c := by rw [bt_rd, hb]; rfl
      refine ev_ite (fun h1 => ?_) (fun h1 => ?_)
      · refine Ev.step (fun k => by rw [spec_IsName.j0]) ?_
        refine ev_pos rfl (ev_of (Ev.now _) ?_)
        simp; omega
      · refine ev_pos (by omega) ?_
        rw [hc]
        refine ev_bind0 (small_some c) ?_
        refine Ev.step (fun k => by rw [spec_IsName.j0]) ?_
        refine ev_ite (fun h2 => ?_) (fun h2 => ?_)
        · refine ev_of (Ev.now _) ?_
          simp at h2
          simp [h2]
        · simp at h2
          refine ev_of (spec_name_loop s (by omega) (c :: cs) [] hb) ?_
          simp [h2]; omega
theorem impl_name (s : ByteArray) (_hs : s.size ≤ maxLen) : Ev (fun k => impl_IsName.f k s) (nameB s) := by
  have hl := bytes_length s
  unfold impl_IsName.f nameB nameL
  have no : ∀ v : Bool, v = false → Ev (fun k => impl_IsName.j0 k s true) v := fun v h => Ev.step (fun k => by rw [impl_IsName.j0]) (ev_pos rfl (ev_of (Ev.now _) h.symm))
  cases hb : bytesOf s with
  | nil =>
    rw [hb] at hl
    exact ev_pos (by simp at hl; omega) (no _ rfl)
  | cons c cs =>
    rw [hb] at hl
    have hl2 : (s.size : Int) = cs.length + 1 := by rw [← hl]; simp
    have hc : bt s 0 = c := by rw [bt_rd, hb]; rfl
    refine ev_neg (by omega) (ev_ite (fun h1 => no _ ?_) (fun h1 => ?_))
    · simp; omega
    · refine ev_pos (by omega) ?_
      rw [hc]
      refine ev_ite (fun h2 => no _ ?_) (fun h2 => ?_)
      · simp [smallB]; omega
      · refine Ev.step (fun k => by rw [impl_IsName.j0]) ?_
        refine ev_ite (fun h3 => ?_) (fun h3 => ?_)
        · refine ev_of (Ev.now _) ?_
          simp at h3
          simp [smallB]; omega
        · simp at h3
          refine ev_of (impl_name_loop s (by omega) (c :: cs) [] hb) ?_
          simp [smallB]; omega
end Go.Proofs.YtcenjcgfdghfnaaB
end

section
/- Rail: what a list of them weighs, its copy, its comparison, its marks. -/
namespace Go.Proofs.YtcenjcgfdghfnaaB
open Go.RowKit Go.Proofs.YtcenjcgfdghfnaaW.PrintWords Go.Proofs.YtcenjcgfdghfnaaW.PrintLast Go.Proofs.Ytcenjcgfdghfnaa.P

def toRail (x : S99) : S91 := ⟨x.f0, x.f1, x.f2⟩
theorem rd99_mid (p : List S99) (x : S99) (xs : List S99) : rd_T99 (p ++ x :: xs) (p.length : Int) = x := by
  unfold rd_T99
  exact getD_at p x xs _
theorem rd91_mid (p : List S91) (x : S91) (xs : List S91) : rd_T91 (p ++ x :: xs) (p.length : Int) = x := by
  unfold rd_T91
  exact getD_at p x xs _
theorem szRail_some (f0 : ByteArray) (f1 : ByteArray) (f2 : Int) (left : Int) (h0 : 0 ≤ left) (h1 : left ≤ 1048576) (h2 : f0.size ≤ maxLen) (h3 : f1.size ≤ maxLen) : ∃ r, laws_szRail.f f0 f1 f2 left = some r ∧ r ≤ left ∧ (0 ≤ r → (f0.size : Int) ≤ left) ∧ (0 ≤ r → (f1.size : Int) ≤ left) := by
  unfold maxLen at h2
  unfold maxLen at h3
  unfold laws_szRail.f
  rw [wrap_small (i := left - (f0.size : Int)) (by omega) (by omega)]
  by_cases c0 : left - (f0.size : Int) < 0
  · rw [if_pos c0]
    exact ⟨_, rfl, by omega, fun h => absurd h (by omega), fun h => absurd h (by omega)⟩
  · rw [if_neg c0]
    rw [wrap_small (i := left - (f0.size : Int) - (f1.size : Int)) (by omega) (by omega)]
    by_cases c1 : left - (f0.size : Int) - (f1.size : Int) < 0
    · rw [if_pos c1]
      exact ⟨_, rfl, by omega, fun h => absurd h (by omega), fun h => absurd h (by omega)⟩
    · rw [if_neg c1]
      exact ⟨_, rfl, by omega, fun _ => by omega, fun _ => by omega⟩
theorem szRailS_loop : ∀ (xs p : List S99) (left : Int), p.length + xs.length ≤ 4611686018427387904 → 0 ≤ left → left ≤ 1048576 → (∀ x ∈ xs, (x.f0.size ≤ maxLen ∧ x.f1.size ≤ maxLen)) → ∃ r, Ev (fun k => laws_szRailS.l0 k (p ++ xs) left (p.length : Int)) r ∧ r ≤ left ∧ (0 ≤ r → ∀ x ∈ xs, ((x.f0.size : Int) ≤ left ∧ (x.f1.size : Int) ≤ left)) := by
  intro xs
  induction xs with
  | nil =>
    intro p left _ h0 h1 _
    exact ⟨left, Ev.step (fun k => by rw [laws_szRailS.l0]) (ev_neg (not_lt_end p) (Ev.now _)), Int.le_refl _, fun _ x hx => by simp at hx⟩
  | cons x xs ih =>
    intro p left hl h0 h1 hs
    have hx := hs x List.mem_cons_self
    rw [List.length_cons] at hl
    have hw : wrap64 ((p.length : Int) + 1) = ((p ++ [x]).length : Int) := wrap_next p x (by omega)
    obtain ⟨r, e, hr, b0, b1⟩ := szRail_some x.f0 x.f1 x.f2 left h0 h1 hx.1 hx.2
    by_cases hn : r < 0
    · refine ⟨-1, Ev.step (fun k => by rw [laws_szRailS.l0]) (ev_pos (lt_mid p x xs) (ev_pos (Int.natCast_nonneg _) ?_)), by omega, fun h => absurd h (by decide)⟩
      rw [rd99_mid]
      exact ev_bind0 e (ev_pos hn (Ev.now _))
    · obtain ⟨q, h2, h3, h4⟩ := ih (p ++ [x]) r (by rw [List.length_append]; simp; omega) (by omega) (by omega) (fun y hy => hs y (List.mem_cons_of_mem _ hy))
      refine ⟨q, Ev.step (fun k => by rw [laws_szRailS.l0]) (ev_pos (lt_mid p x xs) (ev_pos (Int.natCast_nonneg _) ?_)), by omega, fun h y hy => ?_⟩
      · rw [rd99_mid, hw, push_mid p x xs]
        exact ev_bind0 e (ev_neg hn h2)
      · rcases List.mem_cons.1 hy with rfl | hy
        · exact ⟨b0 (by omega), b1 (by omega)⟩
        · have := h4 h y hy
          omega
theorem szRailS_ev (l : List S99) (left : Int) (h0 : 0 ≤ left) (h1 : left ≤ 1048576) (hl : l.length ≤ maxLen ∧ ∀ x ∈ l, (x.f0.size ≤ maxLen ∧ x.f1.size ≤ maxLen ∧ (Lit.int .i64 x.f2).wf = true)) : ∃ r, Ev (fun k => laws_szRailS.f k l left) r ∧ r ≤ left ∧ (0 ≤ r → (l.length : Int) ≤ left ∧ ∀ x ∈ l, ((x.f0.size : Int) ≤ left ∧ (x.f1.size : Int) ≤ left)) := by
  obtain ⟨hm, hq⟩ := hl
  have hm2 := hm
  unfold maxLen at hm2
  unfold laws_szRailS.f
  rw [wrap_small (i := left - (l.length : Int)) (by omega) (by omega)]
  by_cases c : left - (l.length : Int) < 0
  · exact ⟨-1, ev_pos c (Ev.now _), by omega, fun h => absurd h (by decide)⟩
  · obtain ⟨r, h2, h3, h4⟩ := szRailS_loop l [] (left - (l.length : Int)) (by simp; omega) (by omega) (by omega) (fun x hx => by have := hq x hx; exact ⟨this.1, this.2.1⟩)
    refine ⟨r, ev_neg c h2, by omega, fun h => ⟨by omega, fun x hx => ?_⟩⟩
    have := h4 h x hx
    omega
theorem toRail_some (f0 : ByteArray) (f1 : ByteArray) (f2 : Int) : laws_toRail.f f0 f1 f2 = some (f0, f1, f2) := rfl
theorem toRailS_loop : ∀ (xs p : List S99), p.length + xs.length ≤ 1048576 → Ev (fun k => laws_toRailS.l0 k (p ++ xs) (p.map toRail ++ List.replicate xs.length z91) (p.length : Int)) ((p ++ xs).map toRail) := by
  intro xs
  induction xs with
  | nil =>
    intro p _
    refine Ev.step (fun k => by rw [laws_toRailS.l0]) ?_
    refine ev_neg (not_lt_end p) (ev_of (Ev.now _) ?_)
    simp
  | cons x xs ih =>
    intro p hl
    rw [List.length_cons] at hl
    have hw : wrap64 ((p.length : Int) + 1) = ((p ++ [x]).length : Int) := wrap_next p x (by omega)
    have hi := ih (p ++ [x]) (by rw [List.length_append]; simp; omega)
    refine Ev.step (fun k => by rw [laws_toRailS.l0]) ?_
    refine ev_pos (lt_mid p x xs) (ev_pos (Int.natCast_nonneg _) ?_)
    rw [rd99_mid, hw]
    refine ev_bind0 (toRail_some x.f0 x.f1 x.f2) (ev_pos (by simp; omega) ?_)
    rw [List.length_cons, List.replicate_succ, set_mid' (p.map toRail) p (List.length_map _), push_mid p x xs]
    have e : (p ++ [x]).map toRail ++ List.replicate xs.length z91 = p.map toRail ++ toRail x :: List.replicate xs.length z91 := by simp
    rw [e] at hi
    exact hi
theorem toRailS_ev (l : List S99) (hl : l.length ≤ 1048576) : Ev (fun k => laws_toRailS.f k l) (l.map toRail) := by
  have h := toRailS_loop l [] (by simp; omega)
  unfold laws_toRailS.f
  refine ev_pos (Int.natCast_nonneg _) (ev_pos (by simp; omega) ?_)
  simpa using h
def GoodRail (x : S91) : Prop := x.f0.size ≤ 1048576 ∧ x.f1.size ≤ 1048576 ∧ I64 x.f2
theorem goodRail_of (x : S99) (hq : (x.f0.size ≤ maxLen ∧ x.f1.size ≤ maxLen ∧ (Lit.int .i64 x.f2).wf = true)) (hs : ((x.f0.size : Int) ≤ 1048576 ∧ (x.f1.size : Int) ≤ 1048576)) : GoodRail (toRail x) := ⟨by have := hs.1; show x.f0.size ≤ 1048576; omega, by have := hs.2; show x.f1.size ≤ 1048576; omega, i64_of_wf hq.2.2⟩
theorem goodRailS_of (l : List S99) (left : Int) (hle : left ≤ 1048576) (hq : l.length ≤ maxLen ∧ ∀ x ∈ l, (x.f0.size ≤ maxLen ∧ x.f1.size ≤ maxLen ∧ (Lit.int .i64 x.f2).wf = true)) (hs : (l.length : Int) ≤ left ∧ ∀ x ∈ l, ((x.f0.size : Int) ≤ left ∧ (x.f1.size : Int) ≤ left)) : (l.map toRail).length ≤ 1048576 ∧ ∀ y ∈ l.map toRail, GoodRail y := by
  refine ⟨by rw [List.length_map]; omega, fun y hy => ?_⟩
  obtain ⟨x, hx, rfl⟩ := List.mem_map.1 hy
  have := hs.2 x hx
  exact goodRail_of x (hq.2 x hx) ⟨by omega, by omega⟩
theorem eqRail_refl (f0 : ByteArray) (f1 : ByteArray) (f2 : Int) : laws_eqRail.f f0 f1 f2 f0 f1 f2 = some true := by
  unfold laws_eqRail.f
  simp
theorem eqRailS_loop : ∀ (xs p : List S91), p.length + xs.length ≤ 4611686018427387904 → Ev (fun k => laws_eqRailS.l0 k (p ++ xs) (p ++ xs) (p.length : Int)) true := by
  intro xs
  induction xs with
  | nil =>
    intro p _
    refine Ev.step (fun k => by rw [laws_eqRailS.l0]) ?_
    exact ev_neg (not_lt_end p) (Ev.now _)
  | cons x xs ih =>
    intro p hl
    rw [List.length_cons] at hl
    have hw : wrap64 ((p.length : Int) + 1) = ((p ++ [x]).length : Int) := wrap_next p x (by omega)
    have hi := ih (p ++ [x]) (by rw [List.length_append]; simp; omega)
    refine Ev.step (fun k => by rw [laws_eqRailS.l0]) ?_
    refine ev_pos (lt_mid p x xs) (ev_pos (Int.natCast_nonneg _) (ev_pos (lt_mid p x xs) ?_))
    rw [rd91_mid, hw, push_mid p x xs]
    exact ev_bind0 (eqRail_refl x.f0 x.f1 x.f2) (ev_pos rfl hi)
theorem eqRailS_refl (l : List S91) (hl : l.length ≤ 4611686018427387904) : Ev (fun k => laws_eqRailS.f k l l) true := by
  unfold laws_eqRailS.f
  exact ev_pos rfl (eqRailS_loop l [] (by simp; omega))
end Go.Proofs.YtcenjcgfdghfnaaB
end

section
/- Belay: what a list of them weighs, its copy, its comparison, its marks. -/
namespace Go.Proofs.YtcenjcgfdghfnaaB
open Go.RowKit Go.Proofs.YtcenjcgfdghfnaaW.PrintWords Go.Proofs.YtcenjcgfdghfnaaW.PrintLast Go.Proofs.Ytcenjcgfdghfnaa.P

def toBelay (x : S101) : S41 := ⟨x.f0, x.f1, x.f2⟩
theorem rd101_mid (p : List S101) (x : S101) (xs : List S101) : rd_T101 (p ++ x :: xs) (p.length : Int) = x := by
  unfold rd_T101
  exact getD_at p x xs _
theorem rd41_mid (p : List S41) (x : S41) (xs : List S41) : rd_T41 (p ++ x :: xs) (p.length : Int) = x := by
  unfold rd_T41
  exact getD_at p x xs _
theorem szBelay_some (f0 : ByteArray) (f1 : ByteArray) (f2 : Int) (left : Int) (h0 : 0 ≤ left) (h1 : left ≤ 1048576) (h2 : f0.size ≤ maxLen) (h3 : f1.size ≤ maxLen) : ∃ r, laws_szBelay.f f0 f1 f2 left = some r ∧ r ≤ left ∧ (0 ≤ r → (f0.size : Int) ≤ left) ∧ (0 ≤ r → (f1.size : Int) ≤ left) := by
  unfold maxLen at h2
  unfold maxLen at h3
  unfold laws_szBelay.f
  rw [wrap_small (i := left - (f0.size : Int)) (by omega) (by omega)]
  by_cases c0 : left - (f0.size : Int) < 0
  · rw [if_pos c0]
    exact ⟨_, rfl, by omega, fun h => absurd h (by omega), fun h => absurd h (by omega)⟩
  · rw [if_neg c0]
    rw [wrap_small (i := left - (f0.size : Int) - (f1.size : Int)) (by omega) (by omega)]
    by_cases c1 : left - (f0.size : Int) - (f1.size : Int) < 0
    · rw [if_pos c1]
      exact ⟨_, rfl, by omega, fun h => absurd h (by omega), fun h => absurd h (by omega)⟩
    · rw [if_neg c1]
      exact ⟨_, rfl, by omega, fun _ => by omega, fun _ => by omega⟩
theorem szBelayS_loop : ∀ (xs p : List S101) (left : Int), p.length + xs.length ≤ 4611686018427387904 → 0 ≤ left → left ≤ 1048576 → (∀ x ∈ xs, (x.f0.size ≤ maxLen ∧ x.f1.size ≤ maxLen)) → ∃ r, Ev (fun k => laws_szBelayS.l0 k (p ++ xs) left (p.length : Int)) r ∧ r ≤ left ∧ (0 ≤ r → ∀ x ∈ xs, ((x.f0.size : Int) ≤ left ∧ (x.f1.size : Int) ≤ left)) := by
  intro xs
  induction xs with
  | nil =>
    intro p left _ h0 h1 _
    exact ⟨left, Ev.step (fun k => by rw [laws_szBelayS.l0]) (ev_neg (not_lt_end p) (Ev.now _)), Int.le_refl _, fun _ x hx => by simp at hx⟩
  | cons x xs ih =>
    intro p left hl h0 h1 hs
    have hx := hs x List.mem_cons_self
    rw [List.length_cons] at hl
    have hw : wrap64 ((p.length : Int) + 1) = ((p ++ [x]).length : Int) := wrap_next p x (by omega)
    obtain ⟨r, e, hr, b0, b1⟩ := szBelay_some x.f0 x.f1 x.f2 left h0 h1 hx.1 hx.2
    by_cases hn : r < 0
    · refine ⟨-1, Ev.step (fun k => by rw [laws_szBelayS.l0]) (ev_pos (lt_mid p x xs) (ev_pos (Int.natCast_nonneg _) ?_)), by omega, fun h => absurd h (by decide)⟩
      rw [rd101_mid]
      exact ev_bind0 e (ev_pos hn (Ev.now _))
    · obtain ⟨q, h2, h3, h4⟩ := ih (p ++ [x]) r (by rw [List.length_append]; simp; omega) (by omega) (by omega) (fun y hy => hs y (List.mem_cons_of_mem _ hy))
      refine ⟨q, Ev.step (fun k => by rw [laws_szBelayS.l0]) (ev_pos (lt_mid p x xs) (ev_pos (Int.natCast_nonneg _) ?_)), by omega, fun h y hy => ?_⟩
      · rw [rd101_mid, hw, push_mid p x xs]
        exact ev_bind0 e (ev_neg hn h2)
      · rcases List.mem_cons.1 hy with rfl | hy
        · exact ⟨b0 (by omega), b1 (by omega)⟩
        · have := h4 h y hy
          omega
theorem szBelayS_ev (l : List S101) (left : Int) (h0 : 0 ≤ left) (h1 : left ≤ 1048576) (hl : l.length ≤ maxLen ∧ ∀ x ∈ l, (x.f0.size ≤ maxLen ∧ x.f1.size ≤ maxLen ∧ (Lit.int .i64 x.f2).wf = true)) : ∃ r, Ev (fun k => laws_szBelayS.f k l left) r ∧ r ≤ left ∧ (0 ≤ r → (l.length : Int) ≤ left ∧ ∀ x ∈ l, ((x.f0.size : Int) ≤ left ∧ (x.f1.size : Int) ≤ left)) := by
  obtain ⟨hm, hq⟩ := hl
  have hm2 := hm
  unfold maxLen at hm2
  unfold laws_szBelayS.f
  rw [wrap_small (i := left - (l.length : Int)) (by omega) (by omega)]
  by_cases c : left - (l.length : Int) < 0
  · exact ⟨-1, ev_pos c (Ev.now _), by omega, fun h => absurd h (by decide)⟩
  · obtain ⟨r, h2, h3, h4⟩ := szBelayS_loop l [] (left - (l.length : Int)) (by simp; omega) (by omega) (by omega) (fun x hx => by have := hq x hx; exact ⟨this.1, this.2.1⟩)
    refine ⟨r, ev_neg c h2, by omega, fun h => ⟨by omega, fun x hx => ?_⟩⟩
    have := h4 h x hx
    omega
theorem toBelay_some (f0 : ByteArray) (f1 : ByteArray) (f2 : Int) : laws_toBelay.f f0 f1 f2 = some (f0, f1, f2) := rfl
theorem toBelayS_loop : ∀ (xs p : List S101), p.length + xs.length ≤ 1048576 → Ev (fun k => laws_toBelayS.l0 k (p ++ xs) (p.map toBelay ++ List.replicate xs.length z41) (p.length : Int)) ((p ++ xs).map toBelay) := by
  intro xs
  induction xs with
  | nil =>
    intro p _
    refine Ev.step (fun k => by rw [laws_toBelayS.l0]) ?_
    refine ev_neg (not_lt_end p) (ev_of (Ev.now _) ?_)
    simp
  | cons x xs ih =>
    intro p hl
    rw [List.length_cons] at hl
    have hw : wrap64 ((p.length : Int) + 1) = ((p ++ [x]).length : Int) := wrap_next p x (by omega)
    have hi := ih (p ++ [x]) (by rw [List.length_append]; simp; omega)
    refine Ev.step (fun k => by rw [laws_toBelayS.l0]) ?_
    refine ev_pos (lt_mid p x xs) (ev_pos (Int.natCast_nonneg _) ?_)
    rw [rd101_mid, hw]
    refine ev_bind0 (toBelay_some x.f0 x.f1 x.f2) (ev_pos (by simp; omega) ?_)
    rw [List.length_cons, List.replicate_succ, set_mid' (p.map toBelay) p (List.length_map _), push_mid p x xs]
    have e : (p ++ [x]).map toBelay ++ List.replicate xs.length z41 = p.map toBelay ++ toBelay x :: List.replicate xs.length z41 := by simp
    rw [e] at hi
    exact hi
theorem toBelayS_ev (l : List S101) (hl : l.length ≤ 1048576) : Ev (fun k => laws_toBelayS.f k l) (l.map toBelay) := by
  have h := toBelayS_loop l [] (by simp; omega)
  unfold laws_toBelayS.f
  refine ev_pos (Int.natCast_nonneg _) (ev_pos (by simp; omega) ?_)
  simpa using h
def GoodBelay (x : S41) : Prop := x.f0.size ≤ 1048576 ∧ x.f1.size ≤ 1048576 ∧ I64 x.f2
theorem goodBelay_of (x : S101) (hq : (x.f0.size ≤ maxLen ∧ x.f1.size ≤ maxLen ∧ (Lit.int .i64 x.f2).wf = true)) (hs : ((x.f0.size : Int) ≤ 1048576 ∧ (x.f1.size : Int) ≤ 1048576)) : GoodBelay (toBelay x) := ⟨by have := hs.1; show x.f0.size ≤ 1048576; omega, by have := hs.2; show x.f1.size ≤ 1048576; omega, i64_of_wf hq.2.2⟩
theorem goodBelayS_of (l : List S101) (left : Int) (hle : left ≤ 1048576) (hq : l.length ≤ maxLen ∧ ∀ x ∈ l, (x.f0.size ≤ maxLen ∧ x.f1.size ≤ maxLen ∧ (Lit.int .i64 x.f2).wf = true)) (hs : (l.length : Int) ≤ left ∧ ∀ x ∈ l, ((x.f0.size : Int) ≤ left ∧ (x.f1.size : Int) ≤ left)) : (l.map toBelay).length ≤ 1048576 ∧ ∀ y ∈ l.map toBelay, GoodBelay y := by
  refine ⟨by rw [List.length_map]; omega, fun y hy => ?_⟩
  obtain ⟨x, hx, rfl⟩ := List.mem_map.1 hy
  have := hs.2 x hx
  exact goodBelay_of x (hq.2 x hx) ⟨by omega, by omega⟩
theorem eqBelay_refl (f0 : ByteArray) (f1 : ByteArray) (f2 : Int) : laws_eqBelay.f f0 f1 f2 f0 f1 f2 = some true := by
  unfold laws_eqBelay.f
  simp
theorem eqBelayS_loop : ∀ (xs p : List S41), p.length + xs.length ≤ 4611686018427387904 → Ev (fun k => laws_eqBelayS.l0 k (p ++ xs) (p ++ xs) (p.length : Int)) true := by
  intro xs
  induction xs with
  | nil =>
    intro p _
    refine Ev.step (fun k => by rw [laws_eqBelayS.l0]) ?_
    exact ev_neg (not_lt_end p) (Ev.now _)
  | cons x xs ih =>
    intro p hl
    rw [List.length_cons] at hl
    have hw : wrap64 ((p.length : Int) + 1) = ((p ++ [x]).length : Int) := wrap_next p x (by omega)
    have hi := ih (p ++ [x]) (by rw [List.length_append]; simp; omega)
    refine Ev.step (fun k => by rw [laws_eqBelayS.l0]) ?_
    refine ev_pos (lt_mid p x xs) (ev_pos (Int.natCast_nonneg _) (ev_pos (lt_mid p x xs) ?_))
    rw [rd41_mid, hw, push_mid p x xs]
    exact ev_bind0 (eqBelay_refl x.f0 x.f1 x.f2) (ev_pos rfl hi)
theorem eqBelayS_refl (l : List S41) (hl : l.length ≤ 4611686018427387904) : Ev (fun k => laws_eqBelayS.f k l l) true := by
  unfold laws_eqBelayS.f
  exact ev_pos rfl (eqBelayS_loop l [] (by simp; omega))
end Go.Proofs.YtcenjcgfdghfnaaB
end

section
/- Rigs: what adding a rail, a line, a belay comes to, of both; whether a rig is valid. -/
namespace Go.Proofs.YtcenjcgfdghfnaaB
open Go.RowKit Go.Proofs.YtcenjcgfdghfnaaW.PrintWords Go.Proofs.YtcenjcgfdghfnaaW.PrintLast Go.Proofs.Ytcenjcgfdghfnaa.P

abbrev R := S91
abbrev L := S41
def hasT (l : List ByteArray) (a : ByteArray) : Bool := l.any fun b => b.toList == a.toList
section
variable (f1 : List ByteArray)
theorem goR_range : ∀ (l : List R) (a : ByteArray) (i : Int), 0 ≤ i → impl_railNamed.go l a i = -1 ∨ (i ≤ impl_railNamed.go l a i ∧ impl_railNamed.go l a i < i + l.length)
  | [], a, i, _ => .inl rfl
  | x :: l, a, i, h0 => by
    rw [impl_railNamed.go, List.length_cons]
    have := goR_range l a (i + 1) (by omega)
    by_cases h : x.f0.toList = a.toList
    · rw [if_pos h]; omega
    · rw [if_neg h]; omega
theorem goOf_range : ∀ (l : List L) (a : ByteArray) (i : Int), 0 ≤ i → impl_belayOf.go l a i = -1 ∨ (i ≤ impl_belayOf.go l a i ∧ impl_belayOf.go l a i < i + l.length)
  | [], a, i, _ => .inl rfl
  | x :: l, a, i, h0 => by
    rw [impl_belayOf.go, List.length_cons]
    have := goOf_range l a (i + 1) (by omega)
    by_cases h : x.f0.toList = a.toList
    · rw [if_pos h]; omega
    · rw [if_neg h]; omega
theorem rail_loop (a : ByteArray) (f2 : List L) : ∀ (xs p : List R), p.length + xs.length ≤ 1048576 → Ev (fun k => spec_l19Rail.l0 k a (p.length : Int) (p ++ xs) f1 f2) (impl_railNamed.go xs a (p.length : Int)) := by
  intro xs
  induction xs with
  | nil =>
    intro p _
    refine Ev.step (fun k => by rw [spec_l19Rail.l0]) ?_
    exact ev_neg (not_lt_end p) (Ev.now _)
  | cons x xs ih =>
    intro p hl
    rw [List.length_cons] at hl
    have hw : wrap64 ((p.length : Int) + 1) = ((p ++ [x]).length : Int) := wrap_next p x (by omega)
    have hi := ih (p ++ [x]) (by rw [List.length_append]; simp; omega)
    have hz : ((p ++ [x]).length : Int) = (p.length : Int) + 1 := by simp
    refine Ev.step (fun k => by rw [spec_l19Rail.l0]) ?_
    refine ev_pos (lt_mid p x xs) (ev_pos (Int.natCast_nonneg _) ?_)
    rw [rd91_mid, impl_railNamed.go, hw]
    rw [← push_mid p x xs, hz] at hi
    rw [hz]
    refine ev_ite (fun h => ev_of (Ev.now _) (by rw [if_pos h])) (fun h => ?_)
    rw [if_neg h]
    exact hi
theorem of_loop (a : ByteArray) (f0 : List R) : ∀ (xs p : List L), p.length + xs.length ≤ 1048576 → Ev (fun k => spec_l19Of.l0 k a (p.length : Int) f0 f1 (p ++ xs)) (impl_belayOf.go xs a (p.length : Int)) := by
  intro xs
  induction xs with
  | nil =>
    intro p _
    refine Ev.step (fun k => by rw [spec_l19Of.l0]) ?_
    exact ev_neg (not_lt_end p) (Ev.now _)
  | cons x xs ih =>
    intro p hl
    rw [List.length_cons] at hl
    have hw : wrap64 ((p.length : Int) + 1) = ((p ++ [x]).length : Int) := wrap_next p x (by omega)
    have hi := ih (p ++ [x]) (by rw [List.length_append]; simp; omega)
    have hz : ((p ++ [x]).length : Int) = (p.length : Int) + 1 := by simp
    refine Ev.step (fun k => by rw [spec_l19Of.l0]) ?_
    refine ev_pos (lt_mid p x xs) (ev_pos (Int.natCast_nonneg _) ?_)
    rw [rd41_mid, impl_belayOf.go, hw]
    rw [← push_mid p x xs, hz] at hi
    rw [hz]
    refine ev_ite (fun h => ev_of (Ev.now _) (by rw [if_pos h])) (fun h => ?_)
    rw [if_neg h]
    exact hi
theorem at_loop (a : ByteArray) (q : Int) (f0 : List R) : ∀ (xs p : List L), p.length + xs.length ≤ 1048576 → Ev (fun k => spec_l19At.l0 k a q (p.length : Int) f0 f1 (p ++ xs)) (impl_belayAt.go xs a q (p.length : Int)) := by
  intro xs
  induction xs with
  | nil =>
    intro p _
    refine Ev.step (fun k => by rw [spec_l19At.l0]) ?_
    exact ev_neg (not_lt_end p) (Ev.now _)
  | cons x xs ih =>
    intro p hl
    rw [List.length_cons] at hl
    have hw : wrap64 ((p.length : Int) + 1) = ((p ++ [x]).length : Int) := wrap_next p x (by omega)
    have hi := ih (p ++ [x]) (by rw [List.length_append]; simp; omega)
    have hz : ((p ++ [x]).length : Int) = (p.length : Int) + 1 := by simp
    refine Ev.step (fun k => by rw [spec_l19At.l0]) ?_
    refine ev_pos (lt_mid p x xs) (ev_pos (Int.natCast_nonneg _) ?_)
    rw [rd41_mid, impl_belayAt.go, hw]
    rw [← push_mid p x xs, hz] at hi
    rw [hz]
    by_cases h : x.f1.toList = a.toList
    · by_cases h2 : x.f2 = q
      · exact ev_pos h (ev_pos h2 (ev_of (Ev.now _) (by simp [h, h2])))
      · refine ev_pos h (ev_neg h2 (ev_of hi ?_))
        simp [h2]
    · refine ev_neg h (ev_of hi ?_)
      simp [h]
theorem line_loop (a : ByteArray) (f0 : List R) (f2 : List L) : ∀ (xs p : List ByteArray), p.length + xs.length ≤ 1048576 → Ev (fun k => spec_l19Line.l0 k a (p.length : Int) f0 (p ++ xs) f2) (hasT xs a) := by
  intro xs
  induction xs with
  | nil =>
    intro p _
    refine Ev.step (fun k => by rw [spec_l19Line.l0]) ?_
    exact ev_neg (not_lt_end p) (Ev.now _)
  | cons x xs ih =>
    intro p hl
    rw [List.length_cons] at hl
    have hw : wrap64 ((p.length : Int) + 1) = ((p ++ [x]).length : Int) := wrap_next p x (by omega)
    have hi := ih (p ++ [x]) (by rw [List.length_append]; simp; omega)
    refine Ev.step (fun k => by rw [spec_l19Line.l0]) ?_
    refine ev_pos (lt_mid p x xs) (ev_pos (Int.natCast_nonneg _) ?_)
    rw [rdOf_mid, hw, push_mid p x xs]
    refine ev_ite (fun h => ev_of (Ev.now _) (by simp [hasT, h])) (fun h => ev_of hi ?_)
    simp [hasT, h]
theorem has_loop (a : ByteArray) : ∀ (xs p : List ByteArray), p.length + xs.length ≤ 1048576 → ∃ r, Ev (fun k => slices_Index_string_string.l0 k (p ++ xs) a ((p ++ xs).length : Int) (p.length : Int)) r ∧ decide (r ≥ 0) = hasT xs a := by
  intro xs
  induction xs with
  | nil =>
    intro p _
    exact ⟨-1, Ev.step (fun k => by rw [slices_Index_string_string.l0]) (ev_neg (not_lt_end p) (Ev.now _)), rfl⟩
  | cons x xs ih =>
    intro p hl
    rw [List.length_cons] at hl
    have hw : wrap64 ((p.length : Int) + 1) = ((p ++ [x]).length : Int) := wrap_next p x (by omega)
    obtain ⟨r, hi, hd⟩ := ih (p ++ [x]) (by rw [List.length_append]; simp; omega)
    by_cases h : a.toList = x.toList
    · refine ⟨(p.length : Int), Ev.step (fun k => by rw [slices_Index_string_string.l0]) (ev_pos (lt_mid p x xs) (ev_pos (Int.natCast_nonneg _) (ev_pos (lt_mid p x xs) ?_))), ?_⟩
      · rw [rdOf_mid]
        exact ev_pos h (Ev.now _)
      · rw [decide_eq_true (Int.natCast_nonneg _)]
        simp [hasT, h]
    · refine ⟨r, Ev.step (fun k => by rw [slices_Index_string_string.l0]) (ev_pos (lt_mid p x xs) (ev_pos (Int.natCast_nonneg _) (ev_pos (lt_mid p x xs) ?_))), ?_⟩
      · rw [rdOf_mid, hw, push_mid p x xs]
        exact ev_neg h hi
      · rw [hd]
        have : (x.toList == a.toList) = false := by simpa using fun e => h e.symm
        simp [hasT, this]
end
section
variable (f0 : List R) (f1 : List ByteArray) (f2 : List L) (h0 : f0.length ≤ 1048576) (h1 : f1.length ≤ 1048576) (h2 : f2.length ≤ 1048576)
include h0 in
theorem spec_rail (a : ByteArray) : Ev (fun k => spec_l19Rail.f k f0 f1 f2 a) (impl_railNamed.go f0 a 0) := by
  unfold spec_l19Rail.f
  exact rail_loop f1 a f2 f0 [] (by simpa using h0)
include h1 in
theorem spec_line (a : ByteArray) : Ev (fun k => spec_l19Line.f k f0 f1 f2 a) (hasT f1 a) := by
  unfold spec_l19Line.f
  exact line_loop a f0 f2 f1 [] (by simpa using h1)
include h2 in
theorem spec_of (a : ByteArray) : Ev (fun k => spec_l19Of.f k f0 f1 f2 a) (impl_belayOf.go f2 a 0) := by
  unfold spec_l19Of.f
  exact of_loop f1 a f0 f2 [] (by simpa using h2)
include h2 in
theorem spec_at (a : ByteArray) (q : Int) : Ev (fun k => spec_l19At.f k f0 f1 f2 a q) (impl_belayAt.go f2 a q 0) := by
  unfold spec_l19At.f
  exact at_loop f1 a q f0 f2 [] (by simpa using h2)
end
theorem impl_has (f1 : List ByteArray) (h1 : f1.length ≤ 1048576) (a : ByteArray) : Ev (fun k => slices_Contains_string_string.f k f1 a) (hasT f1 a) := by
  unfold slices_Contains_string_string.f slices_Index_string_string.f
  obtain ⟨r, h, e⟩ := has_loop a f1 [] (by simpa using h1)
  exact Ev.bind h (ev_of (Ev.now _) e)
/-! ### what is added -/
def numB (lo hi n : Int) : Bool := decide (lo ≤ n) && decide (n ≤ hi)
def railV (f0 : List R) (a0 a1 : ByteArray) (a2 : Int) : List R × Int :=
  if nameB a0 = true then (if sideB a1 = true then (if numB 1 30 a2 = true then (if impl_railNamed.go f0 a0 0 ≥ 0 then (f0, 5) else if (f0.length : Int) ≥ 10 then (f0, 8) else (f0 ++ [⟨a0, a1, a2⟩], 0)) else (f0, 4)) else (f0, 1)) else (f0, 3)
def lineV (f1 : List ByteArray) (a : ByteArray) : List ByteArray × Int :=
  if nameB a = true then (if hasT f1 a = true then (f1, 5) else if (f1.length : Int) ≥ 60 then (f1, 8) else (f1 ++ [a], 0)) else (f1, 3)
def belayV (f0 : List R) (f1 : List ByteArray) (f2 : List L) (a0 a1 : ByteArray) (a2 : Int) : List L × Int :=
  if impl_railNamed.go f0 a1 0 < 0 then (f2, 6) else if hasT f1 a0 = true then (if numB 1 (rd_T91 f0 (impl_railNamed.go f0 a1 0)).f2 a2 = true then (if impl_belayOf.go f2 a0 0 ≥ 0 then (f2, 5) else if impl_belayAt.go f2 a1 a2 0 ≥ 0 then (f2, 7) else (f2 ++ [⟨a0, a1, a2⟩], 0)) else (f2, 4)) else (f2, 6)
theorem railV_len {f0 : List R} (h : f0.length ≤ 10) (a0 a1 : ByteArray) (a2 : Int) : (railV f0 a0 a1 a2).1.length ≤ 10 := by
  unfold railV
  split
  · split
    · split
      · split
        · exact h
        · split
          · exact h
          · simp; omega
      · exact h
    · exact h
  · exact h
theorem lineV_len {f1 : List ByteArray} (h : f1.length ≤ 60) (a : ByteArray) : (lineV f1 a).1.length ≤ 60 := by
  unfold lineV
  split
  · split
    · exact h
    · split
      · exact h
      · simp; omega
  · exact h
theorem belayV_len (f0 : List R) (f1 : List ByteArray) (f2 : List L) (a0 a1 : ByteArray) (a2 : Int) : (belayV f0 f1 f2 a0 a1 a2).1.length ≤ f2.length + 1 := by
  unfold belayV
  split
  · simp
  · split
    · split
      · split
        · simp
        · split <;> simp
      · simp
    · simp
theorem spec_addRail (f0 : List R) (h : f0.length ≤ 10) (f1 : List ByteArray) (f2 : List L) (a0 a1 : ByteArray) (a2 : Int) (hs : a0.size ≤ maxLen) : Ev (fun k => spec_l19AddRail.f k f0 f1 f2 a0 a1 a2) (railV f0 a0 a1 a2) := by
  unfold spec_l19AddRail.f railV
  refine Ev.bind (spec_name a0 hs) (ev_ite (fun h1 => ?_) (fun h1 => ev_of (Ev.now _) (by rw [if_neg h1])))
  rw [if_pos h1]
  refine ev_ite (fun h2 => ?_) (fun h2 => ev_of (Ev.now _) (by rw [if_neg h2]))
  rw [if_pos h2]
  refine ev_bind0 (in_some _ _ _) (ev_ite (fun h3 => ?_) (fun h3 => ev_of (Ev.now _) (by rw [if_neg (by simpa only [numB] using h3)])))
  rw [if_pos (show numB 1 30 a2 = true from h3)]
  refine Ev.bind (spec_rail f0 f1 f2 (by omega) a0) (ev_ite (fun h4 => ev_of (Ev.now _) (by rw [if_pos h4])) (fun h4 => ?_))
  rw [if_neg h4]
  refine ev_ite (fun h5 => ev_of (Ev.now _) (by rw [if_pos h5])) (fun h5 => ?_)
  rw [if_neg h5]
  exact ev_pos (by omega) (Ev.now _)
theorem impl_addRailV (f0 : List R) (h : f0.length ≤ 10) (f1 : List ByteArray) (f2 : List L) (a0 a1 : ByteArray) (a2 : Int) (hs : a0.size ≤ maxLen) : Ev (fun k => impl_addRail.f k f0 f1 f2 a0 a1 a2) (railV f0 a0 a1 a2) := by
  unfold impl_addRail.f railV
  refine Ev.bind (impl_name a0 hs) (ev_ite (fun h1 => ?_) (fun h1 => ev_of (Ev.now _) (by rw [if_neg h1])))
  rw [if_pos h1]
  refine ev_ite (fun h2 => ?_) (fun h2 => ev_of (Ev.now _) (by rw [if_neg h2]))
  rw [if_pos h2]
  refine ev_bind0 (within_some _ _ _) (ev_ite (fun h3 => ?_) (fun h3 => ev_of (Ev.now _) (by rw [if_neg (by simpa only [numB] using h3)])))
  rw [if_pos (show numB 1 30 a2 = true from h3)]
  refine ev_bind0 (show impl_railNamed.f f0 f1 f2 a0 = some (impl_railNamed.go f0 a0 0) from rfl) (ev_ite (fun h4 => ev_of (Ev.now _) (by rw [if_pos h4])) (fun h4 => ?_))
  rw [if_neg h4]
  by_cases h5 : (f0.length : Int) ≥ 10
  · rw [if_pos h5]
    exact ev_pos (by omega) (Ev.now _)
  · rw [if_neg h5]
    exact ev_neg (by omega) (ev_pos (by omega) (Ev.now _))
theorem spec_addLine (f0 : List R) (f1 : List ByteArray) (h : f1.length ≤ 60) (f2 : List L) (a : ByteArray) (hs : a.size ≤ maxLen) : Ev (fun k => spec_l19AddLine.f k f0 f1 f2 a) (lineV f1 a) := by
  unfold spec_l19AddLine.f lineV
  refine Ev.bind (spec_name a hs) (ev_ite (fun h1 => ?_) (fun h1 => ev_of (Ev.now _) (by rw [if_neg h1])))
  rw [if_pos h1]
  refine Ev.bind (spec_line f0 f1 f2 (by omega) a) (ev_ite (fun h4 => ev_of (Ev.now _) (by rw [if_pos h4])) (fun h4 => ?_))
  rw [if_neg h4]
  refine ev_ite (fun h5 => ev_of (Ev.now _) (by rw [if_pos h5])) (fun h5 => ?_)
  rw [if_neg h5]
  exact ev_pos (by omega) (Ev.now _)
theorem impl_addLineV (f0 : List R) (f1 : List ByteArray) (h : f1.length ≤ 60) (f2 : List L) (a : ByteArray) (hs : a.size ≤ maxLen) : Ev (fun k => impl_addLine.f k f0 f1 f2 a) (lineV f1 a) := by
  unfold impl_addLine.f lineV
  refine Ev.bind (impl_name a hs) (ev_ite (fun h1 => ?_) (fun h1 => ev_of (Ev.now _) (by rw [if_neg h1])))
  rw [if_pos h1]
  refine Ev.bind (impl_has f1 (by omega) a) (ev_ite (fun h4 => ev_of (Ev.now _) (by rw [if_pos h4])) (fun h4 => ?_))
  rw [if_neg h4]
  by_cases h5 : (f1.length : Int) ≥ 60
  · rw [if_pos h5]
    exact ev_pos (by omega) (Ev.now _)
  · rw [if_neg h5]
    exact ev_neg (by omega) (ev_pos (by omega) (Ev.now _))
section
variable (f0 : List R) (f1 : List ByteArray) (f2 : List L) (h0 : f0.length ≤ 1048576) (h1 : f1.length ≤ 1048576) (h2 : f2.length ≤ 1048576) (a0 a1 : ByteArray) (a2 : Int)
include h0 h1 h2
theorem spec_addBelay : Ev (fun k => spec_l19AddBelay.f k f0 f1 f2 a0 a1 a2) (belayV f0 f1 f2 a0 a1 a2) := by
  unfold spec_l19AddBelay.f belayV
  have hr := goR_range f0 a1 0 (by omega)
  refine Ev.bind (spec_rail f0 f1 f2 h0 a1) (ev_ite (fun h3 => ev_of (Ev.now _) (by rw [if_pos h3])) (fun h3 => ?_))
  rw [if_neg h3]
  refine Ev.bind (spec_line f0 f1 f2 h1 a0) (ev_ite (fun h4 => ?_) (fun h4 => ev_of (Ev.now _) (by rw [if_neg h4])))
  rw [if_pos h4]
  refine ev_pos (by omega) (ev_bind0 (in_some _ _ _) (ev_ite (fun h5 => ?_) (fun h5 => ev_of (Ev.now _) (by rw [if_neg (by simpa only [numB] using h5)]))))
  rw [if_pos (show numB 1 _ a2 = true from h5)]
  refine Ev.bind (spec_of f0 f1 f2 h2 a0) (ev_ite (fun h6 => ev_of (Ev.now _) (by rw [if_pos h6])) (fun h6 => ?_))
  rw [if_neg h6]
  refine Ev.bind (spec_at f0 f1 f2 h2 a1 a2) (ev_ite (fun h7 => ev_of (Ev.now _) (by rw [if_pos h7])) (fun h7 => ?_))
  rw [if_neg h7]
  exact ev_pos (by omega) (Ev.now _)
omit h0 in
theorem impl_addBelayV : Ev (fun k => impl_addBelay.f k f0 f1 f2 a0 a1 a2) (belayV f0 f1 f2 a0 a1 a2) := by
  unfold impl_addBelay.f belayV
  have hr := goR_range f0 a1 0 (by omega)
  refine ev_bind0 (show impl_railNamed.f f0 f1 f2 a1 = some (impl_railNamed.go f0 a1 0) from rfl) (ev_ite (fun h3 => ev_of (Ev.now _) (by rw [if_pos h3])) (fun h3 => ?_))
  rw [if_neg h3]
  refine Ev.bind (impl_has f1 h1 a0) (ev_ite (fun h4 => ?_) (fun h4 => ev_of (Ev.now _) (by rw [if_neg h4])))
  rw [if_pos h4]
  have hp : impl_hasPin.f f0 f1 f2 a1 a2 = some (numB 1 (rd_T91 f0 (impl_railNamed.go f0 a1 0)).f2 a2) := by
    unfold impl_hasPin.f
    rw [show impl_railNamed.f f0 f1 f2 a1 = some (impl_railNamed.go f0 a1 0) from rfl, Option.bind_some, if_pos (by omega), if_pos (by omega), if_pos (by omega), within_some]
    rfl
  refine ev_bind0 hp (ev_ite (fun h5 => ?_) (fun h5 => ev_of (Ev.now _) (by rw [if_neg h5])))
  rw [if_pos h5]
  refine ev_bind0 (show impl_belayOf.f f0 f1 f2 a0 = some (impl_belayOf.go f2 a0 0) from rfl) (ev_ite (fun h6 => ev_of (Ev.now _) (by rw [if_pos h6])) (fun h6 => ?_))
  rw [if_neg h6]
  refine ev_bind0 (show impl_belayAt.f f0 f1 f2 a1 a2 = some (impl_belayAt.go f2 a1 a2 0) from rfl) (ev_ite (fun h7 => ev_of (Ev.now _) (by rw [if_pos h7])) (fun h7 => ?_))
  rw [if_neg h7]
  exact ev_pos (by omega) (Ev.now _)
end
/-! ### a rig is valid if it can be built anew -/
def railsV : List R → List R → Option (List R)
  | [], b => some b
  | x :: xs, b => if (railV b x.f0 x.f1 x.f2).2 = 0 then railsV xs (railV b x.f0 x.f1 x.f2).1 else none
def linesV : List ByteArray → List ByteArray → Option (List ByteArray)
  | [], b => some b
  | x :: xs, b => if (lineV b x).2 = 0 then linesV xs (lineV b x).1 else none
def belaysV (f0 : List R) (f1 : List ByteArray) : List L → List L → Option (List L)
  | [], b => some b
  | x :: xs, b => if (belayV f0 f1 b x.f0 x.f1 x.f2).2 = 0 then belaysV f0 f1 xs (belayV f0 f1 b x.f0 x.f1 x.f2).1 else none
def okRig (l0 : List R) (l1 : List ByteArray) (l2 : List L) : Bool := match railsV l0 [] with
  | none => false
  | some b0 => match linesV l1 [] with
    | none => false
    | some b1 => (belaysV b0 b1 l2 []).isSome
theorem railsV_len : ∀ (xs b : List R), b.length ≤ 10 → ∀ c, railsV xs b = some c → c.length ≤ 10
  | [], b, h, c, e => by rw [railsV] at e; injection e with e; rw [← e]; exact h
  | x :: xs, b, h, c, e => by
    rw [railsV] at e
    split at e
    · exact railsV_len xs _ (railV_len h _ _ _) c e
    · cases e
theorem linesV_len : ∀ (xs b : List ByteArray), b.length ≤ 60 → ∀ c, linesV xs b = some c → c.length ≤ 60
  | [], b, h, c, e => by rw [linesV] at e; injection e with e; rw [← e]; exact h
  | x :: xs, b, h, c, e => by
    rw [linesV] at e
    split at e
    · exact linesV_len xs _ (lineV_len h _) c e
    · cases e
abbrev GoodRig (l0 : List R) (l1 : List ByteArray) (l2 : List L) : Prop := (l0.length ≤ 1048576 ∧ ∀ x ∈ l0, GoodRail x) ∧ (l1.length ≤ 1048576 ∧ ∀ x ∈ l1, x.size ≤ 1048576) ∧ (l2.length ≤ 1048576 ∧ ∀ x ∈ l2, GoodBelay x)
theorem rails_ev : ∀ (xs b : List R), b.length ≤ 10 → (∀ x ∈ xs, GoodRail x) → Ev (fun k => spec_l19Ok.rails k xs b) (railsV xs b) ∧ Ev (fun k => impl_ValidRig.rails k xs b) (railsV xs b)
  | [], b, _, _ => ⟨Ev.now _, Ev.now _⟩
  | x :: xs, b, h, hg => by
    have hs := max_of (hg x List.mem_cons_self).1
    have hi := rails_ev xs (railV b x.f0 x.f1 x.f2).1 (railV_len h _ _ _) (fun y hy => hg y (List.mem_cons_of_mem _ hy))
    rw [railsV]
    simp only [spec_l19Ok.rails, impl_ValidRig.rails]
    refine ⟨Ev.bind (spec_addRail b h [] [] _ _ _ hs) ?_, Ev.bind (impl_addRailV b h [] [] _ _ _ hs) ?_⟩
    · exact ev_ite (fun h1 => by rw [if_pos h1]; exact hi.1) (fun h1 => by rw [if_neg h1]; exact Ev.now _)
    · exact ev_ite (fun h1 => by rw [if_pos h1]; exact hi.2) (fun h1 => by rw [if_neg h1]; exact Ev.now _)
theorem lines_ev (f0 : List R) : ∀ (xs b : List ByteArray), b.length ≤ 60 → (∀ x ∈ xs, x.size ≤ 1048576) → Ev (fun k => spec_l19Ok.lines k f0 xs b) (linesV xs b) ∧ Ev (fun k => impl_ValidRig.lines k f0 xs b) (linesV xs b)
  | [], b, _, _ => ⟨Ev.now _, Ev.now _⟩
  | x :: xs, b, h, hg => by
    have hs := max_of (hg x List.mem_cons_self)
    have hi := lines_ev f0 xs (lineV b x).1 (lineV_len h _) (fun y hy => hg y (List.mem_cons_of_mem _ hy))
    rw [linesV]
    simp only [spec_l19Ok.lines, impl_ValidRig.lines]
    refine ⟨Ev.bind (spec_addLine f0 b h [] _ hs) ?_, Ev.bind (impl_addLineV f0 b h [] _ hs) ?_⟩
    · exact ev_ite (fun h1 => by rw [if_pos h1]; exact hi.1) (fun h1 => by rw [if_neg h1]; exact Ev.now _)
    · exact ev_ite (fun h1 => by rw [if_pos h1]; exact hi.2) (fun h1 => by rw [if_neg h1]; exact Ev.now _)
theorem belays_ev (f0 : List R) (f1 : List ByteArray) (h0 : f0.length ≤ 1048576) (h1 : f1.length ≤ 1048576) : ∀ (xs b : List L), b.length + xs.length ≤ 1048576 → Ev (fun k => spec_l19Ok.belays k f0 f1 xs b) (belaysV f0 f1 xs b) ∧ Ev (fun k => impl_ValidRig.belays k f0 f1 xs b) (belaysV f0 f1 xs b)
  | [], b, _ => ⟨Ev.now _, Ev.now _⟩
  | x :: xs, b, h => by
    rw [List.length_cons] at h
    have hl := belayV_len f0 f1 b x.f0 x.f1 x.f2
    have hi := belays_ev f0 f1 h0 h1 xs (belayV f0 f1 b x.f0 x.f1 x.f2).1 (by omega)
    rw [belaysV]
    simp only [spec_l19Ok.belays, impl_ValidRig.belays]
    refine ⟨Ev.bind (spec_addBelay f0 f1 b h0 h1 (by omega) _ _ _) ?_, Ev.bind (impl_addBelayV f0 f1 b h1 (by omega) _ _ _) ?_⟩
    · exact ev_ite (fun h1 => by rw [if_pos h1]; exact hi.1) (fun h1 => by rw [if_neg h1]; exact Ev.now _)
    · exact ev_ite (fun h1 => by rw [if_pos h1]; exact hi.2) (fun h1 => by rw [if_neg h1]; exact Ev.now _)
theorem ok_ev (l0 : List R) (l1 : List ByteArray) (l2 : List L) (h : GoodRig l0 l1 l2) : Ev (fun k => spec_l19Ok.f k l0 l1 l2) (okRig l0 l1 l2) ∧ Ev (fun k => impl_ValidRig.f k l0 l1 l2) (okRig l0 l1 l2) := by
  obtain ⟨⟨_, g0⟩, ⟨_, g1⟩, ⟨n2, _⟩⟩ := h
  have hr := rails_ev l0 [] (by simp) g0
  unfold spec_l19Ok.f impl_ValidRig.f okRig
  cases e0 : railsV l0 [] with
  | none =>
    rw [e0] at hr
    exact ⟨Ev.bind hr.1 (Ev.now _), Ev.bind hr.2 (Ev.now _)⟩
  | some b0 =>
    rw [e0] at hr
    have c0 := railsV_len l0 [] (by simp) b0 e0
    have hl := lines_ev b0 l1 [] (by simp) g1
    cases e1 : linesV l1 [] with
    | none =>
      rw [e1] at hl
      exact ⟨Ev.bind hr.1 (Ev.bind hl.1 (Ev.now _)), Ev.bind hr.2 (Ev.bind hl.2 (Ev.now _))⟩
    | some b1 =>
      rw [e1] at hl
      have c1 := linesV_len l1 [] (by simp) b1 e1
      have hb := belays_ev b0 b1 (by omega) (by omega) l2 [] (by simpa using n2)
      cases e2 : belaysV b0 b1 l2 [] with
      | none =>
        rw [e2] at hb
        have e3 : false = (match some b0 with | none => false | some b0 => match some b1 with | none => false | some b1 => (belaysV b0 b1 l2 []).isSome) := by show false = (belaysV b0 b1 l2 []).isSome; rw [e2]; rfl
        exact ⟨ev_of (Ev.bind hr.1 (Ev.bind hl.1 (Ev.bind hb.1 (Ev.now _)))) e3, ev_of (Ev.bind hr.2 (Ev.bind hl.2 (Ev.bind hb.2 (Ev.now _)))) e3⟩
      | some b2 =>
        rw [e2] at hb
        have e3 : true = (match some b0 with | none => false | some b0 => match some b1 with | none => false | some b1 => (belaysV b0 b1 l2 []).isSome) := by show true = (belaysV b0 b1 l2 []).isSome; rw [e2]; rfl
        exact ⟨ev_of (Ev.bind hr.1 (Ev.bind hl.1 (Ev.bind hb.1 (Ev.now _)))) e3, ev_of (Ev.bind hr.2 (Ev.bind hl.2 (Ev.bind hb.2 (Ev.now _)))) e3⟩
end Go.Proofs.YtcenjcgfdghfnaaB
end

section
/- Lists of texts: what they weigh, their copy, their comparison. -/
namespace Go.Proofs.YtcenjcgfdghfnaaB
open Go.RowKit Go.Proofs.YtcenjcgfdghfnaaW.PrintWords Go.Proofs.YtcenjcgfdghfnaaW.PrintLast Go.Proofs.Ytcenjcgfdghfnaa.P

theorem eqStringS_loop : ∀ (xs p : List ByteArray), p.length + xs.length ≤ 4611686018427387904 → Ev (fun k => laws_eqStringS.l0 k (p ++ xs) (p ++ xs) (p.length : Int)) true := by
  intro xs
  induction xs with
  | nil =>
    intro p _
    refine Ev.step (fun k => by rw [laws_eqStringS.l0]) ?_
    exact ev_neg (not_lt_end p) (Ev.now _)
  | cons x xs ih =>
    intro p hl
    rw [List.length_cons] at hl
    have hw : wrap64 ((p.length : Int) + 1) = ((p ++ [x]).length : Int) := wrap_next p x (by omega)
    have hi := ih (p ++ [x]) (by rw [List.length_append]; simp; omega)
    refine Ev.step (fun k => by rw [laws_eqStringS.l0]) ?_
    refine ev_pos (lt_mid p x xs) (ev_pos (Int.natCast_nonneg _) (ev_pos (lt_mid p x xs) ?_))
    rw [hw, push_mid p x xs]
    exact ev_pos rfl hi
theorem eqStringS_refl (l : List ByteArray) (hl : l.length ≤ 4611686018427387904) : Ev (fun k => laws_eqStringS.f k l l) true := by
  unfold laws_eqStringS.f
  exact ev_pos rfl (eqStringS_loop l [] (by simp; omega))
theorem szStringS_loop : ∀ (xs p : List ByteArray) (left : Int), p.length + xs.length ≤ 4611686018427387904 → 0 ≤ left → left ≤ 1048576 → (∀ x ∈ xs, x.size ≤ maxLen) → ∃ r, Ev (fun k => laws_szStringS.l0 k (p ++ xs) left (p.length : Int)) r ∧ r ≤ left ∧ (0 ≤ r → ∀ x ∈ xs, (x.size : Int) ≤ left) := by
  intro xs
  induction xs with
  | nil =>
    intro p left _ h0 h1 _
    exact ⟨left, Ev.step (fun k => by rw [laws_szStringS.l0]) (ev_neg (not_lt_end p) (Ev.now _)), Int.le_refl _, fun _ x hx => by simp at hx⟩
  | cons x xs ih =>
    intro p left hl h0 h1 hs
    have hx := hs x List.mem_cons_self
    unfold maxLen at hx
    rw [List.length_cons] at hl
    have hw : wrap64 ((p.length : Int) + 1) = ((p ++ [x]).length : Int) := wrap_next p x (by omega)
    have hz : wrap64 (left - (x.size : Int)) = left - (x.size : Int) := wrap_small (by omega) (by omega)
    by_cases hn : left - (x.size : Int) < 0
    · refine ⟨-1, Ev.step (fun k => by rw [laws_szStringS.l0]) (ev_pos (lt_mid p x xs) (ev_pos (Int.natCast_nonneg _) ?_)), by omega, fun h => absurd h (by decide)⟩
      rw [rdOf_mid, hz]
      exact ev_pos hn (Ev.now _)
    · obtain ⟨r, e, hr, hb⟩ := ih (p ++ [x]) (left - (x.size : Int)) (by rw [List.length_append]; simp; omega) (by omega) (by omega) (fun y hy => hs y (List.mem_cons_of_mem _ hy))
      refine ⟨r, Ev.step (fun k => by rw [laws_szStringS.l0]) (ev_pos (lt_mid p x xs) (ev_pos (Int.natCast_nonneg _) ?_)), by omega, fun h y hy => ?_⟩
      · rw [rdOf_mid, hz, hw, push_mid p x xs]
        exact ev_neg hn e
      · rcases List.mem_cons.1 hy with rfl | hy
        · omega
        · have := hb h y hy
          omega
theorem szStringS_ev (l : List ByteArray) (left : Int) (h0 : 0 ≤ left) (h1 : left ≤ 1048576) (hl : l.length ≤ maxLen ∧ ∀ x ∈ l, x.size ≤ maxLen) : ∃ r, Ev (fun k => laws_szStringS.f k l left) r ∧ r ≤ left ∧ (0 ≤ r → (l.length : Int) ≤ left ∧ ∀ x ∈ l, (x.size : Int) ≤ left) := by
  have h2 := hl.1
  unfold maxLen at h2
  unfold laws_szStringS.f
  rw [wrap_small (i := left - (l.length : Int)) (by omega) (by omega)]
  by_cases c : left - (l.length : Int) < 0
  · exact ⟨-1, ev_pos c (Ev.now _), by omega, fun h => absurd h (by decide)⟩
  · obtain ⟨r, e, hr, hb⟩ := szStringS_loop l [] (left - (l.length : Int)) (by simp; omega) (by omega) (by omega) hl.2
    exact ⟨r, ev_neg c e, by omega, fun h => ⟨by omega, fun x hx => by have := hb h x hx; omega⟩⟩
theorem toStringS_loop : ∀ (xs p : List ByteArray), p.length + xs.length ≤ 1048576 → Ev (fun k => laws_toStringS.l0 k (p ++ xs) (p ++ List.replicate xs.length (⟨#[]⟩ : ByteArray)) (p.length : Int)) (p ++ xs) := by
  intro xs
  induction xs with
  | nil =>
    intro p _
    refine Ev.step (fun k => by rw [laws_toStringS.l0]) ?_
    exact ev_neg (not_lt_end p) (ev_of (Ev.now _) (by simp))
  | cons x xs ih =>
    intro p hl
    rw [List.length_cons] at hl
    have hw : wrap64 ((p.length : Int) + 1) = ((p ++ [x]).length : Int) := wrap_next p x (by omega)
    have hi := ih (p ++ [x]) (by rw [List.length_append]; simp; omega)
    refine Ev.step (fun k => by rw [laws_toStringS.l0]) ?_
    refine ev_pos (lt_mid p x xs) (ev_pos (Int.natCast_nonneg _) (ev_pos (by simp; omega) ?_))
    rw [rdOf_mid, hw, List.length_cons, List.replicate_succ, set_mid, push_mid p x xs]
    rw [push_mid p x (List.replicate xs.length (⟨#[]⟩ : ByteArray))]
    exact hi
theorem toStringS_ev (l : List ByteArray) (hl : l.length ≤ 1048576) : Ev (fun k => laws_toStringS.f k l) l := by
  unfold laws_toStringS.f
  have h2 := toStringS_loop l [] (by simpa using hl)
  refine ev_pos (Int.natCast_nonneg _) (ev_pos (by omega) ?_)
  simpa using h2
end Go.Proofs.YtcenjcgfdghfnaaB
end

section
/- Rig: what it weighs, its copy, its comparison. -/
namespace Go.Proofs.YtcenjcgfdghfnaaB
open Go.RowKit Go.Proofs.YtcenjcgfdghfnaaW.PrintWords Go.Proofs.YtcenjcgfdghfnaaW.PrintLast Go.Proofs.Ytcenjcgfdghfnaa.P

abbrev RawRail (l : List S99) : Prop := l.length ≤ maxLen ∧ ∀ x ∈ l, (x.f0.size ≤ maxLen ∧ x.f1.size ≤ maxLen ∧ (Lit.int .i64 x.f2).wf = true)
abbrev RawBelay (l : List S101) : Prop := l.length ≤ maxLen ∧ ∀ x ∈ l, (x.f0.size ≤ maxLen ∧ x.f1.size ≤ maxLen ∧ (Lit.int .i64 x.f2).wf = true)
theorem szRig_ev (a : List S99) (b : List ByteArray) (c : List S101) (ha : RawRail a) (hb : b.length ≤ maxLen ∧ ∀ r ∈ b, r.size ≤ maxLen) (hc : RawBelay c) :
    ∃ r, Ev (fun k => laws_szRig.f k a b c 1048576) r ∧ (0 ≤ r → GoodRig (a.map toRail) b (c.map toBelay)) := by
  unfold laws_szRig.f
  obtain ⟨r, e, hr, h2⟩ := szRailS_ev a 1048576 (by decide) (by decide) ha
  by_cases hn : r < 0
  · exact ⟨-1, Ev.bind e (ev_pos hn (Ev.now _)), fun h => absurd h (by decide)⟩
  · have g2 := h2 (by omega)
    obtain ⟨q, e3, hq, h4⟩ := szStringS_ev b r (by omega) (by omega) hb
    by_cases hm : q < 0
    · exact ⟨-1, Ev.bind e (ev_neg hn (Ev.bind e3 (ev_pos hm (Ev.now _)))), fun h => absurd h (by decide)⟩
    · have g4 := h4 (by omega)
      obtain ⟨s, e5, hs, h6⟩ := szBelayS_ev c q (by omega) (by omega) hc
      by_cases ho : s < 0
      · exact ⟨-1, Ev.bind e (ev_neg hn (Ev.bind e3 (ev_neg hm (Ev.bind e5 (ev_pos ho (Ev.now _)))))), fun h => absurd h (by decide)⟩
      · have g6 := h6 (by omega)
        exact ⟨s, Ev.bind e (ev_neg hn (Ev.bind e3 (ev_neg hm (Ev.bind e5 (ev_neg ho (Ev.now _)))))), fun _ => ⟨goodRailS_of a 1048576 (by omega) ha g2, ⟨by omega, fun x hx => by have := g4.2 x hx; omega⟩, goodBelayS_of c q (by omega) hc g6⟩⟩
theorem toRig_ev (a : List S99) (b : List ByteArray) (c : List S101) (h : GoodRig (a.map toRail) b (c.map toBelay)) : Ev (fun k => laws_toRig.f k a b c) (a.map toRail, b, c.map toBelay) := by
  obtain ⟨⟨n0, _⟩, ⟨n1, _⟩, ⟨n2, _⟩⟩ := h
  rw [List.length_map] at n0 n2
  unfold laws_toRig.f
  exact Ev.bind (toRailS_ev a n0) (Ev.bind (toStringS_ev b n1) (Ev.bind (toBelayS_ev c n2) (Ev.now _)))
theorem eqRig_refl (a : List S91) (b : List ByteArray) (c : List S41) (h : GoodRig a b c) : Ev (fun k => laws_eqRig.f k a b c a b c) true := by
  obtain ⟨⟨n0, _⟩, ⟨n1, _⟩, ⟨n2, _⟩⟩ := h
  unfold laws_eqRig.f
  exact Ev.bind (eqRailS_refl a (by omega)) (ev_pos rfl (Ev.bind (eqStringS_refl b (by omega)) (ev_pos rfl (Ev.bind (eqBelayS_refl c (by omega)) (ev_pos rfl (Ev.now _))))))
end Go.Proofs.YtcenjcgfdghfnaaB
end

section
/- The texts of the marks: each number has one. -/
namespace Go.Proofs.YtcenjcgfdghfnaaB
open Go.RowKit Go.Proofs.YtcenjcgfdghfnaaW.PrintWords Go.Proofs.YtcenjcgfdghfnaaW.PrintLast Go.Proofs.Ytcenjcgfdghfnaa.P

theorem size_one (c : Int) : (strOfNums [c]).size = 1 := rfl
theorem markText_loop : ∀ (m : Nat) (n : Int) (s : ByteArray), n.toNat ≤ m → 0 ≤ n → n + s.size ≤ 4611686018427387904 → ∃ r, Ev (fun k => laws_markText.l0 k n s) r := by
  intro m
  induction m with
  | zero =>
    intro n s h0 h1 h2
    exact ⟨_, Ev.step (fun k => by rw [laws_markText.l0]) (ev_neg (by omega) (ev_pos (by omega) (Ev.now _)))⟩
  | succ m ih =>
    intro n s h0 h1 h2
    by_cases hn : n > 0
    · have hd : Int.tdiv n 10 = n / 10 := Int.tdiv_eq_ediv_of_nonneg h1
      have hw : wrap64 (n / 10) = n / 10 := wrap_small (by omega) (by omega)
      obtain ⟨r, hr⟩ := ih (n / 10) (strOfNums [(wrap64 (48 + (Int.tmod n 10))) % 256] ++ s) (by omega) (by omega) (by rw [ByteArray.size_append, size_one]; omega)
      refine ⟨r, Ev.step (fun k => by rw [laws_markText.l0]) (ev_pos hn ?_)⟩
      simp only [Option.bind_some]
      refine ev_pos (by rw [size_one]; omega) ?_
      rw [hd, hw]
      exact hr
    · exact ⟨_, Ev.step (fun k => by rw [laws_markText.l0]) (ev_neg hn (ev_pos (by omega) (Ev.now _)))⟩
theorem markText_some (n : Int) (h0 : 0 < n) (h1 : n ≤ 1152921504606846976) : ∃ r, Ev (fun k => laws_markText.f k n) r := by
  obtain ⟨r, hr⟩ := markText_loop n.toNat n (⟨#[]⟩ : ByteArray) (Nat.le_refl _) (by omega) (by show n + ((0 : Nat) : Int) ≤ _; omega)
  refine ⟨r, ?_⟩
  unfold laws_markText.f
  exact ev_neg (by omega) hr
open Classical in
noncomputable def mtxt (n : Int) : ByteArray := if h : ∃ r, Ev (fun k => laws_markText.f k n) r then Classical.choose h else ⟨#[]⟩
theorem mtxt_ev (n : Int) (h0 : 0 < n) (h1 : n ≤ 1152921504606846976) : Ev (fun k => laws_markText.f k n) (mtxt n) := by
  have h := markText_some n h0 h1
  unfold mtxt
  rw [dif_pos h]
  exact Classical.choose_spec h
end Go.Proofs.YtcenjcgfdghfnaaB
end

section
/- Marks in a list of texts. -/
namespace Go.Proofs.YtcenjcgfdghfnaaB
open Go.RowKit Go.Proofs.YtcenjcgfdghfnaaW.PrintWords Go.Proofs.YtcenjcgfdghfnaaW.PrintLast Go.Proofs.Ytcenjcgfdghfnaa.P

noncomputable def markString (k : Int) : List ByteArray → List ByteArray
  | [] => []
  | _ :: xs => mtxt k :: markString (k + 1) xs
theorem markStringS_loop : ∀ (xs p : List ByteArray) (k : Int), 0 < k → k + xs.length ≤ 1152921504606846976 → p.length + xs.length ≤ 1152921504606846976 → Ev (fun n => laws_markStringS.l0 n (p ++ xs) k (p.length : Int)) (k + xs.length, p ++ markString k xs) := by
  intro xs
  induction xs with
  | nil =>
    intro p k h0 h1 _
    refine Ev.step (fun k => by rw [laws_markStringS.l0]) ?_
    refine ev_neg (not_lt_end p) (ev_of (Ev.now _) ?_)
    simp [markString]
  | cons x xs ih =>
    intro p k h0 h1 hl
    rw [List.length_cons] at hl h1
    have hw : wrap64 ((p.length : Int) + 1) = ((p ++ [mtxt k]).length : Int) := wrap_next p (mtxt k) (by omega)
    have hi := ih (p ++ [mtxt k]) (k + 1) (by omega) (by omega) (by rw [List.length_append]; simp; omega)
    have w1 : wrap64 (k + 1) = k + 1 := wrap_small (by omega) (by omega)
    refine Ev.step (fun k => by rw [laws_markStringS.l0]) ?_
    refine ev_pos (lt_mid p x xs) (Ev.bind (mtxt_ev k h0 (by omega)) (ev_pos (Int.natCast_nonneg _) ?_))
    rw [set_mid, w1, hw, push_mid p (mtxt k) xs]
    refine ev_of hi ?_
    rw [List.length_cons]
    simp [markString]
    omega
theorem markStringS_at (l : List ByteArray) (k : Int) (h0 : 0 < k) (h1 : k ≤ 1099511627776) (hl : l.length ≤ 1048576) : Ev (fun n => laws_markStringS.f n l k) (k + (l.length : Int), markString k l) := by
  unfold laws_markStringS.f
  exact markStringS_loop l [] k h0 (by omega) (by simp; omega)
theorem heldStringS_loop : ∀ (xs p : List ByteArray) (k : Int), 0 < k → k + xs.length ≤ 1152921504606846976 → p.length + xs.length ≤ 1152921504606846976 → Ev (fun n => laws_heldStringS.l0 n (p ++ markString k xs) k (p.length : Int)) (k + xs.length) := by
  intro xs
  induction xs with
  | nil =>
    intro p k h0 h1 _
    refine Ev.step (fun k => by rw [laws_heldStringS.l0]) ?_
    refine ev_neg (not_lt_end p) (ev_of (Ev.now _) ?_)
    simp
  | cons x xs ih =>
    intro p k h0 h1 hl
    rw [List.length_cons] at hl h1
    have hw : wrap64 ((p.length : Int) + 1) = ((p ++ [mtxt k]).length : Int) := wrap_next p (mtxt k) (by omega)
    have hi := ih (p ++ [mtxt k]) (k + 1) (by omega) (by omega) (by rw [List.length_append]; simp; omega)
    have w1 : wrap64 (k + 1) = k + 1 := wrap_small (by omega) (by omega)
    rw [markString]
    refine Ev.step (fun k => by rw [laws_heldStringS.l0]) ?_
    refine ev_pos (lt_mid p _ _) (ev_pos (Int.natCast_nonneg _) (Ev.bind (mtxt_ev k h0 (by omega)) ?_))
    rw [rdOf_mid, w1, hw, push_mid p (mtxt k) (markString (k + 1) xs)]
    refine ev_pos rfl (ev_of hi ?_)
    rw [List.length_cons]
    omega
end Go.Proofs.YtcenjcgfdghfnaaB
end

section
/- Rail: what a list of them weighs, its copy, its comparison, its marks. -/
namespace Go.Proofs.YtcenjcgfdghfnaaB
open Go.RowKit Go.Proofs.YtcenjcgfdghfnaaW.PrintWords Go.Proofs.YtcenjcgfdghfnaaW.PrintLast Go.Proofs.Ytcenjcgfdghfnaa.P

noncomputable def markRail (k : Int) : List S91 → List S91
  | [] => []
  | _ :: xs => ⟨mtxt k, mtxt (k + 1), (k + 2)⟩ :: markRail (k + 3) xs
theorem markRailS_loop : ∀ (xs p : List S91) (k : Int), 0 < k → k + 3 * xs.length ≤ 1152921504606846976 → p.length + xs.length ≤ 1152921504606846976 → Ev (fun n => laws_markRailS.l0 n (p ++ xs) k (p.length : Int)) (k + 3 * xs.length, p ++ markRail k xs) := by
  intro xs
  induction xs with
  | nil =>
    intro p k h0 h1 _
    refine Ev.step (fun k => by rw [laws_markRailS.l0]) ?_
    refine ev_neg (not_lt_end p) (ev_of (Ev.now _) ?_)
    simp [markRail]
  | cons x xs ih =>
    intro p k h0 h1 hl
    rw [List.length_cons] at hl h1
    have hw : wrap64 ((p.length : Int) + 1) = ((p ++ [x]).length : Int) := wrap_next p x (by omega)
    have hlen : ∀ y : S91, (p ++ [y]).length = (p ++ [x]).length := fun y => by simp
    have hi := ih (p ++ [⟨mtxt k, mtxt (k + 1), (k + 2)⟩]) (k + 3) (by omega) (by omega) (by rw [List.length_append]; simp; omega)
    have w1 : wrap64 (k + 1) = k + 1 := by rw [wrap_small (by omega) (by omega)]
    have w2 : wrap64 (k + 1 + 1) = k + 2 := by rw [wrap_small (by omega) (by omega)]; omega
    have w3 : wrap64 (k + 2 + 1) = k + 3 := by rw [wrap_small (by omega) (by omega)]; omega
    refine Ev.step (fun k => by rw [laws_markRailS.l0]) ?_
    refine ev_pos (lt_mid p x xs) ?_
    have ht : ∀ j : Int, 0 < j → j ≤ 1152921504606846976 → Ev (fun n => laws_markText.f n j) (mtxt j) := mtxt_ev
    repeat (first | (refine Ev.bind (ht _ (by omega) (by omega)) ?_) | (refine ev_pos (Int.natCast_nonneg _) ?_) | (simp only [Option.bind_some, set_mid, rd91_mid, w1, w2, w3]; done) | (simp only [Option.bind_some, set_mid, rd91_mid, w1, w2, w3]))
    rw [hw, push_mid p _ xs, ← hlen]
    refine ev_of hi ?_
    rw [List.length_cons]
    simp [markRail]
    omega
theorem markRailS_ev (l : List S91) (hl : l.length ≤ 1048576) : Ev (fun n => laws_markRailS.f n l 1) (1 + 3 * (l.length : Int), markRail 1 l) := by
  unfold laws_markRailS.f
  exact markRailS_loop l [] 1 (by omega) (by omega) (by simp; omega)
end Go.Proofs.YtcenjcgfdghfnaaB
end

section
/- Belay: what a list of them weighs, its copy, its comparison, its marks. -/
namespace Go.Proofs.YtcenjcgfdghfnaaB
open Go.RowKit Go.Proofs.YtcenjcgfdghfnaaW.PrintWords Go.Proofs.YtcenjcgfdghfnaaW.PrintLast Go.Proofs.Ytcenjcgfdghfnaa.P

noncomputable def markBelay (k : Int) : List S41 → List S41
  | [] => []
  | _ :: xs => ⟨mtxt k, mtxt (k + 1), (k + 2)⟩ :: markBelay (k + 3) xs
theorem markBelayS_loop : ∀ (xs p : List S41) (k : Int), 0 < k → k + 3 * xs.length ≤ 1152921504606846976 → p.length + xs.length ≤ 1152921504606846976 → Ev (fun n => laws_markBelayS.l0 n (p ++ xs) k (p.length : Int)) (k + 3 * xs.length, p ++ markBelay k xs) := by
  intro xs
  induction xs with
  | nil =>
    intro p k h0 h1 _
    refine Ev.step (fun k => by rw [laws_markBelayS.l0]) ?_
    refine ev_neg (not_lt_end p) (ev_of (Ev.now _) ?_)
    simp [markBelay]
  | cons x xs ih =>
    intro p k h0 h1 hl
    rw [List.length_cons] at hl h1
    have hw : wrap64 ((p.length : Int) + 1) = ((p ++ [x]).length : Int) := wrap_next p x (by omega)
    have hlen : ∀ y : S41, (p ++ [y]).length = (p ++ [x]).length := fun y => by simp
    have hi := ih (p ++ [⟨mtxt k, mtxt (k + 1), (k + 2)⟩]) (k + 3) (by omega) (by omega) (by rw [List.length_append]; simp; omega)
    have w1 : wrap64 (k + 1) = k + 1 := by rw [wrap_small (by omega) (by omega)]
    have w2 : wrap64 (k + 1 + 1) = k + 2 := by rw [wrap_small (by omega) (by omega)]; omega
    have w3 : wrap64 (k + 2 + 1) = k + 3 := by rw [wrap_small (by omega) (by omega)]; omega
    refine Ev.step (fun k => by rw [laws_markBelayS.l0]) ?_
    refine ev_pos (lt_mid p x xs) ?_
    have ht : ∀ j : Int, 0 < j → j ≤ 1152921504606846976 → Ev (fun n => laws_markText.f n j) (mtxt j) := mtxt_ev
    repeat (first | (refine Ev.bind (ht _ (by omega) (by omega)) ?_) | (refine ev_pos (Int.natCast_nonneg _) ?_) | (simp only [Option.bind_some, set_mid, rd41_mid, w1, w2, w3]; done) | (simp only [Option.bind_some, set_mid, rd41_mid, w1, w2, w3]))
    rw [hw, push_mid p _ xs, ← hlen]
    refine ev_of hi ?_
    rw [List.length_cons]
    simp [markBelay]
    omega
theorem markBelayS_at (l : List S41) (k : Int) (h0 : 0 < k) (h1 : k ≤ 1099511627776) (hl : l.length ≤ 1048576) : Ev (fun n => laws_markBelayS.f n l k) (k + 3 * (l.length : Int), markBelay k l) := by
  unfold laws_markBelayS.f
  exact markBelayS_loop l [] k h0 (by omega) (by simp; omega)
end Go.Proofs.YtcenjcgfdghfnaaB
end

section
/- Rail: what a list of them weighs, its copy, its comparison, its marks. -/
namespace Go.Proofs.YtcenjcgfdghfnaaB
open Go.RowKit Go.Proofs.YtcenjcgfdghfnaaW.PrintWords Go.Proofs.YtcenjcgfdghfnaaW.PrintLast Go.Proofs.Ytcenjcgfdghfnaa.P

theorem heldRailS_loop : ∀ (xs p : List S91) (k : Int), 0 < k → k + 3 * xs.length ≤ 1152921504606846976 → p.length + xs.length ≤ 1152921504606846976 → Ev (fun n => laws_heldRailS.l0 n (p ++ markRail k xs) k (p.length : Int)) (k + 3 * xs.length) := by
  intro xs
  induction xs with
  | nil =>
    intro p k h0 h1 _
    refine Ev.step (fun k => by rw [laws_heldRailS.l0]) ?_
    refine ev_neg (not_lt_end p) (ev_of (Ev.now _) ?_)
    simp
  | cons x xs ih =>
    intro p k h0 h1 hl
    rw [List.length_cons] at hl h1
    have hw : ∀ y : S91, wrap64 ((p.length : Int) + 1) = ((p ++ [y]).length : Int) := fun y => wrap_next p y (by omega)
    have hi := ih (p ++ [⟨mtxt k, mtxt (k + 1), (k + 2)⟩]) (k + 3) (by omega) (by omega) (by rw [List.length_append]; simp; omega)
    have w1 : wrap64 (k + 1) = k + 1 := by rw [wrap_small (by omega) (by omega)]
    have w2 : wrap64 (k + 1 + 1) = k + 2 := by rw [wrap_small (by omega) (by omega)]; omega
    have w3 : wrap64 (k + 2 + 1) = k + 3 := by rw [wrap_small (by omega) (by omega)]; omega
    rw [markRail]
    refine Ev.step (fun k => by rw [laws_heldRailS.l0]) ?_
    refine ev_pos (lt_mid p _ _) ?_
    have ht : ∀ j : Int, 0 < j → j ≤ 1152921504606846976 → Ev (fun n => laws_markText.f n j) (mtxt j) := mtxt_ev
    simp only [rd91_mid, w1, w2, w3]
    repeat (first | (refine ev_pos (Int.natCast_nonneg _) ?_) | (refine Ev.bind (ht _ (by omega) (by omega)) ?_) | (refine ev_pos rfl ?_))
    rw [hw, push_mid p _ (markRail _ xs)]
    refine ev_of hi ?_
    rw [List.length_cons]
    push_cast
    omega
theorem heldRailS_ev (l : List S91) (hl : l.length ≤ 1048576) : Ev (fun n => laws_heldRailS.f n (markRail 1 l) 1) (1 + 3 * (l.length : Int)) := by
  unfold laws_heldRailS.f
  exact heldRailS_loop l [] 1 (by omega) (by omega) (by simp; omega)
end Go.Proofs.YtcenjcgfdghfnaaB
end

section
/- Belay: what a list of them weighs, its copy, its comparison, its marks. -/
namespace Go.Proofs.YtcenjcgfdghfnaaB
open Go.RowKit Go.Proofs.YtcenjcgfdghfnaaW.PrintWords Go.Proofs.YtcenjcgfdghfnaaW.PrintLast Go.Proofs.Ytcenjcgfdghfnaa.P

theorem heldBelayS_loop : ∀ (xs p : List S41) (k : Int), 0 < k → k + 3 * xs.length ≤ 1152921504606846976 → p.length + xs.length ≤ 1152921504606846976 → Ev (fun n => laws_heldBelayS.l0 n (p ++ markBelay k xs) k (p.length : Int)) (k + 3 * xs.length) := by
  intro xs
  induction xs with
  | nil =>
    intro p k h0 h1 _
    refine Ev.step (fun k => by rw [laws_heldBelayS.l0]) ?_
    refine ev_neg (not_lt_end p) (ev_of (Ev.now _) ?_)
    simp
  | cons x xs ih =>
    intro p k h0 h1 hl
    rw [List.length_cons] at hl h1
    have hw : ∀ y : S41, wrap64 ((p.length : Int) + 1) = ((p ++ [y]).length : Int) := fun y => wrap_next p y (by omega)
    have hi := ih (p ++ [⟨mtxt k, mtxt (k + 1), (k + 2)⟩]) (k + 3) (by omega) (by omega) (by rw [List.length_append]; simp; omega)
    have w1 : wrap64 (k + 1) = k + 1 := by rw [wrap_small (by omega) (by omega)]
    have w2 : wrap64 (k + 1 + 1) = k + 2 := by rw [wrap_small (by omega) (by omega)]; omega
    have w3 : wrap64 (k + 2 + 1) = k + 3 := by rw [wrap_small (by omega) (by omega)]; omega
    rw [markBelay]
    refine Ev.step (fun k => by rw [laws_heldBelayS.l0]) ?_
    refine ev_pos (lt_mid p _ _) ?_
    have ht : ∀ j : Int, 0 < j → j ≤ 1152921504606846976 → Ev (fun n => laws_markText.f n j) (mtxt j) := mtxt_ev
    simp only [rd41_mid, w1, w2, w3]
    repeat (first | (refine ev_pos (Int.natCast_nonneg _) ?_) | (refine Ev.bind (ht _ (by omega) (by omega)) ?_) | (refine ev_pos rfl ?_))
    rw [hw, push_mid p _ (markBelay _ xs)]
    refine ev_of hi ?_
    rw [List.length_cons]
    push_cast
    omega
end Go.Proofs.YtcenjcgfdghfnaaB
end

section
/- A line cast off, of both. -/
namespace Go.Proofs.YtcenjcgfdghfnaaB
open Go.RowKit Go.Proofs.YtcenjcgfdghfnaaW.PrintWords Go.Proofs.YtcenjcgfdghfnaaW.PrintLast Go.Proofs.Ytcenjcgfdghfnaa.P

/-- What both answer. -/
def castV (f0 : List R) (f1 : List ByteArray) (f2 : List L) (a : ByteArray) : List R × List ByteArray × List L × Int :=
  if okRig f0 f1 f2 = true then if hasT f1 a = true then if impl_belayOf.go f2 a 0 < 0 then ([], [], [], 10) else (f0, f1, f2.take (impl_belayOf.go f2 a 0).toNat ++ f2.drop ((impl_belayOf.go f2 a 0).toNat + 1), 0) else ([], [], [], 2) else ([], [], [], 1)
def namedV (f0 : List R) (f1 : List ByteArray) (f2 : List L) (a : ByteArray) : Int × Int :=
  if okRig f0 f1 f2 = true then if hasT f1 a = true then if impl_belayOf.go f2 a 0 < 0 then (0, 10) else (impl_belayOf.go f2 a 0, 0) else (0, 2) else (0, 1)
theorem named_ev (f0 : List R) (f1 : List ByteArray) (f2 : List L) (a : ByteArray) (h : GoodRig f0 f1 f2) : Ev (fun k => spec_l19Named.f k f0 f1 f2 a) (namedV f0 f1 f2 a) := by
  unfold spec_l19Named.f
  refine Ev.bind (ok_ev f0 f1 f2 h).1 ?_
  by_cases c1 : okRig f0 f1 f2 = true
  · refine ev_pos c1 (Ev.bind (spec_line f0 f1 f2 h.2.1.1 a) ?_)
    by_cases c2 : hasT f1 a = true
    · refine ev_pos c2 (Ev.bind (spec_of f0 f1 f2 h.2.2.1 a) ?_)
      by_cases c3 : impl_belayOf.go f2 a 0 < 0
      · exact ev_pos c3 (ev_of (Ev.now _) (by unfold namedV; rw [if_pos c1, if_pos c2, if_pos c3]))
      · exact ev_neg c3 (ev_of (Ev.now _) (by unfold namedV; rw [if_pos c1, if_pos c2, if_neg c3]))
    · exact ev_neg c2 (ev_of (Ev.now _) (by unfold namedV; rw [if_pos c1, if_neg c2]))
  · exact ev_neg c1 (ev_of (Ev.now _) (by unfold namedV; rw [if_neg c1]))
theorem own_some (f0 : List R) (f1 : List ByteArray) (f2 : List L) (h0 : f0.length ≤ 1048576) (h1 : f1.length ≤ 1048576) (h2 : f2.length ≤ 1048576) : spec_l19Own.f f0 f1 f2 = some (f0, f1, f2) := by
  unfold spec_l19Own.f
  simp only [Option.bind_some, List.nil_append, List.length_nil]
  rw [if_pos (by omega), if_pos (by omega), if_pos (by omega)]
theorem copy_some (f0 : List R) (f1 : List ByteArray) (f2 : List L) (h0 : f0.length ≤ 1048576) (h1 : f1.length ≤ 1048576) (h2 : f2.length ≤ 1048576) : impl_copyRig.f f0 f1 f2 = some (f0, f1, f2) := by
  unfold impl_copyRig.f
  simp only [Option.bind_some, List.nil_append, List.length_nil]
  rw [if_pos (by omega), if_pos (by omega), if_pos (by omega)]
theorem spec_cast (f0 : List R) (f1 : List ByteArray) (f2 : List L) (a : ByteArray) (h : GoodRig f0 f1 f2) : Ev (fun k => spec_CastOff.f k f0 f1 f2 a) (castV f0 f1 f2 a) := by
  unfold spec_CastOff.f
  refine Ev.bind (named_ev f0 f1 f2 a h) ?_
  by_cases c1 : okRig f0 f1 f2 = true
  · by_cases c2 : hasT f1 a = true
    · by_cases c3 : impl_belayOf.go f2 a 0 < 0
      · have e : namedV f0 f1 f2 a = (0, 10) := by unfold namedV; rw [if_pos c1, if_pos c2, if_pos c3]
        rw [e]
        exact ev_neg (by decide) (ev_of (Ev.now _) (by unfold castV; rw [if_pos c1, if_pos c2, if_pos c3]))
      · have e : namedV f0 f1 f2 a = (impl_belayOf.go f2 a 0, 0) := by unfold namedV; rw [if_pos c1, if_pos c2, if_neg c3]
        rw [e]
        have hr := goOf_range f2 a 0 (by decide)
        refine ev_pos rfl (ev_bind0 (own_some f0 f1 f2 h.1.1 h.2.1.1 h.2.2.1) (ev_pos ⟨by show 0 ≤ impl_belayOf.go f2 a 0; omega, by show impl_belayOf.go f2 a 0 < _; omega, by have := h.2.2.1; omega⟩ (ev_of (Ev.now _) ?_)))
        unfold castV
        rw [if_pos c1, if_pos c2, if_neg c3]
        simp
    · have e : namedV f0 f1 f2 a = (0, 2) := by unfold namedV; rw [if_pos c1, if_neg c2]
      rw [e]
      exact ev_neg (by decide) (ev_of (Ev.now _) (by unfold castV; rw [if_pos c1, if_neg c2]))
  · have e : namedV f0 f1 f2 a = (0, 1) := by unfold namedV; rw [if_neg c1]
    rw [e]
    exact ev_neg (by decide) (ev_of (Ev.now _) (by unfold castV; rw [if_neg c1]))
theorem impl_cast (f0 : List R) (f1 : List ByteArray) (f2 : List L) (a : ByteArray) (h : GoodRig f0 f1 f2) : Ev (fun k => impl_CastOff.f k f0 f1 f2 a) (castV f0 f1 f2 a) := by
  unfold impl_CastOff.f
  refine Ev.bind (ok_ev f0 f1 f2 h).2 ?_
  by_cases c1 : okRig f0 f1 f2 = true
  · refine ev_pos c1 (Ev.bind (impl_has f1 h.2.1.1 a) ?_)
    by_cases c2 : hasT f1 a = true
    · have hl := h.2.2.1
      refine ev_pos c2 (ev_bind0 (show impl_belayOf.f f0 f1 f2 a = some (impl_belayOf.go f2 a 0) from rfl) ?_)
      by_cases c3 : impl_belayOf.go f2 a 0 < 0
      · exact ev_pos c3 (ev_of (Ev.now _) (by unfold castV; rw [if_pos c1, if_pos c2, if_pos c3]))
      · have hr := goOf_range f2 a 0 (by decide)
        have hw : wrap64 (impl_belayOf.go f2 a 0 + 1) = impl_belayOf.go f2 a 0 + 1 := wrap_small (by omega) (by omega)
        refine ev_neg c3 (ev_bind0 (copy_some f0 f1 f2 h.1.1 h.2.1.1 h.2.2.1) (ev_pos (by omega) (ev_pos (by show _ ≤ (f2.length : Int); omega) (ev_pos (by rw [hw]; omega) (ev_pos (by show _ ≤ (f2.length : Int); rw [hw]; omega) (ev_of (Ev.now _) ?_))))))
        unfold castV
        rw [if_pos c1, if_pos c2, if_neg c3, List.eraseIdx_eq_take_drop_succ]
    · exact ev_neg c2 (ev_of (Ev.now _) (by unfold castV; rw [if_pos c1, if_neg c2]))
  · exact ev_neg c1 (ev_of (Ev.now _) (by unfold castV; rw [if_neg c1]))
theorem cast_len (f0 : List R) (f1 : List ByteArray) (f2 : List L) (a : ByteArray) (h : GoodRig f0 f1 f2) : (castV f0 f1 f2 a).1.length ≤ 1048576 ∧ (castV f0 f1 f2 a).2.1.length ≤ 1048576 ∧ (castV f0 f1 f2 a).2.2.1.length ≤ 1048576 := by
  have h0 := h.1.1
  have h1 := h.2.1.1
  have h2 := h.2.2.1
  unfold castV
  split
  · split
    · split
      · exact ⟨Nat.zero_le _, Nat.zero_le _, Nat.zero_le _⟩
      · refine ⟨h0, h1, ?_⟩
        simp only [List.length_append, List.length_take, List.length_drop]
        omega
    · exact ⟨Nat.zero_le _, Nat.zero_le _, Nat.zero_le _⟩
  · exact ⟨Nat.zero_le _, Nat.zero_le _, Nat.zero_le _⟩
theorem eqRig_at (a : List R) (b : List ByteArray) (c : List L) (n0 : a.length ≤ 1048576) (n1 : b.length ≤ 1048576) (n2 : c.length ≤ 1048576) : Ev (fun k => laws_eqRig.f k a b c a b c) true := by
  unfold laws_eqRig.f
  exact Ev.bind (eqRailS_refl a (by omega)) (ev_pos rfl (Ev.bind (eqStringS_refl b (by omega)) (ev_pos rfl (Ev.bind (eqBelayS_refl c (by omega)) (ev_pos rfl (Ev.now _))))))
/-- A marked rig. -/
noncomputable def mk0 (a : List R) : List R := markRail 1 a
noncomputable def mk1 (a : List R) (b : List ByteArray) : List ByteArray := markString (1 + 3 * (a.length : Int)) b
noncomputable def mk2 (a : List R) (b : List ByteArray) (c : List L) : List L := markBelay (1 + 3 * (a.length : Int) + (b.length : Int)) c
def mkN (a : List R) (b : List ByteArray) (c : List L) : Int := 1 + 3 * (a.length : Int) + (b.length : Int) + 3 * (c.length : Int)
theorem markRig_ev (a : List R) (b : List ByteArray) (c : List L) (n0 : a.length ≤ 1048576) (n1 : b.length ≤ 1048576) (n2 : c.length ≤ 1048576) : Ev (fun k => laws_markRig.f k a b c 1) (mkN a b c, mk0 a, mk1 a b, mk2 a b c) := by
  unfold laws_markRig.f
  exact Ev.bind (markRailS_ev a n0) (Ev.bind (markStringS_at b _ (by dsimp only; omega) (by dsimp only; omega) n1) (Ev.bind (markBelayS_at c _ (by dsimp only; omega) (by dsimp only; omega) n2) (Ev.now _)))
theorem heldRig_ev (a : List R) (b : List ByteArray) (c : List L) (n0 : a.length ≤ 1048576) (n1 : b.length ≤ 1048576) (n2 : c.length ≤ 1048576) : Ev (fun k => laws_heldRig.f k (mk0 a) (mk1 a b) (mk2 a b c) 1) (mkN a b c) := by
  unfold laws_heldRig.f
  have e0 : Ev (fun k => laws_heldRailS.f k (mk0 a) 1) (1 + 3 * (a.length : Int)) := heldRailS_ev a n0
  have e1 : Ev (fun k => laws_heldStringS.f k (mk1 a b) (1 + 3 * (a.length : Int))) (1 + 3 * (a.length : Int) + (b.length : Int)) := by
    unfold laws_heldStringS.f
    exact heldStringS_loop b [] _ (by omega) (by omega) (by simp; omega)
  have e2 : Ev (fun k => laws_heldBelayS.f k (mk2 a b c) (1 + 3 * (a.length : Int) + (b.length : Int))) (mkN a b c) := by
    unfold laws_heldBelayS.f
    exact heldBelayS_loop c [] _ (by omega) (by omega) (by simp; omega)
  exact Ev.bind e0 (ev_neg (by omega) (Ev.bind e1 (ev_neg (by omega) (Ev.bind e2 (ev_neg (by unfold mkN; omega) (Ev.now _))))))
end Go.Proofs.YtcenjcgfdghfnaaB
end

section
/- A rig by value, as an argument. -/
namespace Go.Proofs.Ytcenjcgfdghfnaa.P
open Go.RowKit Go.Proofs.YtcenjcgfdghfnaaW.PrintWords Go.Proofs.YtcenjcgfdghfnaaW.PrintLast

structure S26 where
  f0 : List S99
  f1 : List ByteArray
  f2 : List S101
def k26 : Kd S26 := Kd.iso (Kd.pair (Kd.slice 99 k99) (Kd.pair (Kd.slice 9 Kd.string) (Kd.slice 101 k101))) (fun x : S26 => (x.f0, x.f1, x.f2))
theorem k26_open {w : World} {x : S26} {cs : List Value} (h : k26.K w x cs) : ∃ A0 c0 A1 c1 A2 c2, cs = [.slice A0 x.f0.length c0, .slice A1 x.f1.length c1, .slice A2 x.f2.length c2] ∧ x.f0.length ≤ c0 ∧ Kd.C k99 w A0 x.f0.length x.f0 ∧ x.f1.length ≤ c1 ∧ Kd.C Kd.string w A1 x.f1.length x.f1 ∧ x.f2.length ≤ c2 ∧ Kd.C k101 w A2 x.f2.length x.f2 := by
  obtain ⟨_, _, rfl, ⟨A0, c0, rfl, hl0, h0⟩, ⟨_, _, rfl, ⟨A1, c1, rfl, hl1, h1⟩, ⟨A2, c2, rfl, hl2, h2⟩⟩⟩ := h
  exact ⟨A0, c0, A1, c1, A2, c2, rfl, hl0, h0, hl1, h1, hl2, h2⟩
end Go.Proofs.Ytcenjcgfdghfnaa.P
end

section
/- FnExactCastOff: its plain statement. -/
namespace Go.Proofs.Ytcenjcgfdghfnaa.Pure
open Go.RowKit Go.Proofs.Ytcenjcgfdghfnaa.P Go.Proofs.YtcenjcgfdghfnaaW.PrintWords Go.Proofs.YtcenjcgfdghfnaaW.PrintLast Go.Proofs.YtcenjcgfdghfnaaB

theorem mkN_pos (a : List R) (b : List ByteArray) (c : List L) : ¬ mkN a b c < 0 := by unfold mkN; omega
theorem FnExactCastOff : ∀ (x0 : S26) (x1 : ByteArray), ((x0.f0.length ≤ maxLen ∧ ∀ x_ ∈ x0.f0, (x_.f0.size ≤ maxLen ∧ x_.f1.size ≤ maxLen ∧ (Lit.int .i64 x_.f2).wf = true)) ∧ (x0.f1.length ≤ maxLen ∧ ∀ x_ ∈ x0.f1, x_.size ≤ maxLen) ∧ (x0.f2.length ≤ maxLen ∧ ∀ x_ ∈ x0.f2, (x_.f0.size ≤ maxLen ∧ x_.f1.size ≤ maxLen ∧ (Lit.int .i64 x_.f2).wf = true))) → x1.size ≤ maxLen → ∃ k, laws_FnExactCastOff.f k x0.f0 x0.f1 x0.f2 x1 = some true := by
  intro x0 x1 h0 h1
  refine Ev.rounds (g := fun k => laws_FnExactCastOff.f k x0.f0 x0.f1 x0.f2 x1) ?_
  unfold laws_FnExactCastOff.f
  refine ev_ite (fun _ => Ev.now _) (fun z1 => ?_)
  obtain ⟨r, e, g⟩ := szRig_ev x0.f0 x0.f1 x0.f2 h0.1 h0.2.1 h0.2.2
  refine Ev.bind e (ev_ite (fun _ => Ev.now _) (fun n0 => ?_))
  have g0 := g (by omega)
  have ht := toRig_ev x0.f0 x0.f1 x0.f2 g0
  have hs := spec_cast _ _ _ x1 g0
  have hi := impl_cast _ _ _ x1 g0
  obtain ⟨m0, m1, m2⟩ := cast_len _ _ _ x1 g0
  obtain ⟨v, hv⟩ : ∃ v, castV (x0.f0.map toRail) x0.f1 (x0.f2.map toBelay) x1 = v := ⟨_, rfl⟩
  rw [hv] at hs hi m0 m1 m2
  have he := eqRig_at v.1 v.2.1 v.2.2.1 m0 m1 m2
  refine Ev.bind ht (Ev.bind hs (Ev.bind ht (Ev.bind hi (Ev.bind he (ev_pos rfl ?_)))))
  refine Ev.step (fun k => by rw [laws_FnExactCastOff.j0]) ?_
  refine ev_neg (by simp) (Ev.bind ht (Ev.bind (eqRig_refl _ _ _ g0) (ev_pos rfl (Ev.bind (markRig_ev _ _ _ g0.1.1 g0.2.1.1 g0.2.2.1) (ev_neg (mkN_pos _ _ _) (Ev.bind he (ev_pos rfl ?_)))))))
  refine Ev.step (fun k => by rw [laws_FnExactCastOff.j1]) ?_
  refine ev_neg (by simp) (Ev.bind (markRig_ev v.1 v.2.1 v.2.2.1 m0 m1 m2) (Ev.bind (heldRig_ev v.1 v.2.1 v.2.2.1 m0 m1 m2) (ev_neg (mkN_pos _ _ _) (ev_pos rfl (Ev.bind ht (Ev.bind hi (Ev.bind he (ev_pos rfl ?_))))))))
  refine Ev.step (fun k => by rw [laws_FnExactCastOff.j2]) ?_
  exact ev_neg (by simp) (Ev.bind (heldRig_ev v.1 v.2.1 v.2.2.1 m0 m1 m2) (ev_neg (mkN_pos _ _ _) (ev_pos rfl (Ev.now _))))
end Go.Proofs.Ytcenjcgfdghfnaa.Pure
end

section
/- The law FnExactCastOff: for every input it returns true and its arguments read as before: the row, out of its plain statement and the printed contracts. No condition beside the form's own. -/
namespace Go.Proofs.Ytcenjcgfdghfnaa.fnExactCastOff
open Go.ChangeShapes Go.WideShapes Go.ChangeAt Go.RowKit
open Go.ChangeMaps (open_string shut_string)
open Go.Proofs.Ytcenjcgfdghfnaa.P Go.Proofs.YtcenjcgfdghfnaaOp Go.Proofs.YtcenjcgfdghfnaaW.PrintWords Go.Proofs.YtcenjcgfdghfnaaW.PrintLast
set_option linter.unusedVariables false
theorem own : ownKnob Try.prog.godebug = none := by kernel_rfl
theorem laidOut : laidOutB Try.prog = true := by kernel_rfl
set_option maxRecDepth 100000 in
theorem lifted (os : Os) (started : os.Started) (H : Type) (enc : TypeId × Value → H) :
    ReturnsInHanded {} Try.checked os 3 .any (Rows.fnExactCastOffSpec.pre6 enc Try.prog Try.f3 Rows.fnExactCastOffRow.domain false) (Rows.fnExactCastOffSpec.post enc Try.prog Try.f3 false true false false) := by
  refine returnsInHanded_of_change_sized (C := Try.checked) own started (by kernel_rfl) Try.func3
    (ChangeSpec.witness6 (enc := enc) (C := Try.checked) false ⟨#[], #[.agg #[.slice none 0 0, .slice none 0 0, .slice none 0 0], .string ByteArray.empty], []⟩ 8 (by kernel_rfl) (by kernel_rfl) (by kernel_rfl) (by kernel_rfl)) ?_
  intro W base args ds gs before hval0 hW hcnd hsz0 _
  have hval : ∀ (j : Nat) t v, Try.f3.params[j]? = some t → args[j]? = some v → Value.okWide Try.prog W .any base t v := hval0
  have hW' := hW
  obtain ⟨p, q, hA0, hV, rfl, hfz, hnd⟩ := hW
  have hA : DataW.TrodAll enc Try.prog W 0 (fun _ => true) true Try.f3.params.toList args.toList ds p := hA0
  rw [Try.params3] at hA hval
  obtain ⟨v0, vs0, d0, ds0, p0, q0, hargs, rfl, rfl, h0, r0⟩ := trodAll_cons hA
  obtain ⟨v1, vs1, d1, ds1, p1, q1, rfl, rfl, rfl, h1, r1⟩ := trodAll_cons r0
  obtain ⟨rfl, rfl, rfl⟩ := trodAll_nil r1
  obtain rfl : args = #[v0, v1] := by cases args; simp_all
  obtain ⟨rfl, rfl⟩ := trodVars_none hV
  have k0 := h0
  have lt0 : ∀ x ∈ p0, x.block < W.heap.size := by obtain ⟨m, hm⟩ := k0; exact DataW.trod_lt m _ _ _ hm
  obtain ⟨cs0, rfl, hs0⟩ := okWide_struct Try.underlying26 (hval 0 26 v0 rfl rfl)
  obtain ⟨x0, K0, Q0⟩ := arg_struct (d := k26) (opens_iso (opens_struct Try.underlying26 (by kernel_rfl) (opens_cons (opens_slice Try.underlying22 (opens_iso (opens_struct Try.underlying99 (by kernel_rfl) (opens_cons (opens_string Try.underlying9) rfl (by kernel_rfl) (opens_cons (opens_string Try.underlying9) rfl (by kernel_rfl) (opens_last (opens_int Try.underlying2) rfl (by kernel_rfl))))) (fun x : S99 => (x.f0, x.f1, x.f2)) (fun p => ⟨p.1, p.2.1, p.2.2⟩) (fun _ => rfl)) (by kernel_rfl) 99) rfl (by kernel_rfl) (opens_cons (opens_slice Try.underlying23 (opens_string Try.underlying9) (by kernel_rfl) 9) rfl (by kernel_rfl) (opens_last (opens_slice Try.underlying24 (opens_iso (opens_struct Try.underlying101 (by kernel_rfl) (opens_cons (opens_string Try.underlying9) rfl (by kernel_rfl) (opens_cons (opens_string Try.underlying9) rfl (by kernel_rfl) (opens_last (opens_int Try.underlying2) rfl (by kernel_rfl))))) (fun x : S101 => (x.f0, x.f1, x.f2)) (fun p => ⟨p.1, p.2.1, p.2.2⟩) (fun _ => rfl)) (by kernel_rfl) 101) rfl (by kernel_rfl))))) (fun x : S26 => (x.f0, x.f1, x.f2)) (fun p => ⟨p.1, p.2.1, p.2.2⟩) (fun _ => rfl)) h0
  obtain ⟨A0_0, c0_0, A0_1, c0_1, A0_2, c0_2, e0, hl0_0, C0_0, hl0_1, C0_1, hl0_2, C0_2⟩ := k26_open K0
  obtain rfl : cs0 = #[.slice A0_0 x0.f0.length c0_0, .slice A0_1 x0.f1.length c0_1, .slice A0_2 x0.f2.length c0_2] := by cases cs0; simpa using e0
  have k1 := h1
  have lt1 : ∀ x ∈ p1, x.block < W.heap.size := by obtain ⟨m, hm⟩ := k1; exact DataW.trod_lt m _ _ _ hm
  obtain ⟨x1, rfl, rfl, rfl, Q1⟩ := open_string Try.underlying9 (hval 1 9 v1 rfl rfl) h1
  clear hA0 hval0 hsz0
  obtain ⟨k, h⟩ := Pure.FnExactCastOff x0 x1 Q0 Q1
  refine (laws_FnExactCastOff.calls k A0_0 c0_0 x0.f0 A0_1 c0_1 x0.f1 A0_2 c0_2 x0.f2 x1 true W C0_0 hl0_0 C0_1 hl0_1 C0_2 hl0_2 h).mono fun e W' hpost => ?_
  obtain ⟨he, bel⟩ : e = .returned (.bool true) ∧ Below W.heap.size W W' := hpost
  subst he
  exact ⟨_, rfl, _, _, _, [], _, [], hW', trodAll_mk1 (shut_bool Try.underlying4 _), (trodAll_cons_mk (Below.trod laidOut (by kernel_rfl) (of_decide_eq_true (by kernel_rfl)) k0 bel lt0) (trodAll_cons_mk (shut_string Try.underlying9 Q1) trodAll_mk0)), rfl, bel.frame _, fun h => by cases h⟩
theorem over : Rows.fnExactCastOffRow.holds Try.pinned (OpenSpec.ofChange Rows.fnExactCastOffSpec) :=
  OpenClaim.holds_of_wide 3 Try.f3 rfl rfl rfl rfl rfl rfl rfl ⟨rfl, rfl, rfl, rfl, rfl⟩ rfl rfl rfl rfl rfl (by kernel_rfl) Try.func3 (by kernel_rfl)
    (of_decide_eq_true (by kernel_rfl)) (by unfold Func.isWrapper; first | (rw [if_pos (by decide +kernel)]; kernel_rfl) | (rw [if_neg (by decide +kernel)]; exact ⟨rfl, rfl⟩))
    (fun os started H enc _ => lifted os started H enc)
theorem proved : Rows.FnExactCastOffSaid := over
#print axioms proved
end Go.Proofs.Ytcenjcgfdghfnaa.fnExactCastOff
namespace Go.Proofs.Ytcenjcgfdghfnaa
/-- The row, under a short name, for the claim. -/
theorem fnExactCastOff_holds : Rows.FnExactCastOffSaid := fnExactCastOff.proved
end Go.Proofs.Ytcenjcgfdghfnaa
end
