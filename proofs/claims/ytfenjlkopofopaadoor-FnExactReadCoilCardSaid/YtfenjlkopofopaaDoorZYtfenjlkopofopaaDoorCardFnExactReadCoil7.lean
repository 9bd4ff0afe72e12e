/- Texts of this claim, packed: Number, Split, CoilOne, ReadCoil, PureFnExactReadCoil, CardFnExactReadCoil. -/
import Derived.Lib.IndexMore
import Derived.Test.YtfenjlkopofopaaDoorRows
import Derived.WalkKit
import Derived.ProofKit
import Derived.OpenShut
import Derived.ShutString
import Derived.ChangeOld
import Derived.Below
import Derived.SizedLaws
import Derived.LaidMore
import Derived.LaidLaws
import Derived.Stop.Joined
import Derived.Stop.LaidErr
import Derived.Deep.DeepHandedRow
import Derived.Shelf.Vars
import Derived.SevenTiedAt
import Derived.Test.YtfenjlkopofopaaDoorCards
import Derived.Test.YtfenjlkopofopaaDoorTie
import Derived.Test.YtfenjlkopofopaaDoorZYtfenjlkopofopaaDoorCardFnExactReadCoil6
section
/- A text read as a number, of both. -/
namespace Go.Proofs.YtfenjlkopofopaaDoorB
open Go.RowKit Go.Proofs.YtfenjlkopofopaaDoorW.PrintWords Go.Proofs.YtfenjlkopofopaaDoorW.PrintLast Go.Proofs.YtfenjlkopofopaaDoor.P

theorem wrap_rng (x : Int) : -9223372036854775808 ≤ wrap64 x ∧ wrap64 x ≤ 9223372036854775807 := by
  unfold wrap64
  omega
theorem bytes_extract (s : ByteArray) (a b : Nat) : bytesOf (s.extract a b) = ((bytesOf s).take b).drop a := by
  unfold bytesOf
  rw [ByteArray.data_extract, Array.toList_extract, List.extract_eq_take_drop, ← List.map_take, ← List.map_drop]
  congr 1
  rw [List.drop_take]
def BadL (xs : List Int) : Prop := ∃ x ∈ xs, ¬ (48 ≤ x ∧ x ≤ 57)
theorem num_end (s : ByteArray) (v : Int) (hv : -9223372036854775808 ≤ v ∧ v ≤ 9223372036854775807) (Q : Int × Bool → Prop) (hQ : ∀ r, Q r) :
    Both Q (fun k => (spec_l01Dec.f k v).bind fun t188 => if t188.toList = s.toList then (some (v, true)) else (some (0, false))) (fun _ => (impl_Decimal.f v).bind fun t203 => if t203.toList = s.toList then (some (v, true)) else (some (0, false))) := by
  refine both_bindL (spec_dec v hv.1 hv.2) (both_bind0R (impl_dec v hv.1 hv.2) ?_)
  exact both_ite (fun _ => both_now _ (hQ _)) (fun _ => both_now _ (hQ _))
theorem num_loop (s t : ByteArray) (ht : t.size ≤ 18) : ∀ (xs p : List Int) (v : Int), bytesOf t = p ++ xs → (-9223372036854775808 ≤ v ∧ v ≤ 9223372036854775807) →
    Both (fun r => BadL xs → r.2 = false) (fun k => spec_l01Number.l0 k s t v (p.length : Int)) (fun k => impl_ReadDecimal.l0 k s t v (p.length : Int)) := by
  intro xs
  induction xs with
  | nil =>
    intro p v hp hv
    have hz : (t.size : Int) = p.length := by rw [← bytes_length, hp]; simp
    have hn : ∀ r : Int × Bool, BadL [] → r.2 = false := fun r ⟨x, hx, _⟩ => by simp at hx
    refine both_step (fun k => by rw [spec_l01Number.l0]) (fun k => by rw [impl_ReadDecimal.l0]) ?_
    refine both_negL (by omega) (both_negR (by omega) ?_)
    refine both_ite (fun _ => ?_) (fun _ => ?_)
    · exact num_end s _ (wrap_rng _) _ hn
    · exact num_end s _ hv _ hn
  | cons x xs ih =>
    intro p v hp hv
    have hz : (t.size : Int) = p.length + (xs.length + 1) := by rw [← bytes_length, hp]; simp
    have hb : bt t (p.length : Int) = x := by rw [bt_rd, hp]; exact rd_mid p x xs
    have hw : wrap64 ((p.length : Int) + 1) = ((p ++ [x]).length : Int) := wrap_next p x (by omega)
    refine both_step (fun k => by rw [spec_l01Number.l0]) (fun k => by rw [impl_ReadDecimal.l0]) ?_
    refine both_posL (by omega) (both_posR (by omega) (both_posL (by omega) (both_posR (by omega) ?_)))
    rw [hb, hw]
    refine both_bind0L (digit_some x) ?_
    by_cases h1 : x < 48
    · refine both_negL (by simp; omega) (both_posR h1 (both_now _ (fun _ => rfl)))
    · by_cases h2 : x > 57
      · refine both_negL (by simp; omega) (both_negR h1 (both_posR h2 (both_now _ (fun _ => rfl))))
      · refine both_posL (by simp; omega) (both_negR h1 (both_negR h2 ?_))
        refine both_imp (ih (p ++ [x]) _ (by rw [hp]; simp) (wrap_rng _)) (fun r hr hbad => hr ?_)
        obtain ⟨y, hy, hy2⟩ := hbad
        rcases List.mem_cons.1 hy with rfl | hy
        · exact absurd ⟨by omega, by omega⟩ hy2
        · exact ⟨y, hy, hy2⟩
/-- What is left of a text behind its sign. -/
def unsign (s : ByteArray) : ByteArray := if rd (bytesOf s) 0 = 45 then s.extract 1 s.size else s
theorem num_tail (s t : ByteArray) : Both (fun r => BadL (bytesOf t) → r.2 = false) (fun k => spec_l01Number.j1 k s t) (fun k => if (t.size : Int) < 1 then impl_ReadDecimal.j0 k s t true else impl_ReadDecimal.j0 k s t (decide ((t.size : Int) > 18))) := by
  refine both_stepL (fun k => by rw [spec_l01Number.j1]) ?_
  refine both_ite (fun h => ?_) (fun h => ?_)
  · refine both_step (fun k => by rw [spec_l01Number.j2]) (fun k => by rw [impl_ReadDecimal.j0]) ?_
    exact both_posL rfl (both_posR rfl (both_now _ (fun _ => rfl)))
  · refine both_step (fun k => by rw [spec_l01Number.j2]) (fun k => by rw [impl_ReadDecimal.j0]) ?_
    refine both_ite (fun h2 => both_now _ (fun _ => rfl)) (fun h2 => ?_)
    have h3 : t.size ≤ 18 := by simp at h2; omega
    exact num_loop s t h3 (bytesOf t) [] 0 rfl (by omega)
theorem trim_some (s : ByteArray) : strings_TrimPrefix.f s (⟨#[45]⟩ : ByteArray) = some (unsign s) := by
  have h1 : (⟨#[45]⟩ : ByteArray).size = 1 := rfl
  unfold strings_TrimPrefix.f stringslite_TrimPrefix.f stringslite_HasPrefix.f unsign
  rw [h1]
  cases hb : bytesOf s with
  | nil =>
    have hl := bytes_length s
    rw [hb] at hl
    have hz : s.size = 0 := by simpa using hl.symm
    rw [if_neg (by omega)]
    simp [rd]
  | cons c cs =>
    have hl := bytes_length s
    rw [hb] at hl
    have hl2 : s.size = cs.length + 1 := by simpa using hl.symm
    rw [if_pos (by omega), if_pos (by omega), if_pos (by omega)]
    have hr : rd (c :: cs) 0 = c := rfl
    have he : ((s.extract 0 ((1 : Nat) : Int).toNat).toList == (⟨#[45]⟩ : ByteArray).toList) = decide (c = 45) := by
      have h2 : bytesOf (s.extract 0 1) = [c] := by rw [bytes_extract, hb]; rfl
      by_cases hc : c = 45
      · rw [decide_eq_true hc, beq_iff_eq, toList_iff]
        apply bytes_inj
        rw [show ((1 : Nat) : Int).toNat = 1 from rfl, h2, hc]
        rfl
      · rw [decide_eq_false hc, beq_eq_false_iff_ne]
        intro hh
        rw [toList_iff, show ((1 : Nat) : Int).toNat = 1 from rfl] at hh
        rw [hh] at h2
        have h3 : bytesOf (⟨#[45]⟩ : ByteArray) = [45] := rfl
        rw [h3] at h2
        exact hc (by injection h2 with h4; exact h4.symm)
    rw [he, hr]
    by_cases hc : c = 45
    · simp [hc]
      omega
    · simp [hc]
theorem number_both (s : ByteArray) : Both (fun r => BadL (bytesOf (unsign s)) → r.2 = false) (fun k => spec_l01Number.f k s) (fun k => impl_ReadDecimal.f k s) := by
  unfold spec_l01Number.f impl_ReadDecimal.f
  refine both_bind0R (trim_some s) ?_
  cases hb : bytesOf s with
  | nil =>
    have hu : unsign s = s := by unfold unsign; rw [hb]; simp [rd]
    rw [hu]
    refine both_posL ((bytes_nil s).2 hb) ?_
    refine both_stepL (fun k => by rw [spec_l01Number.j0]) (both_negL (by simp) ?_)
    exact num_tail s s
  | cons c cs =>
    have hl := bytes_length s
    rw [hb] at hl
    have hl2 : s.size = cs.length + 1 := by simpa using hl.symm
    refine both_negL (fun h => by rw [bytes_nil, hb] at h; simp at h) (both_posL (by omega) ?_)
    have hc : bt s 0 = c := by rw [bt_rd, hb]; rfl
    rw [hc]
    refine both_stepL (fun k => by rw [spec_l01Number.j0]) ?_
    by_cases h : c = 45
    · have hu : unsign s = s.extract 1 s.size := by unfold unsign; rw [hb, if_pos (by simpa [rd] using h)]
      rw [hu]
      exact both_posL (by simp [h]) (both_posL (by omega) (num_tail s _))
    · have hu : unsign s = s := by unfold unsign; rw [hb, if_neg (by simpa [rd] using h)]
      rw [hu]
      exact both_negL (by simp [h]) (num_tail s _)
end Go.Proofs.YtfenjlkopofopaaDoorB
end

section
/- A text parted at its first colon: the reference's list, the library's cut. -/
namespace Go.Proofs.YtfenjlkopofopaaDoorB
open Go.RowKit Go.Proofs.YtfenjlkopofopaaDoorW.PrintWords Go.Proofs.YtfenjlkopofopaaDoorW.PrintLast Go.Proofs.YtfenjlkopofopaaDoor.P

theorem split_end (s : ByteArray) (c : Int) (p : List Int) (acc : List ByteArray) (fr : Nat) (hp : bytesOf s = p) (hf : fr ≤ p.length) (ha : acc.length < 8796093022208) :
    Ev (fun k => spec_l01Split.l0 k s c acc (fr : Int) (p.length : Int)) (acc ++ [s.extract fr s.size]) := by
  have hz : s.size = p.length := by rw [← bytes_length, hp]
  refine Ev.step (fun k => by rw [spec_l01Split.l0]) ?_
  exact ev_neg (by omega) (ev_pos (by omega) (ev_pos (by omega) (ev_pos ha (Ev.now _))))
theorem split_none (s : ByteArray) (c : Int) (hs : s.size ≤ 1048576) : ∀ (xs p : List Int) (acc : List ByteArray) (fr : Nat), bytesOf s = p ++ xs → c ∉ xs → fr ≤ p.length → acc.length < 8796093022208 →
    Ev (fun k => spec_l01Split.l0 k s c acc (fr : Int) (p.length : Int)) (acc ++ [s.extract fr s.size]) := by
  intro xs
  induction xs with
  | nil => intro p acc fr hp _ hf ha; exact split_end s c p acc fr (by simpa using hp) hf ha
  | cons x xs ih =>
    intro p acc fr hp hc hf ha
    have hz : (s.size : Int) = p.length + (xs.length + 1) := by rw [← bytes_length, hp]; simp
    have hb : bt s (p.length : Int) = x := by rw [bt_rd, hp]; exact rd_mid p x xs
    have hw : wrap64 ((p.length : Int) + 1) = ((p ++ [x]).length : Int) := wrap_next p x (by omega)
    have hx : ¬ x = c := fun h => hc (by rw [h]; exact List.mem_cons_self)
    refine Ev.step (fun k => by rw [spec_l01Split.l0]) ?_
    refine ev_pos (by omega) (ev_pos (by omega) ?_)
    rw [hb, hw]
    refine ev_neg hx ?_
    exact ih (p ++ [x]) acc fr (by rw [hp]; simp) (fun h => hc (List.mem_cons_of_mem _ h)) (by simp; omega) ha
theorem split_at (s : ByteArray) (c : Int) (hs : s.size ≤ 1048576) (b : List Int) {r : List ByteArray} : ∀ (a p : List Int) (acc : List ByteArray) (fr : Nat), bytesOf s = p ++ (a ++ c :: b) → c ∉ a → fr ≤ p.length → acc.length < 8796093022208 →
    Ev (fun k => spec_l01Split.l0 k s c (acc ++ [s.extract fr (p.length + a.length)]) (((p ++ (a ++ [c])).length : Nat) : Int) (((p ++ (a ++ [c])).length : Nat) : Int)) r →
    Ev (fun k => spec_l01Split.l0 k s c acc (fr : Int) (p.length : Int)) r := by
  intro a
  induction a with
  | nil =>
    intro p acc fr hp _ hf ha h
    have hz : (s.size : Int) = p.length + (b.length + 1) := by rw [← bytes_length, hp]; simp
    have hb : bt s (p.length : Int) = c := by rw [bt_rd, hp]; exact rd_mid p c b
    have hw : wrap64 ((p.length : Int) + 1) = ((p ++ [c]).length : Int) := wrap_next p c (by omega)
    refine Ev.step (fun k => by rw [spec_l01Split.l0]) ?_
    refine ev_pos (by omega) (ev_pos (by omega) ?_)
    rw [hb, hw]
    refine ev_pos rfl (ev_pos (by omega) (ev_pos (by omega) (ev_pos (by omega) (ev_pos ha ?_))))
    exact h
  | cons x a ih =>
    intro p acc fr hp hc hf ha h
    have hz : (s.size : Int) = p.length + (a.length + 1 + (b.length + 1)) := by rw [← bytes_length, hp]; simp; omega
    have hb : bt s (p.length : Int) = x := by rw [bt_rd, hp]; exact rd_mid p x (a ++ c :: b)
    have hw : wrap64 ((p.length : Int) + 1) = ((p ++ [x]).length : Int) := wrap_next p x (by omega)
    have hx : ¬ x = c := fun h => hc (by rw [h]; exact List.mem_cons_self)
    refine Ev.step (fun k => by rw [spec_l01Split.l0]) ?_
    refine ev_pos (by omega) (ev_pos (by omega) ?_)
    rw [hb, hw]
    refine ev_neg hx ?_
    refine ih (p ++ [x]) acc fr (by rw [hp]; simp) (fun h => hc (List.mem_cons_of_mem _ h)) (by simp; omega) ha ?_
    have e1 : (p ++ [x]).length + a.length = p.length + (x :: a).length := by simp; omega
    have e2 : (p ++ [x] ++ (a ++ [c])).length = (p ++ (x :: a ++ [c])).length := by simp
    rw [e1, e2]
    exact h
theorem split_len (s : ByteArray) (c : Int) (hs : s.size ≤ 1048576) : ∀ (xs p : List Int) (acc : List ByteArray) (fr : Nat), bytesOf s = p ++ xs → fr ≤ p.length → acc.length + xs.length < 8796093022208 →
    ∃ r, Ev (fun k => spec_l01Split.l0 k s c acc (fr : Int) (p.length : Int)) r ∧ acc.length + 1 ≤ r.length := by
  intro xs
  induction xs with
  | nil =>
    intro p acc fr hp hf ha
    exact ⟨_, split_end s c p acc fr (by simpa using hp) hf (by simpa using ha), by simp⟩
  | cons x xs ih =>
    intro p acc fr hp hf ha
    have hz : (s.size : Int) = p.length + (xs.length + 1) := by rw [← bytes_length, hp]; simp
    have hb : bt s (p.length : Int) = x := by rw [bt_rd, hp]; exact rd_mid p x xs
    have hw : wrap64 ((p.length : Int) + 1) = ((p ++ [x]).length : Int) := wrap_next p x (by omega)
    rw [List.length_cons] at ha
    by_cases hx : x = c
    · obtain ⟨r, h1, h2⟩ := ih (p ++ [x]) (acc ++ [s.extract fr p.length]) (p ++ [x]).length (by rw [hp]; simp) (Nat.le_refl _) (by simp; omega)
      refine ⟨r, Ev.step (fun k => by rw [spec_l01Split.l0]) ?_, by simp at h2; omega⟩
      refine ev_pos (by omega) (ev_pos (by omega) ?_)
      rw [hb, hw]
      exact ev_pos hx (ev_pos (by omega) (ev_pos (by omega) (ev_pos (by omega) (ev_pos (by omega) h1))))
    · obtain ⟨r, h1, h2⟩ := ih (p ++ [x]) acc fr (by rw [hp]; simp) (by simp; omega) (by omega)
      refine ⟨r, Ev.step (fun k => by rw [spec_l01Split.l0]) ?_, h2⟩
      refine ev_pos (by omega) (ev_pos (by omega) ?_)
      rw [hb, hw]
      exact ev_neg hx h1

theorem indexByte_none (c : UInt8) : ∀ l : List UInt8, c ∉ l → Lib.indexByte l c = -1
  | [], _ => rfl
  | b :: l, h => by
    have h1 : (b == c) = false := beq_eq_false_iff_ne.2 (fun e => h (by rw [e]; exact List.mem_cons_self))
    unfold Lib.indexByte
    rw [h1, indexByte_none c l (fun h2 => h (List.mem_cons_of_mem _ h2))]
    rfl
theorem indexByte_at (c : UInt8) (r : List UInt8) : ∀ l : List UInt8, c ∉ l → Lib.indexByte (l ++ c :: r) c = l.length
  | [], _ => by simp [Lib.indexByte]
  | b :: l, h => by
    have h1 : (b == c) = false := beq_eq_false_iff_ne.2 (fun e => h (by rw [e]; exact List.mem_cons_self))
    rw [List.cons_append]
    unfold Lib.indexByte
    rw [h1, indexByte_at c r l (fun h2 => h (List.mem_cons_of_mem _ h2))]
    have h3 : ((l.length : Int) == -1) = false := by rw [beq_eq_false_iff_ne]; omega
    simp [h3]
theorem cut_none (c : UInt8) (l : List UInt8) (h : c ∉ l) : Lib.cut l [c] = (l, [], false) := by
  unfold Lib.cut
  rw [Lib.index_one, indexByte_none c l h, if_neg (by omega)]
theorem cut_at (c : UInt8) (l r : List UInt8) (h : c ∉ l) : Lib.cut (l ++ c :: r) [c] = (l, r, true) := by
  unfold Lib.cut
  rw [Lib.index_one, indexByte_at c r l h, if_pos (by omega)]
  have h1 : ((l.length : Int)).toNat = l.length := rfl
  rw [h1]
  simp
end Go.Proofs.YtfenjlkopofopaaDoorB
end

section
/- One coil, and its text, of both. -/
namespace Go.Proofs.YtfenjlkopofopaaDoorB
open Go.RowKit Go.Proofs.YtfenjlkopofopaaDoorW.PrintWords Go.Proofs.YtfenjlkopofopaaDoorW.PrintLast Go.Proofs.YtfenjlkopofopaaDoor.P

theorem spec_one (s : ByteArray) (n : Int) (hs : s.size ≤ maxLen) : Ev (fun k => spec_l23One.f k s n) (nameB s && rangeB n) := by
  unfold spec_l23One.f
  refine Ev.bind (spec_name s hs) ?_
  cases nameB s with
  | true => exact ev_pos rfl (ev_bind0 (in_some _ _ _) (Ev.now _))
  | false => exact ev_neg (by simp) (Ev.now _)
theorem impl_one (s : ByteArray) (n : Int) (hs : s.size ≤ maxLen) : Ev (fun k => impl_validCoil.f k s n) (nameB s && rangeB n) := by
  unfold impl_validCoil.f
  refine Ev.bind (impl_name s hs) ?_
  cases nameB s with
  | true => exact ev_pos rfl (ev_bind0 (within_some _ _ _) (Ev.now _))
  | false => exact ev_neg (by simp) (Ev.now _)
end Go.Proofs.YtfenjlkopofopaaDoorB
end

section
/- A coil read out of its text, by both. -/
namespace Go.Proofs.YtfenjlkopofopaaDoorB
open Go.RowKit Go.Proofs.YtfenjlkopofopaaDoorW.PrintWords Go.Proofs.YtfenjlkopofopaaDoorW.PrintLast Go.Proofs.YtfenjlkopofopaaDoor.P

def nats (l : List UInt8) : List Int := l.map fun b => (b.toNat : Int)
theorem bytes_mk (l : List UInt8) : bytesOf (⟨l.toArray⟩ : ByteArray) = nats l := by simp [bytesOf, nats]
theorem nats_mem {l : List UInt8} {c : UInt8} : (c.toNat : Int) ∈ nats l ↔ c ∈ l := by
  unfold nats
  rw [List.mem_map]
  constructor
  · rintro ⟨b, hb, he⟩
    obtain rfl : b = c := UInt8.toNat_inj.1 (by omega)
    exact hb
  · intro h
    exact ⟨c, h, rfl⟩
theorem bad_unsign (s : ByteArray) (h : (58 : Int) ∈ bytesOf s) : BadL (bytesOf (unsign s)) := by
  refine ⟨58, ?_, by omega⟩
  unfold unsign
  cases hb : bytesOf s with
  | nil => rw [hb] at h; simp at h
  | cons c cs =>
    have hl := bytes_length s
    rw [hb] at hl h
    by_cases hc : c = 45
    · rw [if_pos (by simpa [rd] using hc), bytes_extract, hb, ← hl, List.take_length]
      rcases List.mem_cons.1 h with h1 | h1
      · omega
      · simpa using h1
    · rw [if_neg (by simpa [rd] using hc), hb]
      exact h
theorem ReadCoil_both (s : ByteArray) (hs : s.size ≤ 1048576) : Both (fun _ => True) (fun k => spec_ReadCoil.f k s) (fun k => impl_ReadCoil.f k s) := by
  unfold spec_ReadCoil.f impl_ReadCoil.f
  have hS : bytesOf s = nats s.data.toList := rfl
  have hlen : s.data.toList.length = s.size := data_length s
  have hcut : strings_Cut.f s (⟨#[58]⟩ : ByteArray) = some ((⟨(Lib.cut s.data.toList [58]).1.toArray⟩ : ByteArray), (⟨(Lib.cut s.data.toList [58]).2.1.toArray⟩ : ByteArray), (Lib.cut s.data.toList [58]).2.2) := by
    unfold strings_Cut.f
    rw [if_pos (by omega)]
  refine both_bind0R hcut ?_
  clear hcut
  by_cases hm : (58 : UInt8) ∈ s.data.toList
  · obtain ⟨a, b, hab, ha⟩ := List.append_of_mem hm |> fun ⟨_, _, _⟩ => List.eq_append_cons_of_mem hm
    rw [hab] at hS hlen
    rw [hab, cut_at 58 a b ha]
    have hA : (58 : Int) ∉ nats a := fun h => ha (nats_mem (c := 58).1 h)
    have hS2 : bytesOf s = [] ++ (nats a ++ 58 :: nats b) := by rw [hS]; simp [nats]
    have hl2 : s.size = a.length + (b.length + 1) := by rw [← hlen]; simp
    have hal : (nats a).length = a.length := by simp [nats]
    have hbl : (nats b).length = b.length := by simp [nats]
    have e0 : s.extract 0 (([] : List Int).length + (nats a).length) = (⟨a.toArray⟩ : ByteArray) := by
      apply bytes_inj
      rw [bytes_extract, hS2, bytes_mk]
      simp
    have hs1 : (⟨b.toArray⟩ : ByteArray).size = b.length := by simp [ByteArray.size]
    by_cases hb : (58 : UInt8) ∈ b
    · obtain ⟨b1, b2, hbb, hb1⟩ := List.eq_append_cons_of_mem hb
      have hB : (58 : Int) ∉ nats b1 := fun h => hb1 (nats_mem (c := 58).1 h)
      have hS3 : bytesOf s = ([] ++ (nats a ++ [58])) ++ (nats b1 ++ 58 :: nats b2) := by rw [hS2, hbb]; simp [nats]
      have hS4 : bytesOf s = (([] ++ (nats a ++ [58])) ++ (nats b1 ++ [58])) ++ nats b2 := by rw [hS3]; simp
      obtain ⟨r, h1, h2⟩ := split_len s 58 hs (nats b2) _ ([] ++ [s.extract 0 (([] : List Int).length + (nats a).length)] ++ [s.extract ([] ++ (nats a ++ [58])).length (([] ++ (nats a ++ [58])).length + (nats b1).length)]) ((([] ++ (nats a ++ [58])) ++ (nats b1 ++ [58])).length) hS4 (Nat.le_refl _) (by
        have : (nats b2).length ≤ b.length := by rw [hbb]; simp [nats]; omega
        simp
        omega)
      have hsp : Ev (fun k => spec_l01Split.f k s 58) r := by
        unfold spec_l01Split.f
        refine split_at s 58 hs (nats b) (nats a) [] [] 0 hS2 hA (by simp) (by simp) ?_
        exact split_at s 58 hs (nats b2) (nats b1) _ _ _ hS3 hB (Nat.le_refl _) (by simp) h1
      have hr : ¬ (r.length : Int) = 2 := by simp at h2; omega
      obtain ⟨q, hq1, hq2, hq3⟩ := number_both (⟨b.toArray⟩ : ByteArray)
      have hq : q.2 = false := hq3 (bad_unsign _ (by rw [bytes_mk]; exact nats_mem (c := 58).2 hb))
      refine both_bindL hsp (both_negL hr (both_bindR hq2 ?_))
      exact both_posR rfl (both_negR (by rw [hq]; simp) (both_now _ trivial))
    · have hB : (58 : Int) ∉ nats b := fun h => hb (nats_mem (c := 58).1 h)
      have hS3 : bytesOf s = ([] ++ (nats a ++ [58])) ++ nats b := by rw [hS2]; simp
      have e1 : s.extract ([] ++ (nats a ++ [58])).length s.size = (⟨b.toArray⟩ : ByteArray) := by
        apply bytes_inj
        rw [bytes_extract, List.take_of_length_le (by rw [bytes_length]; exact Nat.le_refl _), hS3, List.drop_left]
        exact (bytes_mk b).symm
      have hsp : Ev (fun k => spec_l01Split.f k s 58) [(⟨a.toArray⟩ : ByteArray), (⟨b.toArray⟩ : ByteArray)] := by
        unfold spec_l01Split.f
        refine split_at s 58 hs (nats b) (nats a) [] [] 0 hS2 hA (by simp) (by simp) ?_
        refine ev_of (split_none s 58 hs (nats b) _ _ _ hS3 hB (Nat.le_refl _) (by simp)) ?_
        rw [e0, e1]
        rfl
      refine both_bindL hsp (both_posL (by simp) (both_posL (by simp) ?_))
      have r1 : rdOf ByteArray.empty [(⟨a.toArray⟩ : ByteArray), (⟨b.toArray⟩ : ByteArray)] 1 = (⟨b.toArray⟩ : ByteArray) := rfl
      have r0 : rdOf ByteArray.empty [(⟨a.toArray⟩ : ByteArray), (⟨b.toArray⟩ : ByteArray)] 0 = (⟨a.toArray⟩ : ByteArray) := rfl
      rw [r0, r1]
      have hs0 : (⟨a.toArray⟩ : ByteArray).size ≤ maxLen := by
        have : (⟨a.toArray⟩ : ByteArray).size = a.length := by simp [ByteArray.size]
        unfold maxLen
        omega
      refine both_bind (number_both (⟨b.toArray⟩ : ByteArray)) (fun q _ => ?_)
      refine both_posL (by simp) (both_posR rfl (both_ite (fun _ => ?_) (fun _ => both_now _ trivial)))
      refine both_bindL (spec_one _ _ hs0) (both_bindR (impl_one _ _ hs0) ?_)
      exact both_ite (fun _ => both_now _ trivial) (fun _ => both_now _ trivial)
  · rw [cut_none 58 _ hm]
    have hA : (58 : Int) ∉ bytesOf s := fun h => hm (nats_mem (c := 58).1 h)
    have hsp : Ev (fun k => spec_l01Split.f k s 58) ([] ++ [s.extract 0 s.size]) := by
      unfold spec_l01Split.f
      exact split_none s 58 hs (bytesOf s) [] [] 0 (by simp) hA (by simp) (by simp)
    obtain ⟨q, _, hq2, _⟩ := number_both (⟨([] : List UInt8).toArray⟩ : ByteArray)
    refine both_bindL hsp (both_negL (by simp) (both_bindR hq2 ?_))
    exact both_negR (by simp) (both_now _ trivial)
end Go.Proofs.YtfenjlkopofopaaDoorB
end

section
namespace Go.Proofs.YtfenjlkopofopaaDoor.Pure
open Go.RowKit Go.Proofs.YtfenjlkopofopaaDoor.P Go.Proofs.YtfenjlkopofopaaDoorB Go.Proofs.YtfenjlkopofopaaDoorW.PrintWords Go.Proofs.YtfenjlkopofopaaDoorW.PrintLast

theorem FnExactReadCoil : laws_FnExactReadCoil.Pure := by
  intro s _
  unfold laws_FnExactReadCoil.f
  by_cases h : (s.size : Int) > 1048576
  · exact ⟨0, by rw [if_pos h]⟩
  · obtain ⟨r, ⟨ka, ha⟩, ⟨kb, hb⟩, _⟩ := ReadCoil_both s (by omega)
    have ha' := ha (max ka kb) (Nat.le_max_left _ _)
    have hb' := hb (max ka kb) (Nat.le_max_right _ _)
    simp only at ha' hb'
    refine ⟨max ka kb, ?_⟩
    rw [if_neg h, ha']
    simp only [Option.bind_some]
    rw [hb']
    simp only [Option.bind_some, laws_eqCoil.f]
    simp
end Go.Proofs.YtfenjlkopofopaaDoor.Pure
end

section
namespace Go.Proofs.YtfenjlkopofopaaDoor.fnExactReadCoil
open Go.Proofs.YtfenjlkopofopaaDoor.P
open Go.ChangeShapes Go.WideShapes Go.ChangeAt Go.RowKit
open Go.ChangeMaps (open_string shut_string)
set_option linter.unusedVariables false
theorem tu_of_shape {W : World} (h : W.ShapedOpen Tryd.prog) : TU W :=
  cell_of_shapedOpen_int (g := 0) (t := 3) (zero := #[.int .i64 0]) (k := .i64) h (of_decide_eq_true (by kernel_rfl)) (by kernel_rfl) (by kernel_rfl) (by kernel_rfl) (by kernel_rfl) (by kernel_rfl)
theorem laidOut : laidOutB Tryd.prog = true := by kernel_rfl
abbrev laidL : List (String × DataW Unit) := [("math/bits.deBruijn32tab", Rows.laid_math_bits_deBruijn32tab), ("math/bits.deBruijn64tab", Rows.laid_math_bits_deBruijn64tab), ("internal/strconv.uint64pow10", Rows.laid_internal_strconv_uint64pow10)]
theorem door_met (os : Os) (args : Array Value) : laidMetH Tryd.prog laidL ((World.doorLaid Tryd.prog 400 os).forCall (fun _ _ => 0) ⟨#[], args, []⟩).memory :=
  laidMetH_of_parts3 (fuel := 8) (laidMet_of_run' 8 (by kernel_rfl) (by kernel_rfl)) (by kernel_rfl) (by kernel_rfl)
theorem gPow : Tryd.prog.globalNamed "internal/strconv.uint64pow10" = some 1 := by kernel_rfl
theorem datPow : (Rows.laid_internal_strconv_uint64pow10 : DataW Unit) = Lib.tabData .u64 Lib.pow10Tab := rfl
theorem tb_of_laid {W : World} (h : laidMetH Tryd.prog laidL W) : TB W := by
  rw [MakeChecks.laidMetH_plain _ _ _ (by kernel_rfl)] at h
  have h2 := laidMet.tail (laidMet.tail (h))
  rw [datPow] at h2
  exact Lib.tabIs_of_head gPow (t := 177) (e := 153) (n := 20) (by kernel_rfl) (by kernel_rfl) (by kernel_rfl) (by kernel_rfl) (by kernel_rfl) h2
theorem own : ownKnob Tryd.prog.godebug = none := by kernel_rfl
set_option maxRecDepth 100000 in
theorem lifted (os : Os) (started : os.Started) (H : Type) (enc : TypeId × Value → H) :
    ReturnsInHanded {} Tryd.checked os 3 .any (fun w args => (Rows.fnExactReadCoilSpec.pre enc Tryd.prog Tryd.f3 [] false w args ∧ laidMetH Tryd.prog laidL w) ∧ sizedMet enc Tryd.prog Tryd.f3 (OpenSpec.ofChange Rows.fnExactReadCoilSpec) false w args) (Rows.fnExactReadCoilSpec.post enc Tryd.prog Tryd.f3 false true false false) := by
  refine returnsInHanded_of_row (C := Tryd.checked) (s := OpenSpec.ofChange Rows.fnExactReadCoilSpec) (F := fun _ _ _ => 0) (conds := []) (apart := false) (fresh := true) (handsOn := false) (again := false) (laid := laidL) own started (by kernel_rfl) Tryd.func3
    (ChangeSpec.witness_shaped (enc := enc) (C := Tryd.checked) (os := os) (X := fun w _ => laidMetH Tryd.prog laidL w) false (World.doorLaid Tryd.prog 400 os) #[.string ByteArray.empty] 8 rfl (World.shaped_of_RefB (by kernel_rfl) (by kernel_rfl)) (by kernel_rfl) (by kernel_rfl) (by kernel_rfl) (door_met os _)) ?_
  intro W base args ds gs before hval0 hW hcnd _ hsz0 hL hsh _
  have hT : TB W := tb_of_laid hL
  have hU : TU W := tu_of_shape hsh
  have hsz : (DataW.weightsEach Tryd.prog (Tryd.f3.params.toList ++ Rows.fnExactReadCoilSpec.plain.varTypes Tryd.prog) (ds ++ gs)).all (· ≤ reachBytes) = true := hsz0
  have hval : ∀ (j : Nat) t v, Tryd.f3.params[j]? = some t → args[j]? = some v → Value.okWide Tryd.prog W .any base t v := hval0
  have hW' := hW
  obtain ⟨p, q, hA0, hV, rfl, hfz, hnd⟩ := hW
  have hA : DataW.TrodAll enc Tryd.prog W 0 (fun _ => true) true Tryd.f3.params.toList args.toList ds p := hA0
  rw [Tryd.params3] at hA hval hsz
  obtain ⟨v0, vs0, d0, ds0, p0, q0, hargs, rfl, rfl, h0, r0⟩ := trodAll_cons hA
  obtain ⟨rfl, rfl, rfl⟩ := trodAll_nil r0
  obtain rfl : args = #[v0] := by cases args; simp_all
  obtain ⟨rfl, rfl⟩ := trodVars_none hV
  obtain ⟨a0, rfl, rfl, rfl, y0⟩ := open_string Tryd.underlying9 (hval 0 9 v0 rfl rfl) h0
  have w0 : a0.size ≤ 140737488351232 := by
    have z := sized_string hsz (j := 0) (t := 9) rfl rfl
    rw [Array.length_toList] at z
    exact z
  clear hA0 hval0 hsz0 hsz
  refine (P.laws_FnExactReadCoil.walk Pure.FnExactReadCoil a0 W w0 hT hU).mono fun e W' ⟨he, bel⟩ => ?_
  subst he
  exact ⟨_, rfl, _, _, _, [], _, [], hW', trodAll_mk1 (shut_bool Tryd.underlying4 _), (trodAll_cons_mk (shut_string Tryd.underlying9 y0) trodAll_mk0), rfl, bel.frame _, fun h => by cases h⟩
theorem over : Rows.fnExactReadCoilRow.holds Tryd.pinned (OpenSpec.ofChange Rows.fnExactReadCoilSpec) :=
  OpenClaim.holds_of_wide 3 Tryd.f3 rfl rfl rfl rfl rfl rfl rfl ⟨rfl, rfl, rfl, rfl, rfl⟩ rfl rfl rfl rfl rfl (by kernel_rfl) Tryd.func3 (by kernel_rfl)
    (of_decide_eq_true (by kernel_rfl)) (by unfold Func.isWrapper; first | (rw [if_pos (by decide +kernel)]; kernel_rfl) | (rw [if_neg (by decide +kernel)]; exact ⟨rfl, rfl⟩))
    (fun os started H enc _ => lifted os started H enc)
theorem proved : Rows.FnExactReadCoilSaid := over
#print axioms proved
end Go.Proofs.YtfenjlkopofopaaDoor.fnExactReadCoil
namespace Go.Proofs.YtfenjlkopofopaaDoor
/-- The row, and its card, tied to the program's text. -/
theorem fnExactReadCoil_holds : Rows.FnExactReadCoilCardSaid :=
  Claim7.holds_tied_plain_at .later [] [.data, .data, .data] true (true, "180f7a73e25a143fd26ec5e06cc4fd2189f81fc55fcc310281885ee044136ac5") false
    fnExactReadCoil.proved (fun _ h => by cases h) (by kernel_rfl) (fun _ h => by cases h) fnExactReadCoil_row_tie rfl ⟨rfl, rfl⟩ (by kernel_rfl) rfl
    (fun f fn hf hfn => by
      obtain rfl : f = 3 := Option.some.inj ((show Tryd.prog.funcNamed "loop.example/g01044/laws.FnExactReadCoil" = some 3 by kernel_rfl).symm.trans hf) |>.symm
      obtain rfl : fn = Tryd.f3 := (Option.some.inj (Tryd.func3.symm.trans hfn)).symm
      exact ⟨by kernel_rfl, fun j t ht => by
        rw [Tryd.params3] at ht
        have hm : t ∈ [9] := by simpa using Array.mem_of_getElem? ht
        have hall : ([9].all fun u => !Tryd.prog.wantsStandIn u) = true := by kernel_rfl
        exact (show Tryd.prog.wantsStandIn t = false by simpa using List.all_eq_true.1 hall t hm)⟩)
    (by kernel_rfl)
end Go.Proofs.YtfenjlkopofopaaDoor
end
