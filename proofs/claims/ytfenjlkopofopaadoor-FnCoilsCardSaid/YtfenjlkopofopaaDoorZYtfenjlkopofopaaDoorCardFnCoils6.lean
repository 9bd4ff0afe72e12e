/- Texts of this claim, packed: Dec, Number, CoilDraws, TyWant, WantV, CoilBest, CoilCut, CoilMin, CoilLaw, CoilKept, CoilLeft, CoilSum, CoilSame, CoilAdd, CoilLeftOf, CoilValid, Split, ReadCoil, ReadBack, TextBack, PureFnCoils, WSized, CardFnCoils. -/
import Derived.Lib.ItoaNum
import Derived.Lib.IndexMore
import Derived.SizedLaws
import Derived.ChangeSlices
import Derived.Test.YtfenjlkopofopaaDoorRows
import Derived.WalkKit
import Derived.ProofKit
import Derived.OpenShut
import Derived.ShutString
import Derived.ChangeOld
import Derived.Below
import Derived.LaidMore
import Derived.LaidLaws
import Derived.Stop.Joined
import Derived.Stop.LaidErr
import Derived.Deep.DeepHandedRow
import Derived.Shelf.Vars
import Derived.SevenTiedAt
import Derived.Test.YtfenjlkopofopaaDoorCards
import Derived.Test.YtfenjlkopofopaaDoorTie
import Derived.Test.YtfenjlkopofopaaDoorZYtfenjlkopofopaaDoorCardFnCoils5
section
/- A number's text: the reference's digits are the library's. -/
namespace Go.Proofs.YtfenjlkopofopaaDoorB
open Go.RowKit Go.Proofs.YtfenjlkopofopaaDoorW.PrintWords Go.Proofs.YtfenjlkopofopaaDoorW.PrintLast Go.Proofs.YtfenjlkopofopaaDoor.P

def numsOf (l : List UInt8) : List Int := l.map fun b => (b.toNat : Int)
theorem str_nums (l : List UInt8) : strOfNums (numsOf l) = ⟨l.toArray⟩ := by
  simp [strOfNums, numsOf, Function.comp_def]
def decL (u : Nat) : List Int := if u = 0 then [] else numsOf (Lib.decDigits u)
theorem decL_step {u : Nat} (h : 0 < u) (ds : List Int) : decL u ++ ds = decL (u / 10) ++ ((48 + ((u % 10 : Nat) : Int)) :: ds) := by
  have hd : ∀ d : Nat, d < 10 → ((UInt8.ofNat (48 + d)).toNat : Int) = 48 + (d : Int) := by
    intro d hd
    rw [UInt8.toNat_ofNat']
    omega
  unfold decL
  rw [if_neg (by omega)]
  by_cases h1 : u < 10
  · rw [if_pos (by omega), Lib.decDigits, dif_pos h1]
    simp only [numsOf, List.map_cons, List.map_nil, List.cons_append, List.nil_append]
    rw [hd u h1, Nat.mod_eq_of_lt h1]
  · rw [if_neg (by omega), Lib.decDigits, dif_neg h1]
    simp only [numsOf, List.map_append, List.map_cons, List.map_nil, List.append_assoc, List.cons_append, List.nil_append]
    rw [hd (u % 10) (by omega)]
theorem dec_fin (x0 : Int) (ds : List Int) (hb : ds.length ≤ 1000) (hne : ds ≠ []) : Ev (fun k => spec_l01Dec.l0 k x0 ds 0) (if x0 < 0 then (⟨#[45]⟩ : ByteArray) ++ strOfNums ds else strOfNums ds) := by
  refine Ev.step (fun k => by rw [spec_l01Dec.l0]) ?_
  refine ev_pos rfl (ev_neg ?_ ?_)
  · intro h
    exact hne (List.length_eq_zero_iff.1 (by omega))
  · by_cases hx : x0 < 0
    · refine ev_pos hx (ev_pos (by rw [strOfNums_size]; omega) (ev_of (Ev.now _) ?_))
      rw [if_pos hx]
    · exact ev_neg hx (ev_of (Ev.now _) (by rw [if_neg hx]))
theorem spec_dec_loop : ∀ (m u : Nat) (x0 v : Int) (ds : List Int), u ≤ m → u ≤ 9223372036854775808 → (v = u ∨ v = -u) → (decL u ++ ds).length ≤ 1000 → (0 < u ∨ ds ≠ []) →
    Ev (fun k => spec_l01Dec.l0 k x0 ds v) (if x0 < 0 then (⟨#[45]⟩ : ByteArray) ++ strOfNums (decL u ++ ds) else strOfNums (decL u ++ ds)) := by
  intro m
  induction m with
  | zero =>
    intro u x0 v ds hu _ hv hb hn
    obtain rfl : u = 0 := by omega
    obtain rfl : v = 0 := by omega
    exact dec_fin x0 ds hb (hn.resolve_left (by omega))
  | succ m ih =>
    intro u x0 v ds hu hU hv hb hn
    by_cases h0 : u = 0
    · subst h0
      obtain rfl : v = 0 := by omega
      exact dec_fin x0 ds hb (hn.resolve_left (by omega))
    · have hm0 : Int.tmod (u : Int) 10 = ((u % 10 : Nat) : Int) := by rw [Int.tmod_eq_emod_of_nonneg (by omega)]; omega
      have hd0 : Int.tdiv (u : Int) 10 = ((u / 10 : Nat) : Int) := by rw [Int.tdiv_eq_ediv_of_nonneg (by omega)]; omega
      have hw2 : wrap64 (48 + ((u % 10 : Nat) : Int)) % 256 = 48 + ((u % 10 : Nat) : Int) := by rw [wrap_small (by omega) (by omega)]; omega
      have hq : u / 10 ≤ m := by omega
      have hqU : u / 10 ≤ 9223372036854775808 := Nat.le_trans (Nat.div_le_self _ _) hU
      have hw : wrap64 ((u / 10 : Nat) : Int) = ((u / 10 : Nat) : Int) := wrap_small (by omega) (by omega)
      have hwn : wrap64 (-((u / 10 : Nat) : Int)) = -((u / 10 : Nat) : Int) := wrap_small (by omega) (by omega)
      have hwp : wrap64 (- -((u % 10 : Nat) : Int)) = ((u % 10 : Nat) : Int) := by rw [Int.neg_neg]; exact wrap_small (by omega) (by omega)
      have hp : 0 < u := by omega
      have hv0 : v ≠ 0 := by omega
      have hr : u % 10 < 10 := by omega
      clear hU hu h0
      rw [decL_step hp ds] at hb ⊢
      have hl1 : ∀ z : Int, [z].length + ds.length < 140737488355328 := by
        intro z
        simp at hb ⊢
        omega
      generalize u % 10 = d at *
      generalize u / 10 = q at *
      rcases hv with hv | hv
      · refine Ev.step (fun k => by rw [spec_l01Dec.l0]) ?_
        refine ev_neg hv0 ?_
        rw [hv, hm0, hd0, hw, hw2]
        refine ev_neg (Int.not_lt.2 (Int.natCast_nonneg _)) (ev_bind0 rfl (ev_pos (hl1 _) ?_))
        exact ih q x0 _ ((48 + (d : Int)) :: ds) hq hqU (.inl rfl) hb (.inr (List.cons_ne_nil _ _))
      · have hm : Int.tmod (-(u : Int)) 10 = -(d : Int) := by rw [Int.neg_tmod, hm0]
        have hd : Int.tdiv (-(u : Int)) 10 = -(q : Int) := by rw [Int.neg_tdiv, hd0]
        refine Ev.step (fun k => by rw [spec_l01Dec.l0]) ?_
        refine ev_neg hv0 ?_
        rw [hv, hm, hd, hwn]
        refine ev_ite (fun h => ?_) (fun h => ?_)
        · rw [hwp, hw2]
          refine ev_bind0 rfl (ev_pos (hl1 _) ?_)
          exact ih q x0 _ ((48 + (d : Int)) :: ds) hq hqU (.inr rfl) hb (.inr (List.cons_ne_nil _ _))
        · obtain rfl : d = 0 := by omega
          rw [show (48 : Int) + -((0 : Nat) : Int) = 48 + ((0 : Nat) : Int) by simp, hw2]
          refine ev_bind0 rfl (ev_pos (hl1 _) ?_)
          exact ih q x0 _ ((48 + ((0 : Nat) : Int)) :: ds) hq hqU (.inr rfl) hb (.inr (List.cons_ne_nil _ _))
theorem decDigits_len : ∀ (j u : Nat), u < 10 ^ (j + 1) → (Lib.decDigits u).length ≤ j + 1 := by
  intro j
  induction j with
  | zero =>
    intro u hu
    rw [Lib.decDigits, dif_pos (by simpa using hu)]
    simp
  | succ j ih =>
    intro u hu
    by_cases h1 : u < 10
    · rw [Lib.decDigits, dif_pos h1]
      simp
    · rw [Lib.decDigits, dif_neg h1]
      have hq : u / 10 < 10 ^ (j + 1) := by rw [Nat.pow_succ] at hu; omega
      have := ih (u / 10) hq
      simp
      omega
theorem spec_dec (n : Int) (h0 : -9223372036854775808 ≤ n) (h1 : n ≤ 9223372036854775807) : Ev (fun k => spec_l01Dec.f k n) (⟨(Lib.itoa n).toArray⟩ : ByteArray) := by
  unfold spec_l01Dec.f
  by_cases hz : n = 0
  · subst hz
    refine Ev.step (fun k => by rw [spec_l01Dec.l0]) ?_
    refine ev_pos rfl (ev_pos rfl (ev_of (Ev.now _) ?_))
    rw [Lib.itoa, if_neg (by omega), show (0 : Int).toNat = 0 from rfl, Lib.decDigits, dif_pos (by omega)]
    rfl
  · have hl : (Lib.decDigits n.natAbs).length ≤ 20 := decDigits_len 19 n.natAbs (by omega)
    have hL : decL n.natAbs = numsOf (Lib.decDigits n.natAbs) := by rw [decL, if_neg (by omega)]
    have h := spec_dec_loop n.natAbs n.natAbs n n [] (Nat.le_refl _) (by omega) (by omega) (by rw [hL, List.append_nil, numsOf, List.length_map]; omega) (.inl (by omega))
    refine ev_of h ?_
    rw [List.append_nil, hL, str_nums]
    by_cases hn : n < 0
    · rw [if_pos hn, Lib.itoa, if_pos hn]
      apply bytes_inj
      simp [bytesOf]
    · rw [if_neg hn, Lib.itoa, if_neg hn, show n.natAbs = n.toNat by omega]
theorem impl_dec (n : Int) (h0 : -9223372036854775808 ≤ n) (h1 : n ≤ 9223372036854775807) : impl_Decimal.f n = some (⟨(Lib.itoa n).toArray⟩ : ByteArray) := by
  unfold impl_Decimal.f
  rw [if_pos (by omega), if_pos (by omega)]
theorem decDigits_size (u : Nat) (h : u ≤ 100000000000) : (Lib.decDigits u).length ≤ 12 := decDigits_len 11 u (by omega)
theorem itoa_size (n : Int) (h0 : 0 ≤ n) (h1 : n ≤ 100000000000) : (⟨(Lib.itoa n).toArray⟩ : ByteArray).size ≤ 12 := by
  have hi : Lib.itoa n = Lib.decDigits n.toNat := by rw [Lib.itoa, if_neg (by omega)]
  rw [hi]
  exact decDigits_size n.toNat (by omega)
end Go.Proofs.YtfenjlkopofopaaDoorB
end

section
/- A text read as a number, of both. -/
namespace Go.Proofs.YtfenjlkopofopaaDoorB
open Go.RowKit Go.Proofs.YtfenjlkopofopaaDoorW.PrintWords Go.Proofs.YtfenjlkopofopaaDoorW.PrintLast Go.Proofs.YtfenjlkopofopaaDoor.P

theorem wrap_rng (x : Int) : -9223372036854775808 ≤ wrap64 x ∧ wrap64 x ≤ 9223372036854775807 := by
  unfold wrap64
  omega
theorem bytes_extract (s : ByteArray) (a b : Nat) : bytesOf (s.extract a b) = ((bytesOf s).take b).drop a := by
  unfold bytesOf
  rw [ByteArray.data_extract, Array.toList_extract, List.extract_eq_take_drop, ← List.map_take, ← List.map_drop]
  congr 1
  rw [List.drop_take]
def BadL (xs : List Int) : Prop := ∃ x ∈ xs, ¬ (48 ≤ x ∧ x ≤ 57)
theorem num_end (s : ByteArray) (v : Int) (hv : -9223372036854775808 ≤ v ∧ v ≤ 9223372036854775807) (Q : Int × Bool → Prop) (hQ : ∀ r, Q r) :
    Both Q (fun k => (spec_l01Dec.f k v).bind fun t188 => if t188.toList = s.toList then (some (v, true)) else (some (0, false))) (fun _ => (impl_Decimal.f v).bind fun t203 => if t203.toList = s.toList then (some (v, true)) else (some (0, false))) := by
  refine both_bindL (spec_dec v hv.1 hv.2) (both_bind0R (impl_dec v hv.1 hv.2) ?_)
  exact both_ite (fun _ => both_now _ (hQ _)) (fun _ => both_now _ (hQ _))
theorem num_loop (s t : ByteArray) (ht : t.size ≤ 18) : ∀ (xs p : List Int) (v : Int), bytesOf t = p ++ xs → (-9223372036854775808 ≤ v ∧ v ≤ 9223372036854775807) →
    Both (fun r => BadL xs → r.2 = false) (fun k => spec_l01Number.l0 k s t v (p.length : Int)) (fun k => impl_ReadDecimal.l0 k s t v (p.length : Int)) := by
  intro xs
  induction xs with
  | nil =>
    intro p v hp hv
    have hz : (t.size : Int) = p.length := by rw [← bytes_length, hp]; simp
    have hn : ∀ r : Int × Bool, BadL [] → r.2 = false := fun r ⟨x, hx, _⟩ => by simp at hx
    refine both_step (fun k => by rw [spec_l01Number.l0]) (fun k => by rw [impl_ReadDecimal.l0]) ?_
    refine both_negL (by omega) (both_negR (by omega) ?_)
    refine both_ite (fun _ => ?_) (fun _ => ?_)
    · exact num_end s _ (wrap_rng _) _ hn
    · exact num_end s _ hv _ hn
  | cons x xs ih =>
    intro p v hp hv
    have hz : (t.size : Int) = p.length + (xs.length + 1) := by rw [← bytes_length, hp]; simp
    have hb : bt t (p.length : Int) = x := by rw [bt_rd, hp]; exact rd_mid p x xs
    have hw : wrap64 ((p.length : Int) + 1) = ((p ++ [x]).length : Int) := wrap_next p x (by omega)
    refine both_step (fun k => by rw [spec_l01Number.l0]) (fun k => by rw [impl_ReadDecimal.l0]) ?_
    refine both_posL (by omega) (both_posR (by omega) (both_posL (by omega) (both_posR (by omega) ?_)))
    rw [hb, hw]
    refine both_bind0L (digit_some x) ?_
    by_cases h1 : x < 48
    · refine both_negL (by simp; omega) (both_posR h1 (both_now _ (fun _ => rfl)))
    · by_cases h2 : x > 57
      · refine both_negL (by simp; omega) (both_negR h1 (both_posR h2 (both_now _ (fun _ => rfl))))
      · refine both_posL (by simp; omega) (both_negR h1 (both_negR h2 ?_))
        refine both_imp (ih (p ++ [x]) _ (by rw [hp]; simp) (wrap_rng _)) (fun r hr hbad => hr ?_)
        obtain ⟨y, hy, hy2⟩ := hbad
        rcases List.mem_cons.1 hy with rfl | hy
        · exact absurd ⟨by omega, by omega⟩ hy2
        · exact ⟨y, hy, hy2⟩
/-- What is left of a text behind its sign. -/
def unsign (s : ByteArray) : ByteArray := if rd (bytesOf s) 0 = 45 then s.extract 1 s.size else s
theorem num_tail (s t : ByteArray) : Both (fun r => BadL (bytesOf t) → r.2 = false) (fun k => spec_l01Number.j1 k s t) (fun k => if (t.size : Int) < 1 then impl_ReadDecimal.j0 k s t true else impl_ReadDecimal.j0 k s t (decide ((t.size : Int) > 18))) := by
  refine both_stepL (fun k => by rw [spec_l01Number.j1]) ?_
  refine both_ite (fun h => ?_) (fun h => ?_)
  · refine both_step (fun k => by rw [spec_l01Number.j2]) (fun k => by rw [impl_ReadDecimal.j0]) ?_
    exact both_posL rfl (both_posR rfl (both_now _ (fun _ => rfl)))
  · refine both_step (fun k => by rw [spec_l01Number.j2]) (fun k => by rw [impl_ReadDecimal.j0]) ?_
    refine both_ite (fun h2 => both_now _ (fun _ => rfl)) (fun h2 => ?_)
    have h3 : t.size ≤ 18 := by simp at h2; omega
    exact num_loop s t h3 (bytesOf t) [] 0 rfl (by omega)
theorem trim_some (s : ByteArray) : strings_TrimPrefix.f s (⟨#[45]⟩ : ByteArray) = some (unsign s) := by
  have h1 : (⟨#[45]⟩ : ByteArray).size = 1 := rfl
  unfold strings_TrimPrefix.f stringslite_TrimPrefix.f stringslite_HasPrefix.f unsign
  rw [h1]
  cases hb : bytesOf s with
  | nil =>
    have hl := bytes_length s
    rw [hb] at hl
    have hz : s.size = 0 := by simpa using hl.symm
    rw [if_neg (by omega)]
    simp [rd]
  | cons c cs =>
    have hl := bytes_length s
    rw [hb] at hl
    have hl2 : s.size = cs.length + 1 := by simpa using hl.symm
    rw [if_pos (by omega), if_pos (by omega), if_pos (by omega)]
    have hr : rd (c :: cs) 0 = c := rfl
    have he : ((s.extract 0 ((1 : Nat) : Int).toNat).toList == (⟨#[45]⟩ : ByteArray).toList) = decide (c = 45) := by
      have h2 : bytesOf (s.extract 0 1) = [c] := by rw [bytes_extract, hb]; rfl
      by_cases hc : c = 45
      · rw [decide_eq_true hc, beq_iff_eq, toList_iff]
        apply bytes_inj
        rw [show ((1 : Nat) : Int).toNat = 1 from rfl, h2, hc]
        rfl
      · rw [decide_eq_false hc, beq_eq_false_iff_ne]
        intro hh
        rw [toList_iff, show ((1 : Nat) : Int).toNat = 1 from rfl] at hh
        rw [hh] at h2
        have h3 : bytesOf (⟨#[45]⟩ : ByteArray) = [45] := rfl
        rw [h3] at h2
        exact hc (by injection h2 with h4; exact h4.symm)
    rw [he, hr]
    by_cases hc : c = 45
    · simp [hc]
      omega
    · simp [hc]
theorem number_both (s : ByteArray) : Both (fun r => BadL (bytesOf (unsign s)) → r.2 = false) (fun k => spec_l01Number.f k s) (fun k => impl_ReadDecimal.f k s) := by
  unfold spec_l01Number.f impl_ReadDecimal.f
  refine both_bind0R (trim_some s) ?_
  cases hb : bytesOf s with
  | nil =>
    have hu : unsign s = s := by unfold unsign; rw [hb]; simp [rd]
    rw [hu]
    refine both_posL ((bytes_nil s).2 hb) ?_
    refine both_stepL (fun k => by rw [spec_l01Number.j0]) (both_negL (by simp) ?_)
    exact num_tail s s
  | cons c cs =>
    have hl := bytes_length s
    rw [hb] at hl
    have hl2 : s.size = cs.length + 1 := by simpa using hl.symm
    refine both_negL (fun h => by rw [bytes_nil, hb] at h; simp at h) (both_posL (by omega) ?_)
    have hc : bt s 0 = c := by rw [bt_rd, hb]; rfl
    rw [hc]
    refine both_stepL (fun k => by rw [spec_l01Number.j0]) ?_
    by_cases h : c = 45
    · have hu : unsign s = s.extract 1 s.size := by unfold unsign; rw [hb, if_pos (by simpa [rd] using h)]
      rw [hu]
      exact both_posL (by simp [h]) (both_posL (by omega) (num_tail s _))
    · have hu : unsign s = s := by unfold unsign; rw [hb, if_neg (by simpa [rd] using h)]
      rw [hu]
      exact both_negL (by simp [h]) (num_tail s _)
end Go.Proofs.YtfenjlkopofopaaDoorB
end

section
/- What the draws of the laws of coils give: small lists, small texts. -/
namespace Go.Proofs.YtfenjlkopofopaaDoorB
open Go.RowKit Go.Proofs.YtfenjlkopofopaaDoorW.PrintWords Go.Proofs.YtfenjlkopofopaaDoorW.PrintLast Go.Proofs.YtfenjlkopofopaaDoor.P

theorem good_set {l : List C} (h : ∀ x ∈ l, GoodCoil x) (i : Nat) {y : C} (hy : GoodCoil y) : ∀ x ∈ l.set i y, GoodCoil x := fun x hx => by
  rcases List.mem_or_eq_of_mem_set hx with h1 | h1
  · exact h x h1
  · rw [h1]; exact hy
theorem smalls {l : List ByteArray} {n : Nat} (h : decide (∀ x ∈ l, x.size ≤ n) = true) : ∀ x ∈ l, x.size ≤ n := of_decide_eq_true h
section
variable {c : List Int} (hc : Code c)
include hc
theorem bent_some (at_ seed : Int) (h0 : 0 ≤ at_) (h1 : at_ ≤ 10) : ∃ r at' s', Ev (fun k => spec_l23Bent.f k c at_ seed) (r, at', s') ∧ r.length ≤ 100 ∧ (∀ x ∈ r, GoodCoil x) ∧ 0 ≤ at' ∧ at' ≤ 1000 := by
  obtain ⟨l, t, s, e, hl, hg, t0, t1⟩ := draw_some hc at_ seed h0 (by omega)
  unfold spec_l23Bent.f
  by_cases hz : (l.length : Int) = 0
  · exact ⟨l, t, s, Ev.bind e (ev_pos hz (Ev.now _)), hl, hg, by omega, by omega⟩
  · obtain ⟨u, t2, s2, e2, u0, u1, p0, p1⟩ := pick_some hc t s (l.length : Int) ⟨by omega, by omega⟩ (by omega)
    have u2 := u1 (by omega)
    obtain ⟨v, t3, s3, e3, v0, v1, q0, q1⟩ := pick_some hc t2 s2 24 ⟨by omega, by omega⟩ (by omega)
    have hm := rdC_mem l u u0 u2
    by_cases hv0 : v = 0
    · obtain ⟨b, t4, s4, e4, hb, r0, r1⟩ := text_some hc t3 s3 [(⟨#[]⟩ : ByteArray), (⟨#[72, 101, 109, 112]⟩ : ByteArray)] (by omega) (by omega) (by simp) (by simp)
      have hb2 := smalls (n := 1048576) (by rfl) b hb
      refine ⟨_, t4, s4, Ev.bind e (ev_neg hz (ev_bind0 e2 (ev_pos u0 (ev_pos u2 (ev_bind0 e3 (ev_pos hv0 (ev_bind0 e4 (Ev.now _)))))))), by rw [List.length_set]; exact hl, good_set hg _ ⟨hb2, (hg _ hm).2⟩, by omega, by omega⟩
    · by_cases hv1 : v = 1
      · obtain ⟨b, t4, s4, e4, hb, r0, r1⟩ := among_some hc t3 s3 [(-1), 0, 1, 100000, 100001, (-9223372036854775808)] (by omega) (by omega) (by simp) (by simp)
        have hb2 : I64 b := by
          simp at hb
          unfold I64
          omega
        refine ⟨_, t4, s4, Ev.bind e (ev_neg hz (ev_bind0 e2 (ev_pos u0 (ev_pos u2 (ev_bind0 e3 (ev_neg hv0 (ev_pos hv1 (ev_bind0 e4 (Ev.now _))))))))), by rw [List.length_set]; exact hl, good_set hg _ ⟨(hg _ hm).1, hb2⟩, by omega, by omega⟩
      · exact ⟨l, t3, s3, Ev.bind e (ev_neg hz (ev_bind0 e2 (ev_pos u0 (ev_pos u2 (ev_bind0 e3 (ev_neg hv0 (ev_neg hv1 (Ev.now _)))))))), hl, hg, by omega, by omega⟩
theorem spoilWant_some (at_ seed : Int) (h0 : 0 ≤ at_) (h1 : at_ ≤ 10000) : ∃ b n at' s', spec_l23SpoilWant.f c at_ seed = some (b, n, at', s') ∧ b.size ≤ 1048576 ∧ I64 n := by
  obtain ⟨q, t, s, e, t0, t1⟩ := one_some hc at_ seed 2 h0 (by omega) (by omega)
  unfold spec_l23SpoilWant.f
  rw [e, Option.bind_some]
  dsimp only
  cases q with
  | true =>
    obtain ⟨b, t4, s4, e4, hb, r0, r1⟩ := text_some hc t s [(⟨#[]⟩ : ByteArray), (⟨#[72, 101, 109, 112]⟩ : ByteArray)] (by omega) (by omega) (by simp) (by simp)
    rw [if_pos rfl, e4, Option.bind_some]
    exact ⟨_, _, _, _, rfl, smalls (n := 1048576) (by rfl) b hb, by unfold I64; omega⟩
  | false =>
    obtain ⟨b, t4, s4, e4, hb, r0, r1⟩ := among_some hc t s [(-1), 0, 1, 100000, 100001] (by omega) (by omega) (by simp) (by simp)
    rw [if_neg (by simp), e4, Option.bind_some]
    refine ⟨_, _, _, _, rfl, by decide, ?_⟩
    simp at hb
    unfold I64
    omega
theorem drawWant_some (at_ seed : Int) (h0 : 0 ≤ at_) (h1 : at_ ≤ 10000) : ∃ b n at' s', spec_l23DrawWant.f c at_ seed = some (b, n, at', s') ∧ b.size ≤ 1048576 ∧ I64 n := by
  obtain ⟨b, t, s, e, hb, h2, h3⟩ := kind_some hc at_ seed h0 (by omega)
  obtain ⟨u, t1, s1, e1, u0, u1, p0, p1⟩ := pick_some hc t s 30 ⟨by omega, by omega⟩ (by omega)
  have u2 := u1 (by omega)
  unfold spec_l23DrawWant.f
  rw [e, Option.bind_some]
  dsimp only
  rw [e1, Option.bind_some]
  dsimp only
  rw [wrap_small (i := 10 * u) (by omega) (by omega), wrap_small (by omega) (by omega)]
  exact ⟨_, _, _, _, rfl, hb, by unfold I64; omega⟩
theorem ask_some : ∃ l s n, Ev (fun k => spec_DrawCutPiece.f k c) (l, s, n) ∧ GoodCoils l ∧ s.size ≤ 1048576 ∧ I64 n := by
  obtain ⟨l, t, s, e, hl, hg, t0, t1⟩ := bent_some hc 0 0 (by omega) (by omega)
  obtain ⟨q, t2, s2, e2, q0, q1⟩ := one_some hc t s 10 (by omega) (by omega) (by omega)
  unfold spec_DrawCutPiece.f spec_l23Ask.f
  cases q with
  | true =>
    obtain ⟨b, n, t3, s3, e3, hb, hn⟩ := spoilWant_some hc t2 s2 (by omega) (by omega)
    exact ⟨l, b, n, Ev.bind (ev_bind0 (a := (c, 0, 0)) rfl (Ev.bind e (ev_bind0 e2 (ev_pos rfl (ev_bind0 e3 (Ev.now _)))))) (Ev.now _), ⟨by omega, hg⟩, hb, hn⟩
  | false =>
    obtain ⟨b, n, t3, s3, e3, hb, hn⟩ := drawWant_some hc t2 s2 (by omega) (by omega)
    exact ⟨l, b, n, Ev.bind (ev_bind0 (a := (c, 0, 0)) rfl (Ev.bind e (ev_bind0 e2 (ev_neg (by simp) (ev_bind0 e3 (Ev.now _)))))) (Ev.now _), ⟨by omega, hg⟩, hb, hn⟩
theorem drawLeftOf_some : ∃ l s, Ev (fun k => spec_DrawLeftOf.f k c) (l, s) ∧ GoodCoils l ∧ s.size ≤ 1048576 := by
  obtain ⟨l, t, s, e, hl, hg, t0, t1⟩ := bent_some hc 0 0 (by omega) (by omega)
  obtain ⟨b, t4, s4, e4, hb, r0, r1⟩ := text_some hc t s [(⟨#[104, 101, 109, 112]⟩ : ByteArray), (⟨#[109, 97, 110, 105, 108, 97]⟩ : ByteArray), (⟨#[106, 117, 116, 101]⟩ : ByteArray), (⟨#[]⟩ : ByteArray), (⟨#[72, 101, 109, 112]⟩ : ByteArray)] (by omega) (by omega) (by simp) (by simp)
  unfold spec_DrawLeftOf.f
  exact ⟨l, b, ev_bind0 (a := (c, 0, 0)) rfl (Ev.bind e (ev_bind0 e4 (Ev.now _))), ⟨by omega, hg⟩, smalls (n := 1048576) (by rfl) b hb⟩
theorem drawThrow_some : ∃ l n, Ev (fun k => spec_DrawThrowShort.f k c) (l, n) ∧ GoodCoils l ∧ I64 n := by
  obtain ⟨l, t, s, e, hl, hg, t0, t1⟩ := bent_some hc 0 0 (by omega) (by omega)
  obtain ⟨q, t2, s2, e2, q0, q1⟩ := one_some hc t s 8 (by omega) (by omega) (by omega)
  unfold spec_DrawThrowShort.f
  cases q with
  | true =>
    obtain ⟨b, t4, s4, e4, hb, r0, r1⟩ := among_some hc t2 s2 [(-1), 0, 100000, 100001] (by omega) (by omega) (by simp) (by simp)
    refine ⟨l, b, ev_bind0 (a := (c, 0, 0)) rfl (Ev.bind e (ev_bind0 e2 (ev_pos rfl (ev_bind0 e4 (Ev.now _))))), ⟨by omega, hg⟩, ?_⟩
    simp at hb
    unfold I64
    omega
  | false =>
    obtain ⟨b, t4, s4, e4, v0, v1, r0, r1⟩ := pick_some hc t2 s2 500 ⟨by omega, by omega⟩ (by omega)
    have := v1 (by omega)
    exact ⟨l, b, ev_bind0 (a := (c, 0, 0)) rfl (Ev.bind e (ev_bind0 e2 (ev_neg (by simp) (ev_bind0 e4 (Ev.now _))))), ⟨by omega, hg⟩, by unfold I64; omega⟩
theorem drawAdd_some : ∃ l b n, Ev (fun k => spec_DrawAddCoil.f k c) (l, b, n) ∧ GoodCoils l ∧ GoodCoil ⟨b, n⟩ := by
  obtain ⟨l, t, s, e, hl, hg, t0, t1⟩ := bent_some hc 0 0 (by omega) (by omega)
  obtain ⟨b, n, t5, s5, e5, g, _, _, p0, p1⟩ := new_coil hc t s t0 (by omega)
  obtain ⟨q, t2, s2, e2, q0, q1⟩ := one_some hc t5 s5 8 (by omega) (by omega) (by omega)
  unfold spec_DrawAddCoil.f
  cases q with
  | true =>
    obtain ⟨m, t4, s4, e4, hb, r0, r1⟩ := among_some hc t2 s2 [(-1), 0, 1, 100000, 100001] (by omega) (by omega) (by simp) (by simp)
    refine ⟨l, b, m, ev_bind0 (a := (c, 0, 0)) rfl (Ev.bind e (ev_bind0 e5 (ev_bind0 e2 (ev_pos rfl (ev_bind0 e4 (Ev.now _)))))), ⟨by omega, hg⟩, g.1, ?_⟩
    simp at hb
    show I64 m
    unfold I64
    omega
  | false =>
    exact ⟨l, b, n, ev_bind0 (a := (c, 0, 0)) rfl (Ev.bind e (ev_bind0 e5 (ev_bind0 e2 (ev_neg (by simp) (Ev.now _))))), ⟨by omega, hg⟩, g⟩
theorem drawText_some : ∃ b n, Ev (fun k => spec_DrawCoilText.f k c) (b, n) ∧ GoodCoil ⟨b, n⟩ := by
  obtain ⟨l, t, s, e, hl, hg, t0, t1⟩ := bent_some hc 0 0 (by omega) (by omega)
  unfold spec_DrawCoilText.f
  by_cases hz : (l.length : Int) = 0
  · exact ⟨_, _, ev_bind0 (a := (c, 0, 0)) rfl (Ev.bind e (ev_pos hz (Ev.now _))), by show (0 : Nat) ≤ _; omega, by show I64 0; unfold I64; omega⟩
  · exact ⟨_, _, ev_bind0 (a := (c, 0, 0)) rfl (Ev.bind e (ev_neg hz (ev_pos (by show 0 < (l.length : Int); omega) (Ev.now _)))), hg _ (rdC_mem l 0 (by omega) (by omega))⟩
theorem new_small (at_ seed : Int) (h0 : 0 ≤ at_) (h1 : at_ ≤ 900000) : ∃ b n at' s', spec_l23New.f c at_ seed = some (b, n, at', s') ∧ b.size ≤ 100 ∧ 50 ≤ n ∧ n ≤ 640 ∧ at_ ≤ at' ∧ at' ≤ at_ + 4 := by
  obtain ⟨b, t, s, e, hb, h2, h3⟩ := text_some hc at_ seed [(⟨#[104, 101, 109, 112]⟩ : ByteArray), (⟨#[104, 101, 109, 112]⟩ : ByteArray), (⟨#[109, 97, 110, 105, 108, 97]⟩ : ByteArray), (⟨#[119, 105, 114, 101, 45, 54]⟩ : ByteArray)] h0 (by omega) (by simp) (by simp)
  obtain ⟨u, t1, s1, e1, u0, u1, p0, p1⟩ := pick_some hc t s 60 ⟨by omega, by omega⟩ (by omega)
  have u2 := u1 (by omega)
  have hw : wrap64 (50 + wrap64 (10 * u)) = 50 + 10 * u := by rw [wrap_small (i := 10 * u) (by omega) (by omega), wrap_small (by omega) (by omega)]
  refine ⟨b, 50 + 10 * u, t1, s1, ?_, smalls (n := 100) (by rfl) b hb, by omega, by omega, by omega, by omega⟩
  unfold spec_l23New.f spec_l23Kind.f
  rw [e, Option.bind_some]
  show (spec_l00Src_pick.f c t s 60).bind _ = _
  rw [e1, Option.bind_some]
  dsimp only
  rw [hw]
theorem spoil_some (at_ seed : Int) (x : ByteArray) (h0 : 0 ≤ at_) (h1 : at_ ≤ 900000) (hx : x.size ≤ 1000) : ∃ r at' s', spec_l01Spoil.f c at_ seed x = some (r, at', s') ∧ r.size ≤ 3000 := by
  obtain ⟨u, t, s, e, u0, u1, p0, p1⟩ := pick_some hc at_ seed 5 ⟨by omega, by omega⟩ (by omega)
  unfold spec_l01Spoil.f
  rw [e, Option.bind_some]
  dsimp only
  by_cases h2 : u = 0
  · rw [if_pos h2, wrap_small (by omega) (by omega)]
    obtain ⟨v, t2, s2, e2, v0, v1, q0, q1⟩ := pick_some hc t s ((x.size : Int) + 1) ⟨by omega, by omega⟩ (by omega)
    have v2 := v1 (by omega)
    obtain ⟨b, t4, s4, e4, hb, r0, r1⟩ := text_some hc t2 s2 [(⟨#[32]⟩ : ByteArray), (⟨#[48]⟩ : ByteArray), (⟨#[45]⟩ : ByteArray), (⟨#[120]⟩ : ByteArray), (⟨#[49]⟩ : ByteArray), (⟨#[57]⟩ : ByteArray), (⟨#[46]⟩ : ByteArray)] (by omega) (by omega) (by simp) (by simp)
    have hb2 := smalls (n := 100) (by rfl) b hb
    have z1 : (x.extract 0 v.toNat).size ≤ 1000 := by rw [ByteArray.size_extract]; omega
    have z2 : (x.extract v.toNat x.size).size ≤ 1000 := by rw [ByteArray.size_extract]; omega
    rw [e2, Option.bind_some, if_pos v0, if_pos (by dsimp only; omega), e4, Option.bind_some, if_pos (by dsimp only; omega), if_pos (by dsimp only; omega)]
    refine ⟨_, _, _, rfl, ?_⟩
    rw [ByteArray.size_append, ByteArray.size_append]
    show (x.extract 0 v.toNat).size + b.size + (x.extract v.toNat x.size).size ≤ 3000
    omega
  · rw [if_neg h2]
    by_cases h3 : u = 1
    · rw [if_pos h3]
      by_cases h4 : x.toList = ([] : List UInt8)
      · rw [if_pos h4]
        exact ⟨_, _, _, rfl, by omega⟩
      · rw [if_neg h4]
        have hz : 0 < x.size := by
          have := Lib.toList_data x
          have h5 : x.data.toList.length = x.size := data_length x
          rw [this] at h4
          cases hd : x.data.toList with
          | nil => exact absurd hd h4
          | cons a l => rw [hd] at h5; simp at h5; omega
        obtain ⟨v, t2, s2, e2, v0, v1, q0, q1⟩ := pick_some hc t s (x.size : Int) ⟨by omega, by omega⟩ (by omega)
        have v2 := v1 (by omega)
        have z1 : (x.extract 0 v.toNat).size ≤ 1000 := by rw [ByteArray.size_extract]; omega
        have z2 : (x.extract (v + 1).toNat x.size).size ≤ 1000 := by rw [ByteArray.size_extract]; omega
        have hw : wrap64 (v + 1) = v + 1 := wrap_small (by omega) (by omega)
        rw [e2, Option.bind_some]
        dsimp only
        rw [hw, if_pos v0, if_pos (by omega), if_pos (by omega), if_pos (by omega), if_pos (by omega)]
        refine ⟨_, _, _, rfl, ?_⟩
        rw [ByteArray.size_append]
        omega
    · rw [if_neg h3]
      exact ⟨_, _, _, rfl, by omega⟩
omit hc in
theorem text23 (s : ByteArray) (n : Int) (hs : s.size ≤ 1048576) (h0 : 0 ≤ n) (h1 : n ≤ 100000000000) : Ev (fun k => spec_l23Text.f k s n) ((s ++ (⟨#[58]⟩ : ByteArray)) ++ (⟨(Lib.itoa n).toArray⟩ : ByteArray)) := by
  have hz := itoa_size n h0 h1
  unfold spec_l23Text.f
  refine ev_pos (by omega) (Ev.bind (spec_dec n (by omega) (by omega)) ?_)
  refine ev_pos ?_ (Ev.now _)
  rw [ByteArray.size_append]
  have : (⟨#[58]⟩ : ByteArray).size = 1 := rfl
  omega
theorem drawRead_some : ∃ s, Ev (fun k => spec_DrawReadCoil.f k c) s ∧ s.size ≤ 1048576 := by
  obtain ⟨b, n, t, s, e, hb, n0, n1, t0, t1⟩ := new_small hc 0 0 (by omega) (by omega)
  have hz := itoa_size n (by omega) (by omega)
  have hT := text23 b n (by omega) (by omega) (by omega)
  obtain ⟨x, hx⟩ : ∃ x, x = (b ++ (⟨#[58]⟩ : ByteArray)) ++ (⟨(Lib.itoa n).toArray⟩ : ByteArray) := ⟨_, rfl⟩
  have hxs : x.size ≤ 1000 := by
    rw [hx, ByteArray.size_append, ByteArray.size_append]
    have : (⟨#[58]⟩ : ByteArray).size = 1 := rfl
    omega
  rw [← hx] at hT
  obtain ⟨q, t2, s2, e2, q0, q1⟩ := one_some hc t s 3 (by omega) (by omega) (by omega)
  unfold spec_DrawReadCoil.f
  cases q with
  | true =>
    obtain ⟨r, t3, s3, e3, hr⟩ := spoil_some hc t2 s2 x (by omega) (by omega) hxs
    exact ⟨r, ev_bind0 (a := (c, 0, 0)) rfl (ev_bind0 e (Ev.bind hT (ev_bind0 e2 (ev_pos rfl (ev_bind0 e3 (Ev.now _)))))), by omega⟩
  | false => exact ⟨x, ev_bind0 (a := (c, 0, 0)) rfl (ev_bind0 e (Ev.bind hT (ev_bind0 e2 (ev_neg (by simp) (Ev.now _))))), by omega⟩
theorem drawSame_some : ∃ a b, Ev (fun k => spec_DrawSameCoils.f k c) (a, b) ∧ GoodCoils a ∧ GoodCoils b := by
  obtain ⟨l, t, s, e, hl, hg, t0, t1⟩ := draw_some hc 0 0 (by omega) (by omega)
  have hzero : GoodCoil ⟨(⟨#[]⟩ : ByteArray), 0⟩ := ⟨by show (0 : Nat) ≤ _; omega, by show I64 0; unfold I64; omega⟩
  have hpush : ∀ y : List C, (∀ x ∈ y, GoodCoil x) → ∀ x ∈ y ++ [⟨(⟨#[]⟩ : ByteArray), 0⟩], GoodCoil x := fun y hy x hx => by
    rcases List.mem_append.1 hx with h | h
    · exact hy x h
    · rw [List.mem_singleton.1 h]; exact hzero
  have last : ∀ (y : List C) (t s : Int), y.length ≤ 100 → (∀ x ∈ y, GoodCoil x) → 0 ≤ t → t ≤ 1000 → ∃ b, Ev (fun _ => (spec_l00Src_one.f c t s 5).bind fun bt => (if bt.1 = true then (if y.length < 5864062014805 then (some (l, (y ++ [(⟨(⟨#[]⟩ : ByteArray), 0⟩ : C)]))) else (none)) else (some (l, y)))) (l, b) ∧ b.length ≤ 101 ∧ ∀ x ∈ b, GoodCoil x := by
    intro y t s hy hgy h0 h1
    obtain ⟨q, t2, s2, e2, q0, q1⟩ := one_some hc t s 5 (by omega) (by omega) (by omega)
    cases q with
    | true => exact ⟨_, ev_bind0 e2 (ev_pos rfl (ev_pos (by omega) (Ev.now _))), by simp; omega, hpush y hgy⟩
    | false => exact ⟨y, ev_bind0 e2 (ev_neg (by simp) (Ev.now _)), by omega, hgy⟩
  have hj : ∀ (q : Bool) (t s : Int), 0 ≤ t → t ≤ 900 → (q = true → 0 < (l.length : Int)) → ∃ b, Ev (fun k => spec_DrawSameCoils.j0 k l l q c t s) (l, b) ∧ b.length ≤ 101 ∧ ∀ x ∈ b, GoodCoil x := by
    intro q t s h0 h1 hq
    cases q with
    | true =>
      have h2 := hq rfl
      obtain ⟨u, t2, s2, e2, u0, u1, p0, p1⟩ := pick_some hc t s 2 ⟨by omega, by omega⟩ (by omega)
      have hi : I64 (wrap64 ((rd_T23 l 0).f1 + u)) := wrap_rng _
      have hm := rdC_mem l 0 (by omega) h2
      obtain ⟨b, hb, hb1, hb2⟩ := last (l.set (0 : Int).toNat ⟨(rd_T23 l 0).f0, wrap64 ((rd_T23 l 0).f1 + u)⟩) t2 s2 (by rw [List.length_set]; exact hl) (good_set hg _ ⟨(hg _ hm).1, hi⟩) (by omega) (by omega)
      refine ⟨b, Ev.step (fun k => by rw [spec_DrawSameCoils.j0]) (ev_pos rfl (ev_pos h2 (ev_bind0 e2 ?_))), hb1, hb2⟩
      exact ev_bind0 rfl hb
    | false =>
      obtain ⟨b, hb, hb1, hb2⟩ := last l t s hl hg (by omega) (by omega)
      exact ⟨b, Ev.step (fun k => by rw [spec_DrawSameCoils.j0]) (ev_neg (by simp) hb), hb1, hb2⟩
  unfold spec_DrawSameCoils.f
  by_cases hz : (l.length : Int) > 0
  · obtain ⟨q, t2, s2, e2, q0, q1⟩ := one_some hc t s 2 (by omega) (by omega) (by omega)
    obtain ⟨b, hb, hb1, hb2⟩ := hj q t2 s2 (by omega) (by omega) (fun _ => hz)
    exact ⟨l, b, ev_bind0 (a := (c, 0, 0)) rfl (Ev.bind e (ev_bind0 rfl (ev_pos (by simp; omega) (ev_bind0 rfl (ev_pos hz (ev_bind0 e2 hb)))))), ⟨by omega, hg⟩, ⟨by omega, hb2⟩⟩
  · obtain ⟨b, hb, hb1, hb2⟩ := hj false t s (by omega) (by omega) (fun h => by simp at h)
    exact ⟨l, b, ev_bind0 (a := (c, 0, 0)) rfl (Ev.bind e (ev_bind0 rfl (ev_pos (by simp; omega) (ev_bind0 rfl (ev_neg hz hb))))), ⟨by omega, hg⟩, ⟨by omega, hb2⟩⟩
end
end Go.Proofs.YtfenjlkopofopaaDoorB
end

section
/- Want: its own record, which no printed text holds; what is asked of one. -/
namespace Go.Proofs.YtfenjlkopofopaaDoor.P
structure S32 where
 f0 : ByteArray
 f1 : Int
end Go.Proofs.YtfenjlkopofopaaDoor.P
namespace Go.Proofs.YtfenjlkopofopaaDoorB
open Go.RowKit Go.Proofs.YtfenjlkopofopaaDoor.P

end Go.Proofs.YtfenjlkopofopaaDoorB
end

section
/- A piece: whether it is valid. -/
namespace Go.Proofs.YtfenjlkopofopaaDoorB
open Go.RowKit Go.Proofs.YtfenjlkopofopaaDoorW.PrintWords Go.Proofs.YtfenjlkopofopaaDoorW.PrintLast Go.Proofs.YtfenjlkopofopaaDoor.P

theorem spec_want (s : ByteArray) (n : Int) (hs : s.size ≤ maxLen) : Ev (fun k => spec_l23Want.f k s n) (nameB s && rangeB n) := by
  unfold spec_l23Want.f
  refine Ev.bind (spec_name s hs) ?_
  cases nameB s with
  | true => exact ev_pos rfl (ev_bind0 (in_some _ _ _) (Ev.now _))
  | false => exact ev_neg (by simp) (Ev.now _)
theorem impl_want (s : ByteArray) (n : Int) (hs : s.size ≤ maxLen) : Ev (fun k => impl_validWant.f k s n) (nameB s && rangeB n) := by
  unfold impl_validWant.f
  refine Ev.bind (impl_name s hs) ?_
  cases nameB s with
  | true => exact ev_pos rfl (ev_bind0 (within_some _ _ _) (Ev.now _))
  | false => exact ev_neg (by simp) (Ev.now _)

abbrev W' := S32
end Go.Proofs.YtfenjlkopofopaaDoorB
end

section
/- The best coil, of both. -/
namespace Go.Proofs.YtfenjlkopofopaaDoorB
open Go.RowKit Go.Proofs.YtfenjlkopofopaaDoorW.PrintWords Go.Proofs.YtfenjlkopofopaaDoorW.PrintLast Go.Proofs.YtfenjlkopofopaaDoor.P

theorem code_ev (l : List C) (s : ByteArray) (n : Int) (h : GoodCoils l) (hs : s.size ≤ 1048576) : Ev (fun k => spec_l23Code.f k l s n) (if okCoils l = true then (if (nameB s && rangeB n) = true then 0 else 2) else 1) := by
  unfold spec_l23Code.f
  refine Ev.bind (spec_ok l h.1 (good_sizes h)) ?_
  by_cases h1 : okCoils l = true
  · rw [if_pos h1]
    refine ev_pos h1 (Ev.bind (spec_want s n (max_of hs)) ?_)
    by_cases h2 : (nameB s && rangeB n) = true
    · exact ev_of (ev_pos h2 (Ev.now _)) (if_pos h2).symm
    · exact ev_of (ev_neg h2 (Ev.now _)) (if_neg h2).symm
  · exact ev_of (ev_neg h1 (Ev.now _)) (if_neg h1).symm

/-- A best coil so far: none, or one of those behind, long enough. -/
def BestOf (l : List C) (n b : Int) : Prop := b = -1 ∨ (0 ≤ b ∧ b < (l.length : Int) ∧ n ≤ (rd_T23 l b).f1)
theorem best_loop (s : ByteArray) (n : Int) : ∀ (xs p : List C) (b : Int), p.length + xs.length ≤ 1048576 → BestOf (p ++ xs) n b → b < (p.length : Int) →
    Both (BestOf (p ++ xs) n) (fun k => spec_l23Best.l0 k (p ++ xs) b (p.length : Int) s n) (fun k => impl_bestCoil.l0 k (p ++ xs) b (p ++ xs) ((p ++ xs).length : Int) (p.length : Int) s n) := by
  intro xs
  induction xs with
  | nil =>
    intro p b hm hb hlt
    exact both_step (fun k => by rw [spec_l23Best.l0]) (fun k => by rw [impl_bestCoil.l0]) (both_negL (not_lt_end p) (both_negR (not_lt_end p) (both_now _ hb)))
  | cons x xs ih =>
    intro p b hm hb hlt
    rw [List.length_cons] at hm
    have hw : wrap64 ((p.length : Int) + 1) = ((p ++ [x]).length : Int) := wrap_next p x (by omega)
    have hz : ((p ++ [x]).length : Int) = p.length + 1 := by simp
    have hi := ih (p ++ [x])
    rw [← push_mid p x xs] at hi
    have hi2 := fun b (h : BestOf (p ++ x :: xs) n b) (h2 : b ≤ (p.length : Int)) => hi b (by rw [List.length_append]; simp; omega) h (by omega)
    have keep := hi2 b hb (by omega)
    refine both_step (fun k => by rw [spec_l23Best.l0]) (fun k => by rw [impl_bestCoil.l0]) ?_
    refine both_posL (lt_mid p x xs) (both_posL (Int.natCast_nonneg _) (both_posR (lt_mid p x xs) (both_posR (Int.natCast_nonneg _) (both_posR (lt_mid p x xs) ?_))))
    rw [rd23_mid, hw]
    refine both_ite (fun _ => both_ite (fun hn => ?_) (fun _ => keep)) (fun _ => keep)
    have take := hi2 (p.length : Int) (.inr ⟨Int.natCast_nonneg _, lt_mid p x xs, by rw [rd23_mid]; omega⟩) (by omega)
    refine both_ite (fun _ => take) (fun hnb => ?_)
    have hb2 : b < ((p ++ x :: xs).length : Int) := by have := lt_mid p x xs; omega
    exact both_posL (by omega) (both_posR (by omega) (both_posL hb2 (both_posR hb2 (both_ite (fun _ => take) (fun _ => keep)))))
end Go.Proofs.YtfenjlkopofopaaDoorB
end

section
/- CutPiece, of both. -/
namespace Go.Proofs.YtfenjlkopofopaaDoorB
open Go.RowKit Go.Proofs.YtfenjlkopofopaaDoorW.PrintWords Go.Proofs.YtfenjlkopofopaaDoorW.PrintLast Go.Proofs.YtfenjlkopofopaaDoor.P

theorem split_at {α : Type} (l : List α) (b : Int) (h0 : 0 ≤ b) (h1 : b < (l.length : Int)) : ∃ p x xs, l = p ++ x :: xs ∧ (p.length : Int) = b := by
  have hlt : b.toNat < l.length := by omega
  refine ⟨l.take b.toNat, l[b.toNat], l.drop (b.toNat + 1), ?_, ?_⟩
  · rw [← List.drop_eq_getElem_cons hlt, List.take_append_drop]
  · rw [List.length_take]
    omega
theorem erase_mid {α : Type} (p : List α) (x : α) (xs : List α) : (p ++ x :: xs).eraseIdx ((p.length : Int)).toNat = p ++ xs := by
  rw [Int.toNat_natCast, List.eraseIdx_append_of_length_le (Nat.le_refl _)]
  simp
theorem ite_pos {α : Type} {c : Prop} [Decidable c] {a b r : α} (h : c) (e : a = r) : (if c then a else b) = r := (if_pos h).trans e
theorem ite_neg {α : Type} {c : Prop} [Decidable c] {a b r : α} (h : ¬ c) (e : b = r) : (if c then a else b) = r := (if_neg h).trans e
theorem some_bind {α β : Type} {a : α} {f : α → Option β} {r : Option β} (e : f a = r) : (some a).bind f = r := e
theorem take_p {α : Type} (p xs : List α) : (p ++ xs).take ((p.length : Int)).toNat = p := by simp
theorem drop_p {α : Type} (p : List α) (y : α) (xs : List α) : (p ++ y :: xs).drop ((p.length : Int) + 1).toNat = xs := by
  have e : ((p.length : Int) + 1).toNat = (p ++ [y]).length := by simp
  rw [e, push_mid p y xs, List.drop_left]
theorem cut_spec (p : List C) (y : C) (xs : List C) (n : Int) (hlen : p.length + (xs.length + 1) ≤ 1048576) (hw : wrap64 (y.f1 - n) = y.f1 - n) :
    spec_l23Cut.f (p ++ y :: xs) (p.length : Int) n = some (if y.f1 > n then p ++ [⟨y.f0, y.f1 - n⟩] ++ xs else p ++ xs) := by
  have hw1 : wrap64 ((p.length : Int) + 1) = (p.length : Int) + 1 := wrap_small (by omega) (by omega)
  have hL : ((p ++ y :: xs).length : Int) = (p.length : Int) + (xs.length + 1) := by simp
  have hd := drop_p p y xs
  have ht := take_p p (y :: xs)
  unfold spec_l23Cut.f
  rw [rd23_mid, hw, hw1, ht, hd]
  refine some_bind (ite_pos (Int.natCast_nonneg _) (ite_pos (by omega) (some_bind (ite_pos (by rw [List.length_nil]; omega) (some_bind (ite_pos (by omega) ?_))))))
  rw [List.nil_append]
  by_cases hg : y.f1 > n
  · refine ite_pos hg (ite_pos (by omega) (some_bind (ite_pos (by omega) (ite_pos (by omega) (some_bind (ite_pos (by rw [List.length_append, List.length_singleton]; omega) ?_))))))
    rw [if_pos hg]
  · refine ite_neg hg (ite_pos (by omega) (ite_pos (by omega) (some_bind (ite_pos (by omega) ?_))))
    rw [if_neg hg]
theorem cut_impl (p : List C) (y : C) (xs : List C) (s : ByteArray) (n : Int) (hlen : p.length + (xs.length + 1) ≤ 1048576) (hn : n ≤ y.f1) (hw : wrap64 (y.f1 - n) = y.f1 - n)
    (hB : Ev (fun k => impl_BestCoil.f k (p ++ y :: xs) s n) ((p.length : Int), 0)) :
    Ev (fun k => impl_CutPiece.f k (p ++ y :: xs) s n) (if y.f1 > n then p ++ [⟨y.f0, y.f1 - n⟩] ++ xs else p ++ xs, (p.length : Int), 0) := by
  have hw1 : wrap64 ((p.length : Int) + 1) = (p.length : Int) + 1 := wrap_small (by omega) (by omega)
  have hL : ((p ++ y :: xs).length : Int) = (p.length : Int) + (xs.length + 1) := by simp
  have hL2 : (p ++ y :: xs).length = p.length + (xs.length + 1) := by simp
  unfold impl_CutPiece.f
  refine Ev.bind hB (ev_pos rfl (ev_bind0 rfl (ev_pos (by rw [List.length_nil]; omega) (ev_bind0 rfl ?_))))
  simp only [List.nil_append]
  rw [rd23_mid, hw, hw1, set_mid]
  refine ev_pos (Int.natCast_nonneg _) (ev_pos (by omega) (ev_bind0 rfl ?_))
  by_cases hg : y.f1 > n
  · rw [if_pos hg]
    refine ev_neg (by omega) ?_
    rw [List.append_assoc]
    exact Ev.now _
  · rw [if_neg hg]
    exact ev_pos (by omega) (ev_pos (by omega) (ev_pos (by omega) (ev_pos (by omega) (ev_of (Ev.now _) (by rw [erase_mid])))))
end Go.Proofs.YtfenjlkopofopaaDoorB
end

section
/- The best coil is long enough, of its kind, and has least left. -/
namespace Go.Proofs.YtfenjlkopofopaaDoorB
open Go.RowKit Go.Proofs.YtfenjlkopofopaaDoorW.PrintWords Go.Proofs.YtfenjlkopofopaaDoorW.PrintLast Go.Proofs.YtfenjlkopofopaaDoor.P

def BestMin (l p : List C) (s : ByteArray) (n b : Int) : Prop := (b = -1 ∧ ∀ y ∈ p, y.f0 = s → ¬ n ≤ y.f1) ∨
  (0 ≤ b ∧ b < (p.length : Int) ∧ n ≤ (rd_T23 l b).f1 ∧ (rd_T23 l b).f0 = s ∧ ∀ y ∈ p, y.f0 = s → n ≤ y.f1 → (rd_T23 l b).f1 ≤ y.f1)
theorem min_skip {l p : List C} {s : ByteArray} {n b : Int} (x : C) (h : BestMin l p s n b) (hx : x.f0 = s → n ≤ x.f1 → 0 ≤ b ∧ (rd_T23 l b).f1 ≤ x.f1) : BestMin l (p ++ [x]) s n b := by
  have hz : ((p ++ [x]).length : Int) = p.length + 1 := by simp
  rcases h with ⟨h1, h2⟩ | ⟨h0, h1, h2, h3, h4⟩
  · refine .inl ⟨h1, fun y hy hk hn => ?_⟩
    rcases List.mem_append.1 hy with h | h
    · exact h2 y h hk hn
    · rw [List.mem_singleton.1 h] at hk hn
      have := (hx hk hn).1
      omega
  · refine .inr ⟨h0, by omega, h2, h3, fun y hy hk hn => ?_⟩
    rcases List.mem_append.1 hy with h | h
    · exact h4 y h hk hn
    · rw [List.mem_singleton.1 h] at hk hn ⊢
      exact (hx hk hn).2
theorem min_loop (s : ByteArray) (n : Int) : ∀ (xs p : List C) (b : Int), p.length + xs.length ≤ 1048576 → BestMin (p ++ xs) p s n b →
    Both (BestMin (p ++ xs) (p ++ xs) s n) (fun k => spec_l23Best.l0 k (p ++ xs) b (p.length : Int) s n) (fun k => impl_bestCoil.l0 k (p ++ xs) b (p ++ xs) ((p ++ xs).length : Int) (p.length : Int) s n) := by
  intro xs
  induction xs with
  | nil =>
    intro p b hm hb
    rw [List.append_nil] at hb ⊢
    have hn : ¬ ((p.length : Int) < (p.length : Int)) := by omega
    exact both_step (fun k => by rw [spec_l23Best.l0]) (fun k => by rw [impl_bestCoil.l0]) (both_negL hn (both_negR hn (both_now _ hb)))
  | cons x xs ih =>
    intro p b hm hb
    rw [List.length_cons] at hm
    have hw : wrap64 ((p.length : Int) + 1) = ((p ++ [x]).length : Int) := wrap_next p x (by omega)
    have hz : ((p ++ [x]).length : Int) = p.length + 1 := by simp
    have hi := ih (p ++ [x])
    rw [← push_mid p x xs] at hi
    have hi2 := fun b (h : BestMin (p ++ x :: xs) (p ++ [x]) s n b) => hi b (by rw [List.length_append]; simp; omega) h
    refine both_step (fun k => by rw [spec_l23Best.l0]) (fun k => by rw [impl_bestCoil.l0]) ?_
    refine both_posL (lt_mid p x xs) (both_posL (Int.natCast_nonneg _) (both_posR (lt_mid p x xs) (both_posR (Int.natCast_nonneg _) (both_posR (lt_mid p x xs) ?_))))
    rw [rd23_mid, hw]
    have hat : rd_T23 (p ++ x :: xs) (p.length : Int) = x := rd23_mid p x xs
    refine both_ite (fun hk => both_ite (fun hn => ?_) (fun hn => ?_)) (fun hk => ?_)
    · have hk2 := toList_inj hk
      have take : (∀ y ∈ p, y.f0 = s → n ≤ y.f1 → x.f1 ≤ y.f1) → BestMin (p ++ x :: xs) (p ++ [x]) s n (p.length : Int) := by
        intro h
        refine .inr ⟨Int.natCast_nonneg _, by omega, by rw [hat]; omega, by rw [hat]; exact hk2, fun y hy hyk hyn => ?_⟩
        rw [hat]
        rcases List.mem_append.1 hy with h' | h'
        · exact h y h' hyk hyn
        · rw [List.mem_singleton.1 h']
          omega
      refine both_ite (fun hlt => hi2 _ (take ?_)) (fun hnb => ?_)
      · rcases hb with ⟨_, h2⟩ | ⟨h0, _⟩
        · exact fun y hy hyk hyn => absurd hyn (h2 y hy hyk)
        · omega
      · have hb' := hb
        rcases hb' with ⟨h1, _⟩ | ⟨h0, h1, h2, h3, h4⟩
        · omega
        · have hb2 : b < ((p ++ x :: xs).length : Int) := by have := lt_mid p x xs; omega
          refine both_posL (by omega) (both_posR (by omega) (both_posL hb2 (both_posR hb2 (both_ite (fun hl => hi2 _ (take ?_)) (fun hl => hi2 _ (min_skip x hb ?_))))))
          · intro y hy hyk hyn
            have := h4 y hy hyk hyn
            omega
          · intro _ _
            exact ⟨h0, by omega⟩
    · exact hi2 _ (min_skip x hb (fun _ h => absurd h (by omega)))
    · exact hi2 _ (min_skip x hb (fun h _ => absurd (by rw [h]) hk))
theorem min_both (l : List C) (s : ByteArray) (n : Int) (h : l.length ≤ 1048576) : Both (BestMin l l s n) (fun k => spec_l23Best.f k l s n) (fun k => impl_bestCoil.f k l s n) := by
  unfold spec_l23Best.f impl_bestCoil.f
  exact min_loop s n l [] (-1) (by simp; omega) (.inl ⟨rfl, fun y hy => by simp at hy⟩)
end Go.Proofs.YtfenjlkopofopaaDoorB
end

section
/- What a cut leaves, by both: the code and the place are BestCoil's; the best coil is of the kind, long enough, and has least left. -/
namespace Go.Proofs.YtfenjlkopofopaaDoorB
open Go.RowKit Go.Proofs.YtfenjlkopofopaaDoorW.PrintWords Go.Proofs.YtfenjlkopofopaaDoorW.PrintLast Go.Proofs.YtfenjlkopofopaaDoor.P

def CutR (l : List C) (s : ByteArray) (n : Int) (x : List C) (b : Int) : Prop := okCoils l = true ∧ nameB s = true ∧ 1 ≤ n ∧ ∃ p y xs, l = p ++ y :: xs ∧ b = (p.length : Int) ∧ x = (if y.f1 > n then p ++ [⟨y.f0, y.f1 - n⟩] ++ xs else p ++ xs) ∧ n ≤ y.f1 ∧ y.f0 = s ∧ ∀ z ∈ l, z.f0 = s → n ≤ z.f1 → y.f1 ≤ z.f1
theorem cut_law (l : List C) (s : ByteArray) (n : Int) (h : GoodCoils l) (hs : s.size ≤ 1048576) : ∃ (x : List C) (k c b : Int),
    Ev (fun m => spec_CutPiece.f m l s n) (x, k, c) ∧ Ev (fun m => impl_CutPiece.f m l s n) (x, k, c) ∧ Ev (fun m => spec_BestCoil.f m l s n) (b, c) ∧ Ev (fun m => impl_BestCoil.f m l s n) (b, c) ∧ GoodCoils x ∧ (c = 0 → k = b ∧ CutR l s n x b) := by
  have hcode := code_ev l s n h hs
  have nil : GoodCoils [] := ⟨by simp, fun x hx => by simp at hx⟩
  have bad : ∀ c : Int, ¬ c = 0 → Ev (fun k => spec_l23Code.f k l s n) c → Ev (fun k => impl_BestCoil.f k l s n) (0, c) → ∃ (x : List C) (k c b : Int),
      Ev (fun m => spec_CutPiece.f m l s n) (x, k, c) ∧ Ev (fun m => impl_CutPiece.f m l s n) (x, k, c) ∧ Ev (fun m => spec_BestCoil.f m l s n) (b, c) ∧ Ev (fun m => impl_BestCoil.f m l s n) (b, c) ∧ GoodCoils x ∧ (c = 0 → k = b ∧ CutR l s n x b) := by
    intro c hc h1 h2
    refine ⟨[], 0, c, 0, ?_, ?_, ?_, h2, nil, fun h => absurd h hc⟩
    · unfold spec_CutPiece.f
      exact Ev.bind h1 (ev_neg hc (Ev.now _))
    · unfold impl_CutPiece.f
      exact Ev.bind h2 (ev_neg hc (Ev.now _))
    · unfold spec_BestCoil.f
      exact Ev.bind h1 (ev_neg hc (Ev.now _))
  by_cases h1 : okCoils l = true
  · by_cases h2 : (nameB s && rangeB n) = true
    · rw [if_pos h1, if_pos h2] at hcode
      have h2' := h2
      simp only [Bool.and_eq_true] at h2'
      have hn : 1 ≤ n ∧ n ≤ 100000 := by
        simp [rangeB] at h2
        exact h2.2
      obtain ⟨b, b1, b2, b3⟩ := min_both l s n h.1
      rcases b3 with ⟨hb, _⟩ | ⟨hb0, hb1, hbn, hbk, hbm⟩
      · have hb' : b < 0 := by omega
        have hI : Ev (fun k => impl_BestCoil.f k l s n) (0, 3) := by
          unfold impl_BestCoil.f
          exact Ev.bind (impl_ok l h.1 (good_sizes h)) (ev_pos h1 (Ev.bind (impl_want s n (max_of hs)) (ev_pos h2 (Ev.bind b2 (ev_pos hb' (Ev.now _))))))
        refine ⟨[], 0, 3, 0, ?_, ?_, ?_, hI, nil, fun h => absurd h (by decide)⟩
        · unfold spec_CutPiece.f
          exact Ev.bind hcode (ev_pos rfl (Ev.bind b1 (ev_pos hb' (Ev.now _))))
        · unfold impl_CutPiece.f
          exact Ev.bind hI (ev_neg (by decide) (Ev.now _))
        · unfold spec_BestCoil.f
          exact Ev.bind hcode (ev_pos rfl (Ev.bind b1 (ev_pos hb' (Ev.now _))))
      · have hb' : ¬ b < 0 := by omega
        have hI : Ev (fun k => impl_BestCoil.f k l s n) (b, 0) := by
          unfold impl_BestCoil.f
          exact Ev.bind (impl_ok l h.1 (good_sizes h)) (ev_pos h1 (Ev.bind (impl_want s n (max_of hs)) (ev_pos h2 (Ev.bind b2 (ev_neg hb' (Ev.now _))))))
        have hS : Ev (fun k => spec_BestCoil.f k l s n) (b, 0) := by
          unfold spec_BestCoil.f
          exact Ev.bind hcode (ev_pos rfl (Ev.bind b1 (ev_neg hb' (Ev.now _))))
        obtain ⟨p, y, xs, rfl, hpb⟩ := split_at l b hb0 hb1
        subst hpb
        rw [rd23_mid] at hbn hbk hbm
        have hy := (h.2 y (by simp)).2
        have hys := (h.2 y (by simp)).1
        unfold I64 at hy
        have hlen := h.1
        rw [List.length_append, List.length_cons] at hlen
        have hw : wrap64 (y.f1 - n) = y.f1 - n := wrap_small (by omega) (by omega)
        refine ⟨_, _, 0, _, ?_, cut_impl p y xs s n hlen hbn hw hI, hS, hI, ?_, fun _ => ⟨rfl, h1, h2'.1, hn.1, p, y, xs, rfl, rfl, rfl, hbn, hbk, hbm⟩⟩
        · unfold spec_CutPiece.f
          exact Ev.bind hcode (ev_pos rfl (Ev.bind b1 (ev_neg hb' (ev_bind0 (cut_spec p y xs n hlen hw) (Ev.now _)))))
        · by_cases hg : y.f1 > n
          · rw [if_pos hg]
            refine ⟨by simp; omega, fun z hz => ?_⟩
            simp only [List.mem_append, List.mem_singleton] at hz
            rcases hz with (hz | rfl) | hz
            · exact h.2 z (by simp [hz])
            · refine ⟨hys, ?_⟩
              show I64 (y.f1 - n)
              unfold I64
              omega
            · exact h.2 z (by simp [hz])
          · rw [if_neg hg]
            refine ⟨by simp; omega, fun z hz => ?_⟩
            rcases List.mem_append.1 hz with hz | hz
            · exact h.2 z (by simp [hz])
            · exact h.2 z (by simp [hz])
    · rw [if_pos h1, if_neg h2] at hcode
      refine bad 2 (by decide) hcode ?_
      unfold impl_BestCoil.f
      exact Ev.bind (impl_ok l h.1 (good_sizes h)) (ev_pos h1 (Ev.bind (impl_want s n (max_of hs)) (ev_neg h2 (Ev.now _))))
  · rw [if_neg h1] at hcode
    refine bad 1 (by decide) hcode ?_
    unfold impl_BestCoil.f
    exact Ev.bind (impl_ok l h.1 (good_sizes h)) (ev_neg h1 (Ev.now _))
end Go.Proofs.YtfenjlkopofopaaDoorB
end

section
/- What ThrowShort keeps is long enough. -/
namespace Go.Proofs.YtfenjlkopofopaaDoorB
open Go.RowKit Go.Proofs.YtfenjlkopofopaaDoorW.PrintWords Go.Proofs.YtfenjlkopofopaaDoorW.PrintLast Go.Proofs.YtfenjlkopofopaaDoor.P

def KeptL (l : List C) (n : Int) : Prop := ∀ x ∈ l, n ≤ x.f1 ∧ GoodCoil x
theorem kept_loop (n : Int) : ∀ (xs p acc : List C), p.length + xs.length ≤ 1048576 → acc.length ≤ p.length → (∀ x ∈ xs, GoodCoil x) → KeptL acc n →
    Both (fun r => r.1.length ≤ 1048576 ∧ KeptL r.1 n) (fun k => spec_ThrowShort.l0 k (p ++ xs) n acc (p.length : Int)) (fun k => impl_ThrowShort.l0 k n acc (p ++ xs) ((p ++ xs).length : Int) (p.length : Int)) := by
  intro xs
  induction xs with
  | nil =>
    intro p acc hm ha _ hk
    exact both_step (fun k => by rw [spec_ThrowShort.l0]) (fun k => by rw [impl_ThrowShort.l0]) (both_negL (not_lt_end p) (both_negR (not_lt_end p) (both_now _ ⟨by show acc.length ≤ _; omega, hk⟩)))
  | cons x xs ih =>
    intro p acc hm ha hg hk
    rw [List.length_cons] at hm
    have hw : wrap64 ((p.length : Int) + 1) = ((p ++ [x]).length : Int) := wrap_next p x (by omega)
    have hi := fun acc (h : acc.length ≤ p.length + 1) (h2 : KeptL acc n) => ih (p ++ [x]) acc (by rw [List.length_append]; simp; omega) (by simpa using h) (fun y hy => hg y (List.mem_cons_of_mem _ hy)) h2
    refine both_step (fun k => by rw [spec_ThrowShort.l0]) (fun k => by rw [impl_ThrowShort.l0]) ?_
    refine both_posL (lt_mid p x xs) (both_posL (Int.natCast_nonneg _) (both_posR (lt_mid p x xs) (both_posR (Int.natCast_nonneg _) (both_posR (lt_mid p x xs) ?_))))
    rw [rd23_mid, hw, push_mid p x xs]
    refine both_ite (fun hx => ?_) (fun _ => hi _ (by omega) hk)
    exact both_posL (by omega) (both_posR (by omega) (hi _ (by simp; omega) (fun y hy => by
      rcases List.mem_append.1 hy with h | h
      · exact hk y h
      · rw [List.mem_singleton.1 h]
        exact ⟨hx, hg x List.mem_cons_self⟩)))
theorem Kept_both (l : List C) (n : Int) (h : GoodCoils l) (_hn : I64 n) : Both (fun r => r.1.length ≤ 1048576 ∧ KeptL r.1 n) (fun k => spec_ThrowShort.f k l n) (fun k => impl_ThrowShort.f k l n) := by
  have hnil : KeptL [] n := fun x hx => by simp at hx
  unfold spec_ThrowShort.f impl_ThrowShort.f
  refine both_bindL (spec_ok l h.1 (good_sizes h)) (both_bindR (impl_ok l h.1 (good_sizes h)) (both_ite (fun _ => ?_) (fun _ => both_now _ ⟨by simp, hnil⟩)))
  refine both_bind0L (in_some _ _ _) (both_bind0R (within_some _ _ _) (both_ite (fun _ => ?_) (fun _ => both_now _ ⟨by simp, hnil⟩)))
  exact kept_loop n l [] [] (by have := h.1; simp; omega) (by simp) h.2 hnil
end Go.Proofs.YtfenjlkopofopaaDoorB
end

section
/- How much of a kind is left, of both. -/
namespace Go.Proofs.YtfenjlkopofopaaDoorB
open Go.RowKit Go.Proofs.YtfenjlkopofopaaDoorW.PrintWords Go.Proofs.YtfenjlkopofopaaDoorW.PrintLast Go.Proofs.YtfenjlkopofopaaDoor.P

theorem left_loop (a : ByteArray) : ∀ (xs p : List C) (acc : Int), p.length + xs.length ≤ 1048576 → Both (fun _ => True) (fun k => spec_l23Left.l0 k (p ++ xs) a acc (p.length : Int)) (fun k => impl_leftOf.l0 k a acc (p ++ xs) ((p ++ xs).length : Int) (p.length : Int)) := by
  intro xs
  induction xs with
  | nil =>
    intro p acc _
    exact both_step (fun k => by rw [spec_l23Left.l0]) (fun k => by rw [impl_leftOf.l0]) (both_negL (not_lt_end p) (both_negR (not_lt_end p) (both_now _ trivial)))
  | cons x xs ih =>
    intro p acc hm
    rw [List.length_cons] at hm
    have hw : wrap64 ((p.length : Int) + 1) = ((p ++ [x]).length : Int) := wrap_next p x (by omega)
    have hi := fun acc => ih (p ++ [x]) acc (by rw [List.length_append]; simp; omega)
    refine both_step (fun k => by rw [spec_l23Left.l0]) (fun k => by rw [impl_leftOf.l0]) ?_
    refine both_posL (lt_mid p x xs) (both_posL (Int.natCast_nonneg _) (both_posR (lt_mid p x xs) (both_posR (Int.natCast_nonneg _) (both_posR (lt_mid p x xs) ?_))))
    rw [rd23_mid, hw, push_mid p x xs]
    exact both_ite (fun _ => hi _) (fun _ => hi _)
theorem left_both (l : List C) (a : ByteArray) (h : l.length ≤ 1048576) : Both (fun _ => True) (fun k => spec_l23Left.f k l a) (fun k => impl_leftOf.f k l a) := by
  unfold spec_l23Left.f impl_leftOf.f
  exact left_loop a l [] 0 (by simp; omega)
end Go.Proofs.YtfenjlkopofopaaDoorB
end

section
/- How much of a kind is left, as a sum. -/
namespace Go.Proofs.YtfenjlkopofopaaDoorB
open Go.RowKit Go.Proofs.YtfenjlkopofopaaDoorW.PrintWords Go.Proofs.YtfenjlkopofopaaDoorW.PrintLast Go.Proofs.YtfenjlkopofopaaDoor.P

def leftL (a : ByteArray) : List C → Int
  | [] => 0
  | x :: xs => (if x.f0.toList = a.toList then x.f1 else 0) + leftL a xs
theorem leftL_append (a : ByteArray) (p q : List C) : leftL a (p ++ q) = leftL a p + leftL a q := by
  induction p with
  | nil => simp [leftL]
  | cons x p ih =>
    rw [List.cons_append, leftL, leftL, ih]
    omega
theorem sum_loop (a : ByteArray) : ∀ (xs p : List C) (acc : Int), p.length + xs.length ≤ 40 → (∀ x ∈ xs, 1 ≤ x.f1 ∧ x.f1 ≤ 100000) → 0 ≤ acc → acc ≤ 100000 * p.length →
    Both (fun r => r = acc + leftL a xs) (fun k => spec_l23Left.l0 k (p ++ xs) a acc (p.length : Int)) (fun k => impl_leftOf.l0 k a acc (p ++ xs) ((p ++ xs).length : Int) (p.length : Int)) := by
  intro xs
  induction xs with
  | nil =>
    intro p acc _ _ _ _
    exact both_step (fun k => by rw [spec_l23Left.l0]) (fun k => by rw [impl_leftOf.l0]) (both_negL (not_lt_end p) (both_negR (not_lt_end p) (both_now _ (by simp [leftL]))))
  | cons x xs ih =>
    intro p acc hm hg h0 h1
    rw [List.length_cons] at hm
    have hx := hg x List.mem_cons_self
    have hw : wrap64 ((p.length : Int) + 1) = ((p ++ [x]).length : Int) := wrap_next p x (by omega)
    have hz : ((p ++ [x]).length : Int) = p.length + 1 := by simp
    have hi := fun acc (h2 : 0 ≤ acc) (h3 : acc ≤ 100000 * ((p ++ [x]).length : Int)) => ih (p ++ [x]) acc (by rw [List.length_append]; simp; omega) (fun y hy => hg y (List.mem_cons_of_mem _ hy)) h2 h3
    refine both_step (fun k => by rw [spec_l23Left.l0]) (fun k => by rw [impl_leftOf.l0]) ?_
    refine both_posL (lt_mid p x xs) (both_posL (Int.natCast_nonneg _) (both_posR (lt_mid p x xs) (both_posR (Int.natCast_nonneg _) (both_posR (lt_mid p x xs) ?_))))
    rw [rd23_mid, hw, push_mid p x xs]
    refine both_ite (fun hk => ?_) (fun hk => ?_)
    · rw [wrap_small (i := acc + x.f1) (by omega) (by omega)]
      refine both_imp (hi (acc + x.f1) (by omega) (by omega)) (fun r hr => ?_)
      rw [hr, leftL, if_pos hk]
      omega
    · refine both_imp (hi acc h0 (by omega)) (fun r hr => ?_)
      rw [hr, leftL, if_neg hk]
      omega
theorem sum_both (l : List C) (a : ByteArray) (h : l.length ≤ 40) (hg : ∀ x ∈ l, 1 ≤ x.f1 ∧ x.f1 ≤ 100000) : Both (fun r => r = leftL a l) (fun k => spec_l23Left.f k l a) (fun k => impl_leftOf.f k l a) := by
  unfold spec_l23Left.f impl_leftOf.f
  refine both_imp (sum_loop a l [] 0 (by simp; omega) hg (by omega) (by simp)) (fun r hr => ?_)
  rw [hr]
  omega
end Go.Proofs.YtfenjlkopofopaaDoorB
end

section
/- Two lists of coils: whether they are the same. -/
namespace Go.Proofs.YtfenjlkopofopaaDoorB
open Go.RowKit Go.Proofs.YtfenjlkopofopaaDoorW.PrintWords Go.Proofs.YtfenjlkopofopaaDoorW.PrintLast Go.Proofs.YtfenjlkopofopaaDoor.P

theorem same_loop : ∀ (xs ys p q : List C), p.length = q.length → xs.length = ys.length → p.length + xs.length ≤ 1048576 → Both (fun _ => True) (fun k => spec_SameCoils.l0 k (p ++ xs) (q ++ ys) (p.length : Int)) (fun k => impl_Coil.l0 k (p ++ xs) (q ++ ys) ((p ++ xs).length : Int) (p.length : Int)) := by
  intro xs
  induction xs with
  | nil =>
    intro ys p q _ _ _
    exact both_step (fun k => by rw [spec_SameCoils.l0]) (fun k => by rw [impl_Coil.l0]) (both_negL (not_lt_end p) (both_negR (not_lt_end p) (both_now _ trivial)))
  | cons x xs ih =>
    intro ys p q hpq hl hm
    cases ys with
    | nil => simp at hl
    | cons y ys =>
      rw [List.length_cons] at hm
      have hw : wrap64 ((p.length : Int) + 1) = ((p ++ [x]).length : Int) := wrap_next p x (by omega)
      have hi := ih ys (p ++ [x]) (q ++ [y]) (by simp [hpq]) (by simpa using hl) (by rw [List.length_append]; simp; omega)
      have hq : (p.length : Int) < ((q ++ y :: ys).length : Int) := by rw [hpq]; exact lt_mid q y ys
      have r2 : rd_T23 (q ++ y :: ys) (p.length : Int) = y := by rw [hpq]; exact rd23_mid q y ys
      refine both_step (fun k => by rw [spec_SameCoils.l0]) (fun k => by rw [impl_Coil.l0]) ?_
      refine both_posL (lt_mid p x xs) (both_posL (Int.natCast_nonneg _) (both_posL hq (both_posR (lt_mid p x xs) (both_posR (Int.natCast_nonneg _) (both_posR (lt_mid p x xs) (both_posR hq ?_))))))
      rw [rd23_mid, r2, hw, push_mid p x xs, push_mid q y ys]
      exact both_ite (fun _ => both_now _ trivial) (fun _ => hi)
theorem SameCoils_both (a b : List C) (ha : GoodCoils a) (_hb : GoodCoils b) : Both (fun _ => True) (fun k => spec_SameCoils.f k a b) (fun k => impl_SameCoils.f k a b) := by
  unfold spec_SameCoils.f impl_SameCoils.f impl_Coil.f
  by_cases h : (a.length : Int) = (b.length : Int)
  · refine both_posL h ?_
    obtain ⟨r, h1, h2, _⟩ := same_loop a b [] [] rfl (by omega) (by have := ha.1; simp; omega)
    exact ⟨r, h1, Ev.bind (ev_pos h h2) (Ev.now _), trivial⟩
  · exact both_negL h ⟨false, Ev.now _, Ev.bind (ev_neg h (Ev.now _)) (Ev.now _), trivial⟩

end Go.Proofs.YtfenjlkopofopaaDoorB
end

section
/- AddCoil, of both. -/
namespace Go.Proofs.YtfenjlkopofopaaDoorB
open Go.RowKit Go.Proofs.YtfenjlkopofopaaDoorW.PrintWords Go.Proofs.YtfenjlkopofopaaDoorW.PrintLast Go.Proofs.YtfenjlkopofopaaDoor.P

theorem AddCoil_both (l : List C) (x : C) (h : GoodCoils l) (hx : GoodCoil x) : Both (fun r => r.1.length ≤ 1048576) (fun k => spec_AddCoil.f k l x.f0 x.f1) (fun k => impl_AddCoil.f k l x.f0 x.f1) := by
  unfold spec_AddCoil.f impl_AddCoil.f
  have ho : okCoils l = true → (l.length : Int) ≤ 40 := fun h => by simp [okCoils] at h; omega
  refine both_bindL (spec_ok l h.1 (good_sizes h)) (both_bindR (impl_ok l h.1 (good_sizes h)) (both_ite (fun hok => ?_) (fun _ => both_now _ (by simp))))
  have hl := ho hok
  refine both_bindL (spec_one x.f0 x.f1 (max_of hx.1)) (both_bindR (impl_one x.f0 x.f1 (max_of hx.1)) (both_ite (fun _ => ?_) (fun _ => both_now _ (by simp))))
  by_cases he : (l.length : Int) = 40
  · exact both_posL (by omega) (both_posR he (both_now _ (by simp)))
  · refine both_negL (by omega) (both_negR he ?_)
    simp only [Option.bind_some, List.nil_append, List.length_nil, List.length_cons]
    refine both_posL (by omega) (both_posR (by omega) (both_posL (by omega) (both_posR (by omega) (both_now _ ?_))))
    simp
    omega

end Go.Proofs.YtfenjlkopofopaaDoorB
end

section
/- LeftOf, of both. -/
namespace Go.Proofs.YtfenjlkopofopaaDoorB
open Go.RowKit Go.Proofs.YtfenjlkopofopaaDoorW.PrintWords Go.Proofs.YtfenjlkopofopaaDoorW.PrintLast Go.Proofs.YtfenjlkopofopaaDoor.P

theorem LeftOf_both (l : List C) (a : ByteArray) (h : GoodCoils l) (ha : a.size ≤ 1048576) : Both (fun _ => True) (fun k => spec_LeftOf.f k l a) (fun k => impl_LeftOf.f k l a) := by
  unfold spec_LeftOf.f impl_LeftOf.f
  refine both_bindL (spec_ok l h.1 (good_sizes h)) (both_bindR (impl_ok l h.1 (good_sizes h)) (both_ite (fun _ => ?_) (fun _ => both_now _ trivial)))
  refine both_bindL (spec_name a (max_of ha)) (both_bindR (impl_name a (max_of ha)) (both_ite (fun _ => ?_) (fun _ => both_now _ trivial)))
  exact both_bind (left_both l a h.1) (fun r _ => both_now _ trivial)

end Go.Proofs.YtfenjlkopofopaaDoorB
end

section
/- ValidStockCoils, of both. -/
namespace Go.Proofs.YtfenjlkopofopaaDoorB
open Go.RowKit Go.Proofs.YtfenjlkopofopaaDoorW.PrintWords Go.Proofs.YtfenjlkopofopaaDoorW.PrintLast Go.Proofs.YtfenjlkopofopaaDoor.P

theorem ValidStockCoils_both (l : List C) (h : GoodCoils l) : Both (fun _ => True) (fun k => spec_ValidStockCoils.f k l) (fun k => impl_ValidStockCoils.f k l) := by
  unfold spec_ValidStockCoils.f
  exact ⟨okCoils l, Ev.bind (spec_ok l h.1 (good_sizes h)) (Ev.now _), impl_ok l h.1 (good_sizes h), trivial⟩

end Go.Proofs.YtfenjlkopofopaaDoorB
end

section
/- A text parted at its first colon: the reference's list, the library's cut. -/
namespace Go.Proofs.YtfenjlkopofopaaDoorB
open Go.RowKit Go.Proofs.YtfenjlkopofopaaDoorW.PrintWords Go.Proofs.YtfenjlkopofopaaDoorW.PrintLast Go.Proofs.YtfenjlkopofopaaDoor.P

theorem colon_end (s : ByteArray) (c : Int) (p : List Int) (acc : List ByteArray) (fr : Nat) (hp : bytesOf s = p) (hf : fr ≤ p.length) (ha : acc.length < 8796093022208) :
    Ev (fun k => spec_l01Split.l0 k s c acc (fr : Int) (p.length : Int)) (acc ++ [s.extract fr s.size]) := by
  have hz : s.size = p.length := by rw [← bytes_length, hp]
  refine Ev.step (fun k => by rw [spec_l01Split.l0]) ?_
  exact ev_neg (by omega) (ev_pos (by omega) (ev_pos (by omega) (ev_pos ha (Ev.now _))))
theorem colon_none (s : ByteArray) (c : Int) (hs : s.size ≤ 1048576) : ∀ (xs p : List Int) (acc : List ByteArray) (fr : Nat), bytesOf s = p ++ xs → c ∉ xs → fr ≤ p.length → acc.length < 8796093022208 →
    Ev (fun k => spec_l01Split.l0 k s c acc (fr : Int) (p.length : Int)) (acc ++ [s.extract fr s.size]) := by
  intro xs
  induction xs with
  | nil => intro p acc fr hp _ hf ha; exact colon_end s c p acc fr (by simpa using hp) hf ha
  | cons x xs ih =>
    intro p acc fr hp hc hf ha
    have hz : (s.size : Int) = p.length + (xs.length + 1) := by rw [← bytes_length, hp]; simp
    have hb : bt s (p.length : Int) = x := by rw [bt_rd, hp]; exact rd_mid p x xs
    have hw : wrap64 ((p.length : Int) + 1) = ((p ++ [x]).length : Int) := wrap_next p x (by omega)
    have hx : ¬ x = c := fun h => hc (by rw [h]; exact List.mem_cons_self)
    refine Ev.step (fun k => by rw [spec_l01Split.l0]) ?_
    refine ev_pos (by omega) (ev_pos (by omega) ?_)
    rw [hb, hw]
    refine ev_neg hx ?_
    exact ih (p ++ [x]) acc fr (by rw [hp]; simp) (fun h => hc (List.mem_cons_of_mem _ h)) (by simp; omega) ha
theorem colon_at (s : ByteArray) (c : Int) (hs : s.size ≤ 1048576) (b : List Int) {r : List ByteArray} : ∀ (a p : List Int) (acc : List ByteArray) (fr : Nat), bytesOf s = p ++ (a ++ c :: b) → c ∉ a → fr ≤ p.length → acc.length < 8796093022208 →
    Ev (fun k => spec_l01Split.l0 k s c (acc ++ [s.extract fr (p.length + a.length)]) (((p ++ (a ++ [c])).length : Nat) : Int) (((p ++ (a ++ [c])).length : Nat) : Int)) r →
    Ev (fun k => spec_l01Split.l0 k s c acc (fr : Int) (p.length : Int)) r := by
  intro a
  induction a with
  | nil =>
    intro p acc fr hp _ hf ha h
    have hz : (s.size : Int) = p.length + (b.length + 1) := by rw [← bytes_length, hp]; simp
    have hb : bt s (p.length : Int) = c := by rw [bt_rd, hp]; exact rd_mid p c b
    have hw : wrap64 ((p.length : Int) + 1) = ((p ++ [c]).length : Int) := wrap_next p c (by omega)
    refine Ev.step (fun k => by rw [spec_l01Split.l0]) ?_
    refine ev_pos (by omega) (ev_pos (by omega) ?_)
    rw [hb, hw]
    refine ev_pos rfl (ev_pos (by omega) (ev_pos (by omega) (ev_pos (by omega) (ev_pos ha ?_))))
    exact h
  | cons x a ih =>
    intro p acc fr hp hc hf ha h
    have hz : (s.size : Int) = p.length + (a.length + 1 + (b.length + 1)) := by rw [← bytes_length, hp]; simp; omega
    have hb : bt s (p.length : Int) = x := by rw [bt_rd, hp]; exact rd_mid p x (a ++ c :: b)
    have hw : wrap64 ((p.length : Int) + 1) = ((p ++ [x]).length : Int) := wrap_next p x (by omega)
    have hx : ¬ x = c := fun h => hc (by rw [h]; exact List.mem_cons_self)
    refine Ev.step (fun k => by rw [spec_l01Split.l0]) ?_
    refine ev_pos (by omega) (ev_pos (by omega) ?_)
    rw [hb, hw]
    refine ev_neg hx ?_
    refine ih (p ++ [x]) acc fr (by rw [hp]; simp) (fun h => hc (List.mem_cons_of_mem _ h)) (by simp; omega) ha ?_
    have e1 : (p ++ [x]).length + a.length = p.length + (x :: a).length := by simp; omega
    have e2 : (p ++ [x] ++ (a ++ [c])).length = (p ++ (x :: a ++ [c])).length := by simp
    rw [e1, e2]
    exact h
theorem colon_len (s : ByteArray) (c : Int) (hs : s.size ≤ 1048576) : ∀ (xs p : List Int) (acc : List ByteArray) (fr : Nat), bytesOf s = p ++ xs → fr ≤ p.length → acc.length + xs.length < 8796093022208 →
    ∃ r, Ev (fun k => spec_l01Split.l0 k s c acc (fr : Int) (p.length : Int)) r ∧ acc.length + 1 ≤ r.length := by
  intro xs
  induction xs with
  | nil =>
    intro p acc fr hp hf ha
    exact ⟨_, colon_end s c p acc fr (by simpa using hp) hf (by simpa using ha), by simp⟩
  | cons x xs ih =>
    intro p acc fr hp hf ha
    have hz : (s.size : Int) = p.length + (xs.length + 1) := by rw [← bytes_length, hp]; simp
    have hb : bt s (p.length : Int) = x := by rw [bt_rd, hp]; exact rd_mid p x xs
    have hw : wrap64 ((p.length : Int) + 1) = ((p ++ [x]).length : Int) := wrap_next p x (by omega)
    rw [List.length_cons] at ha
    by_cases hx : x = c
    · obtain ⟨r, h1, h2⟩ := ih (p ++ [x]) (acc ++ [s.extract fr p.length]) (p ++ [x]).length (by rw [hp]; simp) (Nat.le_refl _) (by simp; omega)
      refine ⟨r, Ev.step (fun k => by rw [spec_l01Split.l0]) ?_, by simp at h2; omega⟩
      refine ev_pos (by omega) (ev_pos (by omega) ?_)
      rw [hb, hw]
      exact ev_pos hx (ev_pos (by omega) (ev_pos (by omega) (ev_pos (by omega) (ev_pos (by omega) h1))))
    · obtain ⟨r, h1, h2⟩ := ih (p ++ [x]) acc fr (by rw [hp]; simp) (by simp; omega) (by omega)
      refine ⟨r, Ev.step (fun k => by rw [spec_l01Split.l0]) ?_, h2⟩
      refine ev_pos (by omega) (ev_pos (by omega) ?_)
      rw [hb, hw]
      exact ev_neg hx h1

theorem indexByte_none (c : UInt8) : ∀ l : List UInt8, c ∉ l → Lib.indexByte l c = -1
  | [], _ => rfl
  | b :: l, h => by
    have h1 : (b == c) = false := beq_eq_false_iff_ne.2 (fun e => h (by rw [e]; exact List.mem_cons_self))
    unfold Lib.indexByte
    rw [h1, indexByte_none c l (fun h2 => h (List.mem_cons_of_mem _ h2))]
    rfl
theorem indexByte_at (c : UInt8) (r : List UInt8) : ∀ l : List UInt8, c ∉ l → Lib.indexByte (l ++ c :: r) c = l.length
  | [], _ => by simp [Lib.indexByte]
  | b :: l, h => by
    have h1 : (b == c) = false := beq_eq_false_iff_ne.2 (fun e => h (by rw [e]; exact List.mem_cons_self))
    rw [List.cons_append]
    unfold Lib.indexByte
    rw [h1, indexByte_at c r l (fun h2 => h (List.mem_cons_of_mem _ h2))]
    have h3 : ((l.length : Int) == -1) = false := by rw [beq_eq_false_iff_ne]; omega
    simp [h3]
theorem cut_none (c : UInt8) (l : List UInt8) (h : c ∉ l) : Lib.cut l [c] = (l, [], false) := by
  unfold Lib.cut
  rw [Lib.index_one, indexByte_none c l h, if_neg (by omega)]
theorem cut_at (c : UInt8) (l r : List UInt8) (h : c ∉ l) : Lib.cut (l ++ c :: r) [c] = (l, r, true) := by
  unfold Lib.cut
  rw [Lib.index_one, indexByte_at c r l h, if_pos (by omega)]
  have h1 : ((l.length : Int)).toNat = l.length := rfl
  rw [h1]
  simp
end Go.Proofs.YtfenjlkopofopaaDoorB
end

section
/- A coil read out of its text, by both. -/
namespace Go.Proofs.YtfenjlkopofopaaDoorB
open Go.RowKit Go.Proofs.YtfenjlkopofopaaDoorW.PrintWords Go.Proofs.YtfenjlkopofopaaDoorW.PrintLast Go.Proofs.YtfenjlkopofopaaDoor.P

def nats (l : List UInt8) : List Int := l.map fun b => (b.toNat : Int)
theorem bytes_mk (l : List UInt8) : bytesOf (⟨l.toArray⟩ : ByteArray) = nats l := by simp [bytesOf, nats]
theorem nats_mem {l : List UInt8} {c : UInt8} : (c.toNat : Int) ∈ nats l ↔ c ∈ l := by
  unfold nats
  rw [List.mem_map]
  constructor
  · rintro ⟨b, hb, he⟩
    obtain rfl : b = c := UInt8.toNat_inj.1 (by omega)
    exact hb
  · intro h
    exact ⟨c, h, rfl⟩
theorem bad_unsign (s : ByteArray) (h : (58 : Int) ∈ bytesOf s) : BadL (bytesOf (unsign s)) := by
  refine ⟨58, ?_, by omega⟩
  unfold unsign
  cases hb : bytesOf s with
  | nil => rw [hb] at h; simp at h
  | cons c cs =>
    have hl := bytes_length s
    rw [hb] at hl h
    by_cases hc : c = 45
    · rw [if_pos (by simpa [rd] using hc), bytes_extract, hb, ← hl, List.take_length]
      rcases List.mem_cons.1 h with h1 | h1
      · omega
      · simpa using h1
    · rw [if_neg (by simpa [rd] using hc), hb]
      exact h
theorem ReadCoil_both (s : ByteArray) (hs : s.size ≤ 1048576) : Both (fun _ => True) (fun k => spec_ReadCoil.f k s) (fun k => impl_ReadCoil.f k s) := by
  unfold spec_ReadCoil.f impl_ReadCoil.f
  have hS : bytesOf s = nats s.data.toList := rfl
  have hlen : s.data.toList.length = s.size := data_length s
  have hcut : strings_Cut.f s (⟨#[58]⟩ : ByteArray) = some ((⟨(Lib.cut s.data.toList [58]).1.toArray⟩ : ByteArray), (⟨(Lib.cut s.data.toList [58]).2.1.toArray⟩ : ByteArray), (Lib.cut s.data.toList [58]).2.2) := by
    unfold strings_Cut.f
    rw [if_pos (by omega)]
  refine both_bind0R hcut ?_
  clear hcut
  by_cases hm : (58 : UInt8) ∈ s.data.toList
  · obtain ⟨a, b, hab, ha⟩ := List.append_of_mem hm |> fun ⟨_, _, _⟩ => List.eq_append_cons_of_mem hm
    rw [hab] at hS hlen
    rw [hab, cut_at 58 a b ha]
    have hA : (58 : Int) ∉ nats a := fun h => ha (nats_mem (c := 58).1 h)
    have hS2 : bytesOf s = [] ++ (nats a ++ 58 :: nats b) := by rw [hS]; simp [nats]
    have hl2 : s.size = a.length + (b.length + 1) := by rw [← hlen]; simp
    have hal : (nats a).length = a.length := by simp [nats]
    have hbl : (nats b).length = b.length := by simp [nats]
    have e0 : s.extract 0 (([] : List Int).length + (nats a).length) = (⟨a.toArray⟩ : ByteArray) := by
      apply bytes_inj
      rw [bytes_extract, hS2, bytes_mk]
      simp
    have hs1 : (⟨b.toArray⟩ : ByteArray).size = b.length := by simp [ByteArray.size]
    by_cases hb : (58 : UInt8) ∈ b
    · obtain ⟨b1, b2, hbb, hb1⟩ := List.eq_append_cons_of_mem hb
      have hB : (58 : Int) ∉ nats b1 := fun h => hb1 (nats_mem (c := 58).1 h)
      have hS3 : bytesOf s = ([] ++ (nats a ++ [58])) ++ (nats b1 ++ 58 :: nats b2) := by rw [hS2, hbb]; simp [nats]
      have hS4 : bytesOf s = (([] ++ (nats a ++ [58])) ++ (nats b1 ++ [58])) ++ nats b2 := by rw [hS3]; simp
      obtain ⟨r, h1, h2⟩ := colon_len s 58 hs (nats b2) _ ([] ++ [s.extract 0 (([] : List Int).length + (nats a).length)] ++ [s.extract ([] ++ (nats a ++ [58])).length (([] ++ (nats a ++ [58])).length + (nats b1).length)]) ((([] ++ (nats a ++ [58])) ++ (nats b1 ++ [58])).length) hS4 (Nat.le_refl _) (by
        have : (nats b2).length ≤ b.length := by rw [hbb]; simp [nats]; omega
        simp
        omega)
      have hsp : Ev (fun k => spec_l01Split.f k s 58) r := by
        unfold spec_l01Split.f
        refine colon_at s 58 hs (nats b) (nats a) [] [] 0 hS2 hA (by simp) (by simp) ?_
        exact colon_at s 58 hs (nats b2) (nats b1) _ _ _ hS3 hB (Nat.le_refl _) (by simp) h1
      have hr : ¬ (r.length : Int) = 2 := by simp at h2; omega
      obtain ⟨q, hq1, hq2, hq3⟩ := number_both (⟨b.toArray⟩ : ByteArray)
      have hq : q.2 = false := hq3 (bad_unsign _ (by rw [bytes_mk]; exact nats_mem (c := 58).2 hb))
      refine both_bindL hsp (both_negL hr (both_bindR hq2 ?_))
      exact both_posR rfl (both_negR (by rw [hq]; simp) (both_now _ trivial))
    · have hB : (58 : Int) ∉ nats b := fun h => hb (nats_mem (c := 58).1 h)
      have hS3 : bytesOf s = ([] ++ (nats a ++ [58])) ++ nats b := by rw [hS2]; simp
      have e1 : s.extract ([] ++ (nats a ++ [58])).length s.size = (⟨b.toArray⟩ : ByteArray) := by
        apply bytes_inj
        rw [bytes_extract, List.take_of_length_le (by rw [bytes_length]; exact Nat.le_refl _), hS3, List.drop_left]
        exact (bytes_mk b).symm
      have hsp : Ev (fun k => spec_l01Split.f k s 58) [(⟨a.toArray⟩ : ByteArray), (⟨b.toArray⟩ : ByteArray)] := by
        unfold spec_l01Split.f
        refine colon_at s 58 hs (nats b) (nats a) [] [] 0 hS2 hA (by simp) (by simp) ?_
        refine ev_of (colon_none s 58 hs (nats b) _ _ _ hS3 hB (Nat.le_refl _) (by simp)) ?_
        rw [e0, e1]
        rfl
      refine both_bindL hsp (both_posL (by simp) (both_posL (by simp) ?_))
      have r1 : rdOf ByteArray.empty [(⟨a.toArray⟩ : ByteArray), (⟨b.toArray⟩ : ByteArray)] 1 = (⟨b.toArray⟩ : ByteArray) := rfl
      have r0 : rdOf ByteArray.empty [(⟨a.toArray⟩ : ByteArray), (⟨b.toArray⟩ : ByteArray)] 0 = (⟨a.toArray⟩ : ByteArray) := rfl
      rw [r0, r1]
      have hs0 : (⟨a.toArray⟩ : ByteArray).size ≤ maxLen := by
        have : (⟨a.toArray⟩ : ByteArray).size = a.length := by simp [ByteArray.size]
        unfold maxLen
        omega
      refine both_bind (number_both (⟨b.toArray⟩ : ByteArray)) (fun q _ => ?_)
      refine both_posL (by simp) (both_posR rfl (both_ite (fun _ => ?_) (fun _ => both_now _ trivial)))
      refine both_bindL (spec_one _ _ hs0) (both_bindR (impl_one _ _ hs0) ?_)
      exact both_ite (fun _ => both_now _ trivial) (fun _ => both_now _ trivial)
  · rw [cut_none 58 _ hm]
    have hA : (58 : Int) ∉ bytesOf s := fun h => hm (nats_mem (c := 58).1 h)
    have hsp : Ev (fun k => spec_l01Split.f k s 58) ([] ++ [s.extract 0 s.size]) := by
      unfold spec_l01Split.f
      exact colon_none s 58 hs (bytesOf s) [] [] 0 (by simp) hA (by simp) (by simp)
    obtain ⟨q, _, hq2, _⟩ := number_both (⟨([] : List UInt8).toArray⟩ : ByteArray)
    refine both_bindL hsp (both_negL (by simp) (both_bindR hq2 ?_))
    exact both_negR (by simp) (both_now _ trivial)
end Go.Proofs.YtfenjlkopofopaaDoorB
end

section
/- A number's text is read back as that number. -/
namespace Go.Proofs.YtfenjlkopofopaaDoorB
open Go.RowKit Go.Proofs.YtfenjlkopofopaaDoorW.PrintWords Go.Proofs.YtfenjlkopofopaaDoorW.PrintLast Go.Proofs.YtfenjlkopofopaaDoor.P

def valL (v : Int) (xs : List Int) : Int := xs.foldl (fun v x => 10 * v + (x - 48)) v
def DigL (xs : List Int) : Prop := ∀ x ∈ xs, 48 ≤ x ∧ x ≤ 57
theorem valL_ge : ∀ (xs : List Int) (v : Int), DigL xs → 0 ≤ v → v ≤ valL v xs
  | [], v, _, _ => by simp [valL]
  | x :: xs, v, h, hv => by
    have hx := h x List.mem_cons_self
    have := valL_ge xs (10 * v + (x - 48)) (fun y hy => h y (List.mem_cons_of_mem _ hy)) (by omega)
    show v ≤ valL (10 * v + (x - 48)) xs
    omega
theorem dec_val (u : Nat) : DigL (nats (Lib.decDigits u)) ∧ valL 0 (nats (Lib.decDigits u)) = u := by
  have hd : ∀ d : Nat, d < 10 → ((UInt8.ofNat (48 + d)).toNat : Int) = 48 + (d : Int) := by
    intro d hd
    rw [UInt8.toNat_ofNat']
    omega
  induction u using Nat.strongRecOn with
  | _ u ih =>
    by_cases h : u < 10
    · rw [Lib.decDigits, dif_pos h]
      have e : nats [UInt8.ofNat (48 + u)] = [48 + (u : Int)] := by simp only [nats, List.map_cons, List.map_nil]; rw [hd u h]
      rw [e]
      refine ⟨fun x hx => ?_, ?_⟩
      · rw [List.mem_singleton.1 hx]; omega
      · simp [valL]; omega
    · obtain ⟨i1, i2⟩ := ih (u / 10) (by omega)
      rw [Lib.decDigits, dif_neg h]
      have e : nats (Lib.decDigits (u / 10) ++ [UInt8.ofNat (48 + u % 10)]) = nats (Lib.decDigits (u / 10)) ++ [48 + ((u % 10 : Nat) : Int)] := by
        simp only [nats, List.map_append, List.map_cons, List.map_nil]; rw [hd (u % 10) (by omega)]
      rw [e]
      refine ⟨fun x hx => ?_, ?_⟩
      · rcases List.mem_append.1 hx with hx | hx
        · exact i1 x hx
        · rw [List.mem_singleton.1 hx]; omega
      · unfold valL at i2 ⊢
        rw [List.foldl_append, i2]
        simp only [List.foldl_cons, List.foldl_nil]
        omega
theorem back_loop (s t : ByteArray) (n : Int) (hst : t.size = s.size) (hn : n ≤ 1000000000000) (hs : s = ⟨(Lib.itoa n).toArray⟩) : ∀ (xs p : List Int) (v : Int), bytesOf t = p ++ xs → p.length + xs.length ≤ 1048576 → DigL xs → 0 ≤ v → valL v xs = n →
    Ev (fun k => impl_ReadDecimal.l0 k s t v (p.length : Int)) (n, true) := by
  intro xs
  induction xs with
  | nil =>
    intro p v hp _ _ hv hval
    have hz : (t.size : Int) = p.length := by rw [← bytes_length, hp]; simp
    have hvn : v = n := by simpa [valL] using hval
    subst hvn
    refine Ev.step (fun k => by rw [impl_ReadDecimal.l0]) ?_
    refine ev_neg (by omega) (ev_neg (by omega) (ev_bind0 (impl_dec v (by omega) (by omega)) (ev_pos (by rw [hs]) (Ev.now _))))
  | cons x xs ih =>
    intro p v hp hm hd hv hval
    rw [List.length_cons] at hm
    have hz : (t.size : Int) = p.length + (xs.length + 1) := by rw [← bytes_length, hp]; simp
    have hb : bt t (p.length : Int) = x := by rw [bt_rd, hp]; exact rd_mid p x xs
    have hw : wrap64 ((p.length : Int) + 1) = ((p ++ [x]).length : Int) := wrap_next p x (by omega)
    have hx := hd x List.mem_cons_self
    have hd2 : DigL xs := fun y hy => hd y (List.mem_cons_of_mem _ hy)
    have hval2 : valL (10 * v + (x - 48)) xs = n := hval
    have hge := valL_ge xs (10 * v + (x - 48)) hd2 (by omega)
    have hw2 : wrap64 (wrap64 (10 * v) + (x - 48) % 256) = 10 * v + (x - 48) := by
      rw [wrap_small (i := 10 * v) (by omega) (by omega), show (x - 48) % 256 = x - 48 by omega]
      exact wrap_small (by omega) (by omega)
    refine Ev.step (fun k => by rw [impl_ReadDecimal.l0]) ?_
    refine ev_pos (by omega) (ev_pos (by omega) ?_)
    rw [hb, hw, hw2]
    refine ev_neg (by omega) (ev_neg (by omega) ?_)
    exact ih (p ++ [x]) _ (by rw [hp]; simp) (by simp; omega) hd2 (by omega) hval2
theorem number_back (n : Int) (h0 : 0 ≤ n) (h1 : n ≤ 100000000000) : Ev (fun k => impl_ReadDecimal.f k (⟨(Lib.itoa n).toArray⟩ : ByteArray)) (n, true) := by
  have hi : Lib.itoa n = Lib.decDigits n.toNat := by rw [Lib.itoa, if_neg (by omega)]
  obtain ⟨hd, hv⟩ := dec_val n.toNat
  have hb : bytesOf (⟨(Lib.itoa n).toArray⟩ : ByteArray) = nats (Lib.decDigits n.toNat) := by rw [hi, bytes_mk]
  have hl := bytes_length (⟨(Lib.itoa n).toArray⟩ : ByteArray)
  have hz := itoa_size n h0 h1
  have hne : 1 ≤ (⟨(Lib.itoa n).toArray⟩ : ByteArray).size := by
    rw [← hl, hb]
    have := Lib.nDigits_pos n.toNat
    simp [nats, Lib.decDigits_length]
    omega
  have hu : unsign (⟨(Lib.itoa n).toArray⟩ : ByteArray) = (⟨(Lib.itoa n).toArray⟩ : ByteArray) := by
    unfold unsign
    rw [hb]
    cases he : nats (Lib.decDigits n.toNat) with
    | nil => rw [if_neg (by simp [rd])]
    | cons x xs =>
      have := hd x (by rw [he]; exact List.mem_cons_self)
      rw [if_neg (by simp [rd]; omega)]
  unfold impl_ReadDecimal.f
  refine ev_bind0 (trim_some _) ?_
  rw [hu]
  refine ev_neg (by omega) (Ev.step (fun k => by rw [impl_ReadDecimal.j0]) (ev_neg (by simp; omega) ?_))
  refine back_loop _ _ n rfl (by omega) rfl (nats (Lib.decDigits n.toNat)) [] 0 hb (by rw [← hb, hl]; simp; omega) hd (by omega) (by rw [hv]; omega)
end Go.Proofs.YtfenjlkopofopaaDoorB
end

section
/- A coil's text is read back as that coil; no text, no coil. -/
namespace Go.Proofs.YtfenjlkopofopaaDoorB
open Go.RowKit Go.Proofs.YtfenjlkopofopaaDoorW.PrintWords Go.Proofs.YtfenjlkopofopaaDoorW.PrintLast Go.Proofs.YtfenjlkopofopaaDoor.P

theorem name_colon {s : ByteArray} (h : nameB s = true) : (58 : UInt8) ∉ s.data.toList := by
  intro hm
  have h1 : (58 : Int) ∈ bytesOf s := nats_mem (c := 58).2 hm
  unfold nameB nameL at h
  cases hb : bytesOf s with
  | nil => rw [hb] at h1; simp at h1
  | cons c cs =>
    rw [hb] at h h1
    simp only [Bool.and_eq_true] at h
    have h2 := List.all_eq_true.1 h.2 58 h1
    simp [partB, smallB] at h2
/-- CoilText, as both tell it. -/
theorem text_ev (s : ByteArray) (n : Int) (hs : s.size ≤ 1048576) : Ev (fun k => spec_CoilText.f k s n) (if (nameB s && rangeB n) = true then (s ++ (⟨#[58]⟩ : ByteArray)) ++ (⟨(Lib.itoa n).toArray⟩ : ByteArray) else ⟨#[]⟩) ∧
    Ev (fun k => impl_CoilText.f k s n) (if (nameB s && rangeB n) = true then (s ++ (⟨#[58]⟩ : ByteArray)) ++ (⟨(Lib.itoa n).toArray⟩ : ByteArray) else ⟨#[]⟩) := by
  have hm : s.size ≤ maxLen := max_of hs
  unfold spec_CoilText.f impl_CoilText.f
  by_cases h : (nameB s && rangeB n) = true
  · rw [if_pos h]
    have hr : 1 ≤ n ∧ n ≤ 100000 := by
      simp only [rangeB, Bool.and_eq_true, decide_eq_true_eq] at h
      exact h.2
    have hz := itoa_size n (by omega) (by omega)
    have hsp : Ev (fun k => spec_l23Text.f k s n) ((s ++ (⟨#[58]⟩ : ByteArray)) ++ (⟨(Lib.itoa n).toArray⟩ : ByteArray)) := by
      unfold spec_l23Text.f
      refine ev_pos (by omega) (Ev.bind (spec_dec n (by omega) (by omega)) ?_)
      refine ev_pos ?_ (Ev.now _)
      rw [ByteArray.size_append]
      have : (⟨#[58]⟩ : ByteArray).size = 1 := rfl
      omega
    exact ⟨Ev.bind (spec_one s n hm) (ev_pos h (Ev.bind hsp (Ev.now _))), Ev.bind (impl_one s n hm) (ev_pos h (ev_pos (by omega) (ev_bind0 (impl_dec n (by omega) (by omega)) (ev_pos (by omega) (Ev.now _)))))⟩
  · rw [if_neg h]
    exact ⟨Ev.bind (spec_one s n hm) (ev_neg h (Ev.now _)), Ev.bind (impl_one s n hm) (ev_neg h (Ev.now _))⟩
theorem read_back (s : ByteArray) (n : Int) (hs : s.size ≤ 1048576) (h : (nameB s && rangeB n) = true) : Ev (fun k => impl_ReadCoil.f k ((s ++ (⟨#[58]⟩ : ByteArray)) ++ (⟨(Lib.itoa n).toArray⟩ : ByteArray))) (s, n, true) := by
  have hn : nameB s = true := by simp only [Bool.and_eq_true] at h; exact h.1
  have hr : 1 ≤ n ∧ n ≤ 100000 := by
    simp only [rangeB, Bool.and_eq_true, decide_eq_true_eq] at h
    exact h.2
  have hz := itoa_size n (by omega) (by omega)
  have hL : ((s ++ (⟨#[58]⟩ : ByteArray)) ++ (⟨(Lib.itoa n).toArray⟩ : ByteArray)).data.toList = s.data.toList ++ 58 :: Lib.itoa n := by simp
  unfold impl_ReadCoil.f
  refine ev_bind0 (a := (s, (⟨(Lib.itoa n).toArray⟩ : ByteArray), true)) ?_ ?_
  · unfold strings_Cut.f
    rw [if_pos (by rw [ByteArray.size_append, ByteArray.size_append]; have : (⟨#[58]⟩ : ByteArray).size = 1 := rfl; omega), hL]
    show some ((⟨(Lib.cut _ [58]).1.toArray⟩ : ByteArray), _, _) = _
    rw [cut_at 58 s.data.toList (Lib.itoa n) (name_colon hn)]
  · refine Ev.bind (number_back n (by omega) (by omega)) (ev_pos rfl (ev_pos rfl (Ev.bind (impl_one s n (max_of hs)) (ev_pos h (Ev.now _)))))
theorem read_none : ∃ a b, Ev (fun k => impl_ReadCoil.f k (⟨#[]⟩ : ByteArray)) (a, b, false) := by
  refine ⟨⟨#[]⟩, 0, ?_⟩
  unfold impl_ReadCoil.f
  refine ev_bind0 (a := ((⟨#[]⟩ : ByteArray), (⟨#[]⟩ : ByteArray), false)) ?_ ?_
  · unfold strings_Cut.f
    rw [if_pos (by show (0 : Nat) < _; omega)]
    rfl
  · obtain ⟨q, _, hq2, _⟩ := number_both (⟨#[]⟩ : ByteArray)
    exact Ev.bind hq2 (ev_neg (by simp) (Ev.now _))
end Go.Proofs.YtfenjlkopofopaaDoorB
end

section
/- A piece that is cut leaves as much less, no coil that is long enough has less left than the best one, and coils are read back from their texts. -/
namespace Go.Proofs.YtfenjlkopofopaaDoor.Pure
open Go.RowKit Go.Proofs.YtfenjlkopofopaaDoor.P Go.Proofs.YtfenjlkopofopaaDoorB Go.Proofs.YtfenjlkopofopaaDoorW.PrintWords Go.Proofs.YtfenjlkopofopaaDoorW.PrintLast

theorem same_loop_refl (l : List C) (hl : l.length ≤ 1048576) : ∀ (xs p : List C), l = p ++ xs → Ev (fun k => spec_SameCoils.l0 k l l (p.length : Int)) true := by
  intro xs
  induction xs with
  | nil =>
    intro p hp
    rw [List.append_nil] at hp
    refine Ev.step (fun k => by rw [spec_SameCoils.l0]) ?_
    exact ev_neg (by rw [hp]; omega) (Ev.now _)
  | cons x xs ih =>
    intro p hp
    have hpl : (p.length : Int) + (xs.length + 1) = l.length := by rw [hp]; simp
    have hw : wrap64 ((p.length : Int) + 1) = ((p ++ [x]).length : Int) := wrap_next p x (by omega)
    refine Ev.step (fun k => by rw [spec_SameCoils.l0]) (ev_pos (by omega) (ev_pos (by omega) (ev_pos (by omega) (ev_neg (by simp) ?_))))
    rw [hw]
    exact ih (p ++ [x]) (by rw [hp]; simp)
theorem same_refl (l : List C) (hl : l.length ≤ 1048576) : Ev (fun k => spec_SameCoils.f k l l) true := by
  unfold spec_SameCoils.f
  exact ev_pos rfl (same_loop_refl l hl l [] rfl)
theorem ok_elems {l : List C} (h : okCoils l = true) : l.length ≤ 40 ∧ ∀ x ∈ l, nameB x.f0 = true ∧ 1 ≤ x.f1 ∧ x.f1 ≤ 100000 := by
  simp only [okCoils, Bool.and_eq_true, decide_eq_true_eq, List.all_eq_true, coilB, rangeB] at h
  exact ⟨by omega, fun x hx => h.1 x hx⟩
theorem ok_of {l : List C} (h0 : l.length ≤ 40) (h : ∀ x ∈ l, nameB x.f0 = true ∧ 1 ≤ x.f1 ∧ x.f1 ≤ 100000) : okCoils l = true := by
  simp only [okCoils, Bool.and_eq_true, decide_eq_true_eq, List.all_eq_true, coilB, rangeB]
  exact ⟨fun x hx => h x hx, by omega⟩
theorem leftOf_ev (l : List C) (s : ByteArray) (hg : GoodCoils l) (h : okCoils l = true) (hs : s.size ≤ 1048576) (hn : nameB s = true) : Ev (fun k => impl_LeftOf.f k l s) (leftL s l, 0) := by
  obtain ⟨h1, h2⟩ := ok_elems h
  obtain ⟨r, _, hr, he⟩ := sum_both l s h1 (fun x hx => (h2 x hx).2)
  subst he
  unfold impl_LeftOf.f
  refine Ev.bind (impl_ok l hg.1 (good_sizes hg)) (ev_pos h (Ev.bind (impl_name s (max_of hs)) (ev_pos hn (Ev.bind hr (Ev.now _)))))
theorem best_loop (l : List C) (hl : l.length ≤ 1048576) (s : ByteArray) (n b m : Int) (hb0 : 0 ≤ b) (hb1 : b < (l.length : Int)) (hm : (rd_T23 l b).f1 = m) (hmin : ∀ z ∈ l, z.f0 = s → n ≤ z.f1 → m ≤ z.f1) :
    ∀ (xs p : List C), l = p ++ xs → Ev (fun k => laws_FnCoils.l1 k l b (p.length : Int) s n) true := by
  intro xs
  induction xs with
  | nil =>
    intro p hp
    rw [List.append_nil] at hp
    refine Ev.step (fun k => by rw [laws_FnCoils.l1]) ?_
    exact ev_neg (by rw [hp]; omega) (Ev.now _)
  | cons x xs ih =>
    intro p hp
    have hpl : (p.length : Int) + (xs.length + 1) = l.length := by rw [hp]; simp
    have hw : wrap64 ((p.length : Int) + 1) = ((p ++ [x]).length : Int) := wrap_next p x (by omega)
    have hx : rd_T23 l (p.length : Int) = x := by rw [hp]; exact rd23_mid p x xs
    have hxm : x ∈ l := by rw [hp]; simp
    have hi := ih (p ++ [x]) (by rw [hp]; simp)
    refine Ev.step (fun k => by rw [laws_FnCoils.l1]) (ev_pos (by omega) (ev_pos (by omega) ?_))
    rw [hx, hw]
    refine ev_ite (fun h1 => ev_ite (fun h2 => ev_pos hb0 (ev_pos hb1 ?_)) (fun _ => hi)) (fun _ => hi)
    rw [hm]
    exact ev_neg (by have := hmin x hxm (toList_inj h1) h2; omega) hi
theorem piece_part (l x : List C) (s : ByteArray) (n b c : Int) (hg : GoodCoils l) (hx : GoodCoils x) (hs : s.size ≤ 1048576) (h : c = 0 → CutR l s n x b) : Ev (fun k => laws_FnCoils.j2 k l x c b false s n) true := by
  refine Ev.step (fun k => by rw [laws_FnCoils.j2]) (ev_neg (by simp) ?_)
  by_cases h0 : c = 0
  · refine ev_pos h0 ?_
    obtain ⟨hok, hname, hn1, p, y, xs, hl, hb, hX, hny, hys, hmin⟩ := h h0
    obtain ⟨hl40, hel⟩ := ok_elems hok
    have hlen : l.length = p.length + (xs.length + 1) := by rw [hl]; simp
    have hye := hel y (by rw [hl]; simp)
    have hXok : okCoils x = true := by
      rw [hX]
      split
      · refine ok_of (by simp; omega) (fun z hz => ?_)
        simp only [List.mem_append, List.mem_singleton] at hz
        rcases hz with (hz | rfl) | hz
        · exact hel z (by rw [hl]; simp [hz])
        · refine ⟨hye.1, ?_⟩
          show 1 ≤ y.f1 - n ∧ y.f1 - n ≤ 100000
          omega
        · exact hel z (by rw [hl]; simp [hz])
      · refine ok_of (by simp; omega) (fun z hz => ?_)
        rcases List.mem_append.1 hz with hz | hz
        · exact hel z (by rw [hl]; simp [hz])
        · exact hel z (by rw [hl]; simp [hz])
    have hdiff : leftL s l - leftL s x = n := by
      have hyt : y.f0.toList = s.toList := by rw [hys]
      rw [hX, hl]
      split
      · simp only [leftL_append, leftL, if_pos hyt]
        omega
      · simp only [leftL_append, leftL, if_pos hyt]
        omega
    refine Ev.bind (leftOf_ev l s hg hok hs hname) (Ev.bind (leftOf_ev x s hx hXok hs hname) (ev_pos rfl (ev_pos rfl (ev_pos ?_ ?_))))
    · show wrap64 (leftL s l - leftL s x) = n
      rw [hdiff]
      exact YtfenjlkopofopaaDoorB.wrap_small (by omega) (by omega)
    · refine best_loop l hg.1 s n b y.f1 (by omega) (by omega) ?_ hmin l [] rfl
      rw [hl, hb, rd23_mid]
  · exact ev_neg h0 (Ev.now _)
theorem kept_part {l x kept : List C} {s : ByteArray} {n b k0 c m : Int} (hk : KeptL kept m) (hkl : kept.length ≤ 1048576) (hb : c = 0 → k0 = b) (hnext : Ev (fun k => laws_FnCoils.j2 k l x c b false s n) true) :
    ∀ (xs p : List C), kept = p ++ xs → Ev (fun k => laws_FnCoils.l0 k l x c k0 c b m kept (p.length : Int) s n) true := by
  intro xs
  induction xs with
  | nil =>
    intro p hp
    rw [List.append_nil] at hp
    refine Ev.step (fun k => by rw [laws_FnCoils.l0]) ?_
    refine ev_neg (by rw [hp]; omega) (ev_pos rfl ?_)
    by_cases h0 : c = 0
    · refine ev_pos h0 ?_
      have : (k0 != b) = false := by simp [hb h0]
      rw [this]
      exact hnext
    · exact ev_neg h0 hnext
  | cons y xs ih =>
    intro p hp
    have hpl : (p.length : Int) + (xs.length + 1) = kept.length := by rw [hp]; simp
    have hw : wrap64 ((p.length : Int) + 1) = ((p ++ [y]).length : Int) := wrap_next p y (by omega)
    have hy : rd_T23 kept (p.length : Int) = y := by rw [hp]; exact rd23_mid p y xs
    have hym := (hk y (by rw [hp]; simp)).1
    refine Ev.step (fun k => by rw [laws_FnCoils.l0]) (ev_pos (by omega) (ev_pos (by omega) ?_))
    rw [hy, hw]
    exact ev_neg (by omega) (ih (p ++ [y]) (by rw [hp]; simp))
theorem text_ne (s t : ByteArray) : ((s ++ (⟨#[58]⟩ : ByteArray)) ++ t).toList ≠ ([] : List UInt8) := by
  rw [Lib.toList_data]
  simp
theorem FnCoils : laws_FnCoils.Pure := by
  intro l0 _ h1 hc
  unfold maxLen at *
  refine Ev.rounds (?_ : Ev (fun k => laws_FnCoils.f k l0) true)
  unfold laws_FnCoils.f laws_f6big.f
  by_cases hbig : (l0.length : Int) > 4096
  · exact ev_bind0 (a := true) (by rw [decide_eq_true hbig]) (ev_pos rfl (Ev.now _))
  · refine ev_bind0 (a := false) (by rw [decide_eq_false hbig]) (ev_neg (by simp) ?_)
    have hcode := code_of hc
    obtain ⟨l, s, n, e1, hl, hs, hn⟩ := ask_some hcode
    obtain ⟨x, k, c, b, s1, i1, s2, i2, hx, hlaw⟩ := cut_law l s n hl hs
    obtain ⟨l2, a2, e2, hl2, ha2⟩ := drawLeftOf_some hcode
    obtain ⟨v3, s3, i3, _⟩ := LeftOf_both l2 a2 hl2 ha2
    obtain ⟨l4, m4, e4, hl4, hm4⟩ := drawThrow_some hcode
    obtain ⟨v4, s4, i4, hv4, hk4⟩ := Kept_both l4 m4 hl4 hm4
    obtain ⟨l5, a5, n5, e5, hl5, hg5⟩ := drawAdd_some hcode
    obtain ⟨v5, s5, i5, hv5⟩ := AddCoil_both l5 ⟨a5, n5⟩ hl5 hg5
    obtain ⟨a6, n6, e6, hg6⟩ := drawText_some hcode
    obtain ⟨s6, i6⟩ := text_ev a6 n6 hg6.1
    obtain ⟨t7, e7, ht7⟩ := drawRead_some hcode
    obtain ⟨v7, s7, i7, _⟩ := ReadCoil_both t7 ht7
    obtain ⟨x8, y8, e8, hx8, hy8⟩ := drawSame_some hcode
    obtain ⟨v8, s8, i8, _⟩ := SameCoils_both x8 y8 hx8 hy8
    obtain ⟨v9, s9, i9, _⟩ := ValidStockCoils_both l hl
    have hfin : Ev (fun k' => laws_FnCoils.j0 k' l x c k c b m4 v4.1 (v9 != v9) s n) true := by
      refine Ev.step (fun k => by rw [laws_FnCoils.j0]) (ev_neg (by simp) ?_)
      exact kept_part hk4 hv4 (fun h => (hlaw h).1) (piece_part l x s n b c hl hx hs (fun h => (hlaw h).2)) v4.1 [] rfl
    obtain ⟨t6, ht6⟩ : ∃ t, t = (if (nameB a6 && rangeB n6) = true then (a6 ++ (⟨#[58]⟩ : ByteArray)) ++ (⟨(Lib.itoa n6).toArray⟩ : ByteArray) else ⟨#[]⟩) := ⟨_, rfl⟩
    rw [← ht6] at s6 i6
    have hback : ∃ r : ByteArray × Int × Bool, Ev (fun k => impl_ReadCoil.f k t6) r ∧ (r.2.2 != (t6.toList != ([] : List UInt8))) = false ∧ (r.2.2 = true → r.1 = a6 ∧ r.2.1 = n6) := by
      by_cases hv : (nameB a6 && rangeB n6) = true
      · rw [if_pos hv] at ht6
        refine ⟨(a6, n6, true), by rw [ht6]; exact read_back a6 n6 hg6.1 hv, ?_, fun _ => ⟨rfl, rfl⟩⟩
        have hne := text_ne a6 (⟨(Lib.itoa n6).toArray⟩ : ByteArray)
        rw [ht6]
        simp only [bne_eq_false_iff_eq]
        exact (bne_iff_ne.2 hne).symm
      · rw [if_neg hv] at ht6
        obtain ⟨u, w, hr⟩ := read_none
        refine ⟨(u, w, false), by rw [ht6]; exact hr, ?_, fun h => by simp at h⟩
        rw [ht6, Lib.toList_data]
        rfl
    obtain ⟨r6, hr6, hne6, hok6⟩ := hback
    refine Ev.bind e1 (Ev.bind i1 (Ev.bind s1 (Ev.bind i2 (Ev.bind s2 (Ev.bind e2 (Ev.bind i3 (Ev.bind s3 (Ev.bind e4 (Ev.bind i4 (Ev.bind s4 (Ev.bind e5 (Ev.bind i5 (Ev.bind s5 (Ev.bind e6 (Ev.bind i6 (Ev.bind hr6 (Ev.bind e7 (Ev.bind i7 (Ev.bind s7 (Ev.bind e8 ?_))))))))))))))))))))
    dsimp only
    refine ev_pos rfl (ev_pos rfl (Ev.bind (same_refl x hx.1) (ev_pos rfl (ev_pos rfl (ev_pos rfl (ev_pos rfl (ev_pos rfl (ev_pos rfl (Ev.bind (same_refl v4.1 hv4) (ev_pos rfl (ev_pos rfl (Ev.bind (same_refl v5.1 hv5) (ev_pos rfl (Ev.bind s6 (ev_pos rfl (ev_neg (by rw [hne6]; simp) ?_))))))))))))))))
    refine ev_ite (fun h => ?_) (fun _ => ?_)
    · obtain ⟨h2, h3⟩ := hok6 h
      refine ev_neg (by rw [h2, h3]; simp) (ev_neg (by simp) (ev_neg (by simp) (Ev.bind i8 (Ev.bind s8 (ev_neg (by simp) (Ev.bind i9 (Ev.bind s9 hfin)))))))
    · refine ev_neg (by simp) (ev_neg (by simp) (Ev.bind i8 (Ev.bind s8 (ev_neg (by simp) (Ev.bind i9 (Ev.bind s9 hfin))))))
end Go.Proofs.YtfenjlkopofopaaDoor.Pure
end

section
namespace Go.Proofs.YtfenjlkopofopaaDoorW.PrintWords
open Go.ChangeShapes Go.WideShapes
/-- A row's slice of whole numbers is no longer than its weight allows. -/
theorem sized_ints {H : Type} {enc : TypeId × Value → H} {P : Program} {W : World} {base : Nat} {spare : Nat → Bool} {held : Bool} {t e : TypeId} {k : IntKind} {a : Option Addr} {len cap : Nat} {d : DataW H} {ps : List MemPlace} {ts : List TypeId} {ds : List (DataW H)} {j : Nat}
    (hsz : (DataW.weightsEach P ts ds).all (· ≤ reachBytes) = true) (ht : ts[j]? = some t) (hd : ds[j]? = some d) (hu : P.underlying t = some (.slice e)) (he : P.underlying e = some (.int k)) (hc : P.cellsOf e = 1) {B : Nat} (hB : P.bytesOf e = B)
    (h : DataW.Trod enc P W base spare held t (.slice a len cap) d ps) : len * B ≤ 140737488351232 := by
  obtain ⟨fuel, hf⟩ := h
  rcases open_ints hu he hc hf with ⟨hcs, _⟩ | ⟨x, l, c, zs, hcs, _, hl, _, hz, hx, _, _⟩
  · simp [Value.cells] at hcs
    obtain ⟨rfl, rfl, rfl⟩ := hcs
    simp
  · simp [Value.cells] at hcs
    obtain ⟨rfl, rfl, rfl⟩ := hcs
    obtain ⟨hx, _⟩ := Prod.mk.inj hx
    subst hx
    have z := sized_slice hsz ht hd hu
    rw [hB] at z
    have hl2 : len ≤ zs.length := by
      rw [hz]
      split
      · exact hl
      · exact Nat.le_refl _
    have h1 : (lits (H := H) k (zs.take len)).length + (lits (H := H) k (zs.drop len)).length = zs.length := by
      simp [lits]
      omega
    rw [h1] at z
    exact Nat.le_trans (Nat.mul_le_mul_right _ hl2) z
end Go.Proofs.YtfenjlkopofopaaDoorW.PrintWords
end

section
namespace Go.Proofs.YtfenjlkopofopaaDoor.fnCoils
open Go.Proofs.YtfenjlkopofopaaDoor.P
open Go.ChangeShapes Go.WideShapes Go.ChangeAt Go.RowKit
open Go.ChangeMaps (open_string shut_string)
set_option linter.unusedVariables false
theorem own : ownKnob Tryd.prog.godebug = none := by kernel_rfl
theorem tu_of_shape {W : World} (h : W.ShapedOpen Tryd.prog) : TU W :=
  cell_of_shapedOpen_int (g := 0) (t := 3) (zero := #[.int .i64 0]) (k := .i64) h (of_decide_eq_true (by kernel_rfl)) (by kernel_rfl) (by kernel_rfl) (by kernel_rfl) (by kernel_rfl) (by kernel_rfl)
theorem laidOut : laidOutB Tryd.prog = true := by kernel_rfl
abbrev laidL : List (String × DataW Unit) := [("math/bits.deBruijn32tab", Rows.laid_math_bits_deBruijn32tab), ("math/bits.deBruijn64tab", Rows.laid_math_bits_deBruijn64tab), ("internal/strconv.uint64pow10", Rows.laid_internal_strconv_uint64pow10)]
theorem door_met (os : Os) (args : Array Value) : laidMetH Tryd.prog laidL ((World.doorLaid Tryd.prog 400 os).forCall (fun _ _ => 0) ⟨#[], args, []⟩).memory :=
  laidMetH_of_parts3 (fuel := 8) (laidMet_of_run' 8 (by kernel_rfl) (by kernel_rfl)) (by kernel_rfl) (by kernel_rfl)
theorem gPow : Tryd.prog.globalNamed "internal/strconv.uint64pow10" = some 1 := by kernel_rfl
theorem datPow : (Rows.laid_internal_strconv_uint64pow10 : DataW Unit) = Lib.tabData .u64 Lib.pow10Tab := rfl
theorem tb_of_laid {W : World} (h : laidMetH Tryd.prog laidL W) : TB W := by
  rw [MakeChecks.laidMetH_plain _ _ _ (by kernel_rfl)] at h
  have h2 := laidMet.tail (laidMet.tail (h))
  rw [datPow] at h2
  exact Lib.tabIs_of_head gPow (t := 177) (e := 153) (n := 20) (by kernel_rfl) (by kernel_rfl) (by kernel_rfl) (by kernel_rfl) (by kernel_rfl) h2
def IsRow (k : IntKind) (w : World) (a : Option Addr) (len cap : Nat) (zs : List Int) : Prop :=
  (a = none ∧ len = 0 ∧ cap = 0 ∧ zs = []) ∨
  ∃ x, a = some x ∧ len ≤ cap ∧ cap ≤ maxLen ∧ zs.length = cap ∧ (∀ i, i < zs.length → w.cell? (x.add i) = some (.int k (zs.getD i 0))) ∧ ∀ n ∈ zs, (Lit.int k n).wf = true
set_option maxRecDepth 100000 in
theorem lifted (os : Os) (started : os.Started) (H : Type) (enc : TypeId × Value → H) :
    ReturnsInHanded {} Tryd.checked os 4 .any (fun w args => (Rows.fnCoilsSpec.pre enc Tryd.prog Tryd.f4 [] false w args ∧ laidMetH Tryd.prog laidL w) ∧ sizedMet enc Tryd.prog Tryd.f4 (OpenSpec.ofChange Rows.fnCoilsSpec) false w args) (Rows.fnCoilsSpec.post enc Tryd.prog Tryd.f4 false true false false) := by
  refine returnsInHanded_of_row (C := Tryd.checked) (s := OpenSpec.ofChange Rows.fnCoilsSpec) (F := fun _ _ _ => 0) (conds := []) (apart := false) (fresh := true) (handsOn := false) (again := false) (laid := laidL) own started (by kernel_rfl) Tryd.func4
    (ChangeSpec.witness_shaped (enc := enc) (C := Tryd.checked) (os := os) (X := fun w _ => laidMetH Tryd.prog laidL w) false (World.doorLaid Tryd.prog 400 os) #[.slice none 0 0] 8 rfl (World.shaped_of_RefB (by kernel_rfl) (by kernel_rfl)) (by kernel_rfl) (by kernel_rfl) (by kernel_rfl) (door_met os _)) ?_
  intro W base args ds gs before hval0 hW hcnd _ hsz0 hL hsh _
  have hT : TB W := tb_of_laid hL
  have hU : TU W := tu_of_shape hsh
  have hsz : (DataW.weightsEach Tryd.prog (Tryd.f4.params.toList ++ Rows.fnCoilsSpec.plain.varTypes Tryd.prog) (ds ++ gs)).all (· ≤ reachBytes) = true := hsz0
  have hval : ∀ (j : Nat) t v, Tryd.f4.params[j]? = some t → args[j]? = some v → Value.okWide Tryd.prog W .any base t v := hval0
  have hW' := hW
  obtain ⟨p, q, hA0, hV, rfl, hfz, hnd⟩ := hW
  have hA : DataW.TrodAll enc Tryd.prog W 0 (fun _ => true) true Tryd.f4.params.toList args.toList ds p := hA0
  rw [Tryd.params4] at hA hval hsz
  obtain ⟨v0, vs0, d0, ds0, p0, q0, hargs, rfl, rfl, h0, r0⟩ := trodAll_cons hA
  obtain ⟨rfl, rfl, rfl⟩ := trodAll_nil r0
  obtain rfl : args = #[v0] := by cases args; simp_all
  obtain ⟨rfl, rfl⟩ := trodVars_none hV
  obtain ⟨a0, len0, cap0, rfl⟩ := okWide_slice Tryd.underlying28 (hval 0 28 v0 rfl rfl)
  have k0 := h0
  have lt0 : ∀ x ∈ p0, x.block < W.heap.size := by obtain ⟨m, hm⟩ := k0; exact DataW.trod_lt m _ _ _ hm
  obtain ⟨z0, w0⟩ : ∃ zs, IsRow .u8 W a0 len0 cap0 zs := by
    obtain ⟨fuel, hf⟩ := h0
    rcases open_ints Tryd.underlying28 Tryd.underlying5 (by kernel_rfl) hf with ⟨hcs, _⟩ | ⟨x, l, c, zs, hcs, _, hl, hm, hz, _, hcell, hwz⟩
    · simp [Value.cells] at hcs
      obtain ⟨rfl, rfl, rfl⟩ := hcs
      exact ⟨[], .inl ⟨rfl, rfl, rfl, rfl⟩⟩
    · simp [Value.cells] at hcs
      obtain ⟨rfl, rfl, rfl⟩ := hcs
      exact ⟨zs, .inr ⟨_, rfl, hl, hm, by simpa using hz, hcell, hwz⟩⟩
  have y0 : len0 * 1 ≤ 140737488351232 := Go.Proofs.YtfenjlkopofopaaDoorW.PrintWords.sized_ints hsz (j := 0) (t := 28) rfl rfl Tryd.underlying28 Tryd.underlying5 (by kernel_rfl) (by kernel_rfl) h0
  clear hA0 hval0 hsz0 hsz
  refine (P.laws_FnCoils.walk Pure.FnCoils a0 len0 cap0 z0 W w0 y0 hT hU).mono fun e W' ⟨he, bel⟩ => ?_
  subst he
  exact ⟨_, rfl, _, _, _, [], _, [], hW', trodAll_mk1 (shut_bool Tryd.underlying4 _), (trodAll_cons_mk (Below.trod laidOut (by kernel_rfl) (of_decide_eq_true (by kernel_rfl)) k0 bel lt0) trodAll_mk0), rfl, bel.frame _, fun h => by cases h⟩
theorem over : Rows.fnCoilsRow.holds Tryd.pinned (OpenSpec.ofChange Rows.fnCoilsSpec) :=
  OpenClaim.holds_of_wide 4 Tryd.f4 rfl rfl rfl rfl rfl rfl rfl ⟨rfl, rfl, rfl, rfl, rfl⟩ rfl rfl rfl rfl rfl (by kernel_rfl) Tryd.func4 (by kernel_rfl)
    (of_decide_eq_true (by kernel_rfl)) (by unfold Func.isWrapper; first | (rw [if_pos (by decide +kernel)]; kernel_rfl) | (rw [if_neg (by decide +kernel)]; exact ⟨rfl, rfl⟩))
    (fun os started H enc _ => lifted os started H enc)
theorem proved : Rows.FnCoilsSaid := over
#print axioms proved
end Go.Proofs.YtfenjlkopofopaaDoor.fnCoils
namespace Go.Proofs.YtfenjlkopofopaaDoor
/-- The row, and its card, tied to the program's text. -/
theorem fnCoils_holds : Rows.FnCoilsCardSaid :=
  Claim7.holds_tied_plain_at .later [] [.data, .data, .data] true (true, "180f7a73e25a143fd26ec5e06cc4fd2189f81fc55fcc310281885ee044136ac5") false
    fnCoils.proved (fun _ h => by cases h) (by kernel_rfl) (fun _ h => by cases h) fnCoils_row_tie rfl ⟨rfl, rfl⟩ (by kernel_rfl) rfl
    (fun f fn hf hfn => by
      obtain rfl : f = 4 := Option.some.inj ((show Tryd.prog.funcNamed "loop.example/g01044/laws.FnCoils" = some 4 by kernel_rfl).symm.trans hf) |>.symm
      obtain rfl : fn = Tryd.f4 := (Option.some.inj (Tryd.func4.symm.trans hfn)).symm
      exact ⟨by kernel_rfl, fun j t ht => by
        rw [Tryd.params4] at ht
        have hm : t ∈ [28] := by simpa using Array.mem_of_getElem? ht
        have hall : ([28].all fun u => !Tryd.prog.wantsStandIn u) = true := by kernel_rfl
        exact (show Tryd.prog.wantsStandIn t = false by simpa using List.all_eq_true.1 hall t hm)⟩)
    (by kernel_rfl)
end Go.Proofs.YtfenjlkopofopaaDoor
end
