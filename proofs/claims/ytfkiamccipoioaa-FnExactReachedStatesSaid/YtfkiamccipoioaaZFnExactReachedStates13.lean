/- The law FnExactReachedStates: for every input it returns true and its arguments read as before: the row, out of its plain statement and the printed contracts. No condition beside the form's own. -/
import Derived.Test.YtfkiamccipoioaaRows
import Derived.WalkKit
import Derived.ProofKit
import Derived.OpenShut
import Derived.ShutString
import Derived.ChangeOld
import Derived.Below
import Derived.SizedLaws
import Derived.Test.YtfkiamccipoioaaZFnExactReachedStates12
section
/- The search of both sides: one step, one row, all. -/
namespace Go.Proofs.YtfkiamccipoioaaB
open Go.RowKit Go.Proofs.YtfkiamccipoioaaW.PrintWords Go.Proofs.YtfkiamccipoioaaW.PrintLast Go.Proofs.YtfkiamccipoioaaW.PrintMore Go.Proofs.Ytfkiamccipoioaa.P

def eS (L : List (List Int)) : List ByteArray := L.map strOfNums
def eX (L : List (List Int)) : List Int := L.map fun l => ((setN l : Nat) : Int)
def eB (P : List (Int × Int)) : List Int := P.map (·.1)
def eL (P : List (Int × Int)) : List Int := P.map (·.2)
structure AllInv (n : List Int) (ys : List (List Int)) (L : List (List Int)) (P : List (Int × Int)) (W : List (List Int)) : Prop where
  ok : ∀ l ∈ L, DeckOk n ys l
  nd : (L.map numN).Nodup
  pl : P.length = L.length
  wl : W.length = L.length
  zero : W.getD 0 [] = []
  way : ∀ t : Nat, (W.getD t []).length ≤ t
  path : ∀ t : Nat, 0 < t → t < L.length → ∃ b : Nat, b < t ∧ (P.getD t (0, 0)).1 = (b : Int) ∧ W.getD t [] = W.getD b [] ++ [(P.getD t (0, 0)).2]
section
variable {n : List Int} {ys L : List (List Int)} {P : List (Int × Int)} {W : List (List Int)}
theorem AllInv.few (h : AllInv n ys L P W) : L.length ≤ 256 := by
  have := nodup_bound 256 (L.map numN) h.nd (fun x hx => by
    obtain ⟨l, hl, rfl⟩ := List.mem_map.1 hx
    have h1 := numN_lt l
    have h2 := h.ok l hl
    have h3 : 2 ^ l.length ≤ 2 ^ 8 := Nat.pow_le_pow_right (by decide) (by rw [h2.len]; exact h2.few)
    have h4 : (2 : Nat) ^ 8 = 256 := by decide
    omega)
  rwa [List.length_map] at this
theorem rd_eX {i : Nat} {l : List Int} (hi : L[i]? = some l) : rd (eX L) (i : Int) = ((setN l : Nat) : Int) := by
  show (eX L).getD ((i : Int)).toNat 0 = _
  rw [Int.toNat_natCast, List.getD_eq_getElem?_getD]
  unfold eX
  rw [List.getElem?_map, hi]
  rfl
theorem rd_eS {i : Nat} {l : List Int} (hi : L[i]? = some l) : rdOf ByteArray.empty (eS L) (i : Int) = strOfNums l := by
  show (eS L).getD ((i : Int)).toNat ByteArray.empty = _
  rw [Int.toNat_natCast, List.getD_eq_getElem?_getD]
  unfold eS
  rw [List.getElem?_map, hi]
  rfl
theorem contains_eX (hok : ∀ l ∈ L, DeckOk n ys l) {q : List Int} (hq : DeckOk n ys q) : (eX L).contains ((setN q : Nat) : Int) = decide (numN q ∈ L.map numN) := by
  rw [Bool.eq_iff_iff, List.contains_iff_mem, decide_eq_true_iff]
  unfold eX
  rw [List.mem_map, List.mem_map]
  constructor
  · rintro ⟨l, hl, h⟩
    have h2 := hok l hl
    exact ⟨l, hl, by rw [setN_inj l q (by rw [h2.len, hq.len]) h2.fast hq.fast (by exact_mod_cast h)]⟩
  · rintro ⟨l, hl, h⟩
    have h2 := hok l hl
    exact ⟨l, hl, by rw [numN_inj (by rw [h2.len, hq.len]) h2.fast hq.fast h]⟩
theorem wf_set {q : List Int} (h : q.length ≤ 61) : (Lit.int .i64 ((setN q : Nat) : Int)).wf = true := by
  have := setN_small h
  have h2 : (2 : Nat) ^ 62 = 4611686018427387904 := by decide
  simp [Lit.wf, IntKind.min, IntKind.max, IntKind.signed, IntKind.bits]
  omega
theorem AllInv.push (h : AllInv n ys L P W) {i : Nat} {q : List Int} (hi : i < L.length) (hq : DeckOk n ys q) (hnew : numN q ∉ L.map numN) (j : Int) :
    AllInv n ys (L ++ [q]) (P ++ [((i : Int), j)]) (W ++ [W.getD i [] ++ [j]]) := by
  have hp := h.pl
  have hw := h.wl
  have hWi := h.way i
  refine ⟨fun l hl => ?_, ?_, by simp [hp], by simp [hw], ?_, fun t => ?_, fun t h0 ht => ?_⟩
  · rcases List.mem_append.1 hl with hl | hl
    · exact h.ok l hl
    · rw [List.mem_singleton.1 hl]; exact hq
  · rw [List.map_append, List.map_cons, List.map_nil, List.nodup_append]
    exact ⟨h.nd, by simp, fun a ha b hb e => by rw [List.mem_singleton.1 hb] at e; exact hnew (e ▸ ha)⟩
  · rw [List.getD_eq_getElem?_getD, List.getElem?_append_left (by omega), ← List.getD_eq_getElem?_getD]; exact h.zero
  · by_cases ht : t < W.length
    · rw [List.getD_eq_getElem?_getD, List.getElem?_append_left ht, ← List.getD_eq_getElem?_getD]; exact h.way t
    · rw [List.getD_eq_getElem?_getD, List.getElem?_append_right (by omega)]
      by_cases h1 : t = W.length
      · rw [h1, Nat.sub_self]
        simp only [List.getElem?_cons_zero, Option.getD_some, List.length_append, List.length_singleton]
        omega
      · rw [List.getElem?_eq_none (by simp; omega)]
        simp
  · rw [List.length_append, List.length_singleton] at ht
    by_cases h1 : t < L.length
    · obtain ⟨b, hb, h2, h3⟩ := h.path t h0 h1
      refine ⟨b, hb, ?_, ?_⟩
      · rw [List.getD_eq_getElem?_getD, List.getElem?_append_left (by omega), ← List.getD_eq_getElem?_getD]; exact h2
      · rw [List.getD_eq_getElem?_getD, List.getElem?_append_left (by omega), ← List.getD_eq_getElem?_getD, List.getD_eq_getElem?_getD (l := W ++ _) (i := b), List.getElem?_append_left (by omega), ← List.getD_eq_getElem?_getD, List.getD_eq_getElem?_getD (l := P ++ _), List.getElem?_append_left (by omega), ← List.getD_eq_getElem?_getD]
        exact h3
    · have e : t = L.length := by omega
      subst e
      refine ⟨i, hi, ?_, ?_⟩
      · rw [List.getD_eq_getElem?_getD, ← hp, List.getElem?_append_right (Nat.le_refl _), Nat.sub_self]; rfl
      · rw [List.getD_eq_getElem?_getD (l := P ++ _), List.getD_eq_getElem?_getD (l := W ++ _) (i := i), List.getElem?_append_left (by omega), ← List.getD_eq_getElem?_getD (l := W) (i := i), List.getD_eq_getElem?_getD]
        conv => lhs; rw [← hw, List.getElem?_append_right (Nat.le_refl _), Nat.sub_self]
        conv => rhs; rw [← hp, List.getElem?_append_right (Nat.le_refl _), Nat.sub_self]
        rfl
end
theorem getD_of {W : List (List Int)} {i : Nat} : rd_L1 W (i : Int) = W.getD i [] := by
  unfold rd_L1
  rw [Int.toNat_natCast]
theorem wrapS (i : Nat) (h : i ≤ 1048576) : wrap64 ((i : Int) + 1) = ((i + 1 : Nat) : Int) := by rw [wrap_small (by omega) (by omega)]; omega
/-- One line of one state: both go on alike. -/
theorem row_both0 {n : List Int} {ys : List (List Int)} {i : Nat} {l : List Int} : ∀ (d j : Nat) (L : List (List Int)) (P : List (Int × Int)) (W : List (List Int)) (pre : List Int), j + d = n.length → AllInv n ys L P W → L[i]? = some l → chF n ys l n.length 0 = pre ++ chF n ys l d j →
    ∃ L' P' W', AllInv n ys L' P' W' ∧ L'[i]? = some l ∧
      (∀ r, Ev (fun k => impl_reachedSets.l0 k (eX L') W' (i + 1) n ys) r → Ev (fun k => impl_reachedSets.l1 k (eX L) W i j n ys) r) ∧
      (∀ r, Ev (fun k => spec_l20All.l0 k (eS L') (eB P') (eL P') (seenL L') ((i + 1 : Nat) : Int) n ys) r → Ev (fun k => spec_l20All.l1 k (eS L) (eB P) (eL P) (seenL L) (i : Int) (chF n ys l n.length 0) (pre.length : Int) n ys) r) ∧ (∀ q, L[0]? = some q → L'[0]? = some q) := by
  intro d
  induction d with
  | zero =>
    intro j L P W pre hj hI hi hc
    have hfew := hI.few
    have hil := (List.getElem?_eq_some_iff.1 hi).1
    refine ⟨L, P, W, hI, hi, fun r h => ?_, fun r h => ?_, fun _ h => h⟩
    · exact Ev.step (fun k => by rw [impl_reachedSets.l1]) (ev_neg (by omega) h)
    · rw [chF, List.append_nil] at hc
      refine Ev.step (fun k => by rw [spec_l20All.l1]) (ev_neg (by rw [hc]; omega) ?_)
      rw [wrapS i (by omega)]
      exact h
  | succ d ih =>
    intro j L P W pre hj hI hi hc
    have hfew := hI.few
    have hil := (List.getElem?_eq_some_iff.1 hi).1
    have hok := hI.ok l (List.mem_of_getElem? hi)
    have hn8 := hok.few
    have hll := hok.len
    have hq : DeckOk n ys (flipL l (j : Int)) := hok.flip _
    have hnx : nextS (eX L) i j = ((setN (flipL l (j : Int)) : Nat) : Int) := by
      unfold nextS
      rw [rd_eX hi]
      exact flip_bits l (by omega) (j : Int) (by omega) (by omega)
    have hwf : (Lit.int .i64 (nextS (eX L) i j)).wf = true := by rw [hnx]; exact wf_set (by rw [hq.len]; omega)
    have hxl : (eX L).length = L.length := List.length_map ..
    have hsl : (eS L).length = L.length := List.length_map ..
    have hw9 : (Lit.int .i64 (nextS (eX L) i j)).wf = true ∧ i < (eX L).length := ⟨hwf, by omega⟩
    have hct : (eX L).contains (nextS (eX L) i j) = decide (numN (flipL l (j : Int)) ∈ L.map numN) := by rw [hnx]; exact contains_eX hI.ok hq
    have himp : Ev (fun k => impl_changeCode.f k n ys (rd (eX L) (i : Int)) (j : Int)) (changeC n ys l (j : Int)) := by
      rw [rd_eX hi]
      exact impl_change hok (j : Int) (by omega) (by omega)
    by_cases hch : changeC n ys l (j : Int) = 0
    · have hcf : chF n ys l (d + 1) j = (j : Int) :: chF n ys l d (j + 1) := by rw [chF, if_pos hch]
      rw [hcf] at hc
      have hc2 : chF n ys l n.length 0 = (pre ++ [(j : Int)]) ++ chF n ys l d (j + 1) := by rw [hc, List.append_assoc]; rfl
      have hpl : (pre ++ [(j : Int)]).length = pre.length + 1 := by rw [List.length_append, List.length_singleton]
      have hcl := chF_length n ys l n.length 0
      have hplen : pre.length < (chF n ys l n.length 0).length := by rw [hc]; simp
      have hrd : rd (chF n ys l n.length 0) (pre.length : Int) = (j : Int) := by rw [hc]; exact rd_mid pre (j : Int) _
      have hnum : numN (flipL l (j : Int)) < 256 := by
        have h1 := numN_lt (flipL l (j : Int))
        have h3 : 2 ^ (flipL l (j : Int)).length ≤ 2 ^ 8 := Nat.pow_le_pow_right (by decide) (by rw [hq.len]; exact hn8)
        have h4 : (2 : Nat) ^ 8 = 256 := by decide
        omega
      have hfast := hok.fast
      have hsc : Ev (fun k => spec_l20Change.f k n ys (strOfNums l) (j : Int)) (strOfNums (flipL l (j : Int)), 0) := by
        have := spec_change hok (j : Int) (by omega) (by omega) (strOfNums l) (strOf_bytes hfast)
        rw [if_pos hch, hch] at this
        exact this
      have hbq : bytesOf (strOfNums (flipL l (j : Int))) = flipL l (j : Int) := strOf_bytes hq.fast
      have hnb := number_ev (strOfNums (flipL l (j : Int))) (by rw [← bytes_length, hbq, hq.len]; omega)
      rw [hbq] at hnb
      by_cases hs : numN (flipL l (j : Int)) ∈ L.map numN
      · obtain ⟨L', P', W', h1, h2, h3, h4, h5⟩ := ih (j + 1) L P W (pre ++ [(j : Int)]) (by omega) hI hi hc2
        refine ⟨L', P', W', h1, h2, fun r h => ?_, fun r h => ?_, h5⟩
        · refine Ev.step (fun k => by rw [impl_reachedSets.l1]) (ev_pos (by omega) (ev_pos hw9 (ev_pos (by rw [hct, decide_eq_true hs]) (h3 r h))))
        · refine Ev.step (fun k => by rw [spec_l20All.l1]) (ev_pos (by omega) (ev_pos (by omega) (ev_pos (by omega) (ev_pos (by omega) ?_))))
          rw [rd_eS hi, hrd]
          refine Ev.bind hsc (Ev.bind hnb (ev_pos (by omega) (ev_pos (by rw [seenL_length]; omega) (ev_pos (by rw [seenL_at L _ hnum, decide_eq_true hs]) ?_))))
          have := h4 r h
          rw [hpl] at this
          rw [wrapS pre.length (by omega)]
          exact this
      · obtain ⟨L', P', W', h1, h2, h3, h4, h5⟩ := ih (j + 1) (L ++ [flipL l (j : Int)]) (P ++ [((i : Int), (j : Int))]) (W ++ [W.getD i [] ++ [(j : Int)]]) (pre ++ [(j : Int)]) (by omega) (hI.push hil hq hs (j : Int)) (by rw [List.getElem?_append_left hil]; exact hi) hc2
        have hWi := hI.way i
        have hwl := hI.wl
        have hpll := hI.pl
        have hs9 : (eX L).length < 1048576 ∧ W.length < 1048576 ∧ (rd_L1 W (i : Int)).length < 1048576 ∧ i < W.length := ⟨by omega, by omega, by rw [getD_of]; omega, by omega⟩
        refine ⟨L', P', W', h1, h2, fun r h => ?_, fun r h => ?_, fun q hq => h5 q (by rw [List.getElem?_append_left (by omega)]; exact hq)⟩
        · refine Ev.step (fun k => by rw [impl_reachedSets.l1]) (ev_pos (by omega) (ev_pos hw9 (ev_neg (by rw [hct, decide_eq_false hs]; simp) (Ev.bind himp (ev_pos hch (ev_pos hs9 ?_))))))
          have := h3 r h
          rw [getD_of, hnx]
          have e : eX (L ++ [flipL l (j : Int)]) = eX L ++ [((setN (flipL l (j : Int)) : Nat) : Int)] := by unfold eX; rw [List.map_append]; rfl
          rw [e] at this
          exact this
        · refine Ev.step (fun k => by rw [spec_l20All.l1]) (ev_pos (by omega) (ev_pos (by omega) (ev_pos (by omega) (ev_pos (by omega) ?_))))
          rw [rd_eS hi, hrd]
          have hbl : (eB P).length = L.length := by unfold eB; rw [List.length_map]; exact hpll
          have hll2 : (eL P).length = L.length := by unfold eL; rw [List.length_map]; exact hpll
          refine Ev.bind hsc (Ev.bind hnb (ev_pos (by omega) (ev_pos (by rw [seenL_length]; omega) (ev_neg (by rw [seenL_at L _ hnum, decide_eq_false hs]; simp) (Ev.bind hnb (ev_pos (by omega) (ev_pos (by rw [seenL_length]; omega) (ev_pos (by omega) (ev_pos (by omega) (ev_pos (by omega) ?_))))))))))
          have := h4 r h
          rw [hpl, ← seenL_set L _ hnum] at this
          have e1 : eS (L ++ [flipL l (j : Int)]) = eS L ++ [strOfNums (flipL l (j : Int))] := by unfold eS; rw [List.map_append]; rfl
          have e2 : eB (P ++ [((i : Int), (j : Int))]) = eB P ++ [(i : Int)] := by unfold eB; rw [List.map_append]; rfl
          have e3 : eL (P ++ [((i : Int), (j : Int))]) = eL P ++ [(j : Int)] := by unfold eL; rw [List.map_append]; rfl
          rw [e1, e2, e3] at this
          rw [wrapS pre.length (by omega), Int.toNat_natCast]
          exact this
    · have hcf : chF n ys l (d + 1) j = chF n ys l d (j + 1) := by rw [chF, if_neg hch]
      rw [hcf] at hc
      obtain ⟨L', P', W', h1, h2, h3, h4, h5⟩ := ih (j + 1) L P W pre (by omega) hI hi hc
      refine ⟨L', P', W', h1, h2, fun r h => ?_, h4, h5⟩
      refine Ev.step (fun k => by rw [impl_reachedSets.l1]) (ev_pos (by omega) (ev_pos hw9 (ev_ite (fun _ => h3 r h) (fun _ => Ev.bind himp (ev_neg hch (h3 r h))))))
end Go.Proofs.YtfkiamccipoioaaB
end

section
/- The whole search of both sides; ReachedStates. -/
namespace Go.Proofs.YtfkiamccipoioaaB
open Go.RowKit Go.Proofs.YtfkiamccipoioaaW.PrintWords Go.Proofs.YtfkiamccipoioaaW.PrintLast Go.Proofs.YtfkiamccipoioaaW.PrintMore Go.Proofs.Ytfkiamccipoioaa.P

theorem search_both {n : List Int} {ys : List (List Int)} : ∀ (m i : Nat) (L : List (List Int)) (P : List (Int × Int)) (W : List (List Int)), 256 ≤ m + i → i ≤ L.length → AllInv n ys L P W →
    ∃ L' P' W', AllInv n ys L' P' W' ∧ Ev (fun k => impl_reachedSets.l0 k (eX L) W i n ys) (eX L', W') ∧ Ev (fun k => spec_l20All.l0 k (eS L) (eB P) (eL P) (seenL L) (i : Int) n ys) (eS L', eB P', eL P') ∧ (∀ l, L[0]? = some l → L'[0]? = some l) := by
  intro m
  induction m with
  | zero =>
    intro i L P W hm hi hI
    have hfew := hI.few
    have hxl : (eX L).length = L.length := List.length_map ..
    have hsl : (eS L).length = L.length := List.length_map ..
    exact ⟨L, P, W, hI, Ev.step (fun k => by rw [impl_reachedSets.l0]) (ev_neg (by omega) (Ev.now _)), Ev.step (fun k => by rw [spec_l20All.l0]) (ev_neg (by omega) (Ev.now _)), fun _ h => h⟩
  | succ m ih =>
    intro i L P W hm hi hI
    have hfew := hI.few
    have hxl : (eX L).length = L.length := List.length_map ..
    have hsl : (eS L).length = L.length := List.length_map ..
    by_cases hlt : i < L.length
    · obtain ⟨l, hl⟩ : ∃ l, L[i]? = some l := ⟨_, List.getElem?_eq_getElem hlt⟩
      have hok := hI.ok l (List.mem_of_getElem? hl)
      obtain ⟨L1, P1, W1, h1, h2, h3, h4, h5⟩ : ∃ L' P' W', AllInv n ys L' P' W' ∧ L'[i]? = some l ∧ _ ∧ _ ∧ (∀ q, L[0]? = some q → L'[0]? = some q) := row_both0 n.length 0 L P W [] (by omega) hI hl rfl
      have hil := (List.getElem?_eq_some_iff.1 h2).1
      obtain ⟨L', P', W', g1, g2, g3, g4⟩ := ih (i + 1) L1 P1 W1 (by omega) (by omega) h1
      refine ⟨L', P', W', g1, Ev.step (fun k => by rw [impl_reachedSets.l0]) (ev_pos (by omega) (h3 _ g2)), Ev.step (fun k => by rw [spec_l20All.l0]) (ev_pos (by omega) (ev_pos (by omega) ?_)), fun q hq => g4 q (h5 q hq)⟩
      rw [rd_eS hl]
      refine Ev.bind (a := chF n ys l n.length 0) ?_ (h4 _ g3)
      have hb : bytesOf (strOfNums l) = l := strOf_bytes hok.fast
      unfold spec_l20Changes.f
      have hok2 : DeckOk n ys (bytesOf (strOfNums l)) := by rw [hb]; exact hok
      have := changes_spec hok2 n.length 0 [] (by omega) (Nat.le_refl _)
      rw [hb, List.nil_append] at this
      exact this
    · exact ⟨L, P, W, hI, Ev.step (fun k => by rw [impl_reachedSets.l0]) (ev_neg (by omega) (Ev.now _)), Ev.step (fun k => by rw [spec_l20All.l0]) (ev_neg (by omega) (Ev.now _)), fun _ h => h⟩
theorem all_both {n : List Int} {ys : List (List Int)} (s : ByteArray) (hok : DeckOk n ys (bytesOf s)) :
    ∃ L P W, AllInv n ys L P W ∧ Ev (fun k => impl_reachedSets.f k n ys ((setN (bytesOf s) : Nat) : Int)) (eX L, W) ∧ Ev (fun k => spec_l20All.f k n ys s) (eS L, eB P, eL P) ∧ L[0]? = some (bytesOf s) := by
  have hn8 := hok.few
  have hlen := hok.len
  have hbl := bytes_length s
  have hss : strOfNums (bytesOf s) = s := bytes_strOf s hok.fast
  have hI : AllInv n ys [bytesOf s] [((-1 : Int), (-1 : Int))] [[]] := by
    refine ⟨fun l hl => ?_, by simp, rfl, rfl, rfl, fun t => ?_, fun t h0 ht => ?_⟩
    · rw [List.mem_singleton.1 hl]; exact hok
    · cases t with
      | zero => exact Nat.le_refl _
      | succ t => exact Nat.zero_le _
    · rw [List.length_singleton] at ht; omega
  obtain ⟨L, P, W, h1, h2, h3, h4⟩ := search_both 256 0 [bytesOf s] [((-1 : Int), (-1 : Int))] [[]] (by omega) (by omega) hI
  have hnum : numN (bytesOf s) < 256 := by
    have h1 := numN_lt (bytesOf s)
    have h3 : 2 ^ (bytesOf s).length ≤ 2 ^ 8 := Nat.pow_le_pow_right (by decide) (by omega)
    have h4 : (2 : Nat) ^ 8 = 256 := by decide
    omega
  refine ⟨L, P, W, h1, ?_, ?_, h4 _ rfl⟩
  · unfold impl_reachedSets.f
    exact ev_pos ⟨by omega, wf_set (by omega)⟩ h2
  · unfold spec_l20All.f
    have hl0 : (List.replicate 256 false : List Bool).length = 256 := List.length_replicate ..
    refine ev_pos (by decide) (Ev.bind (Ev.now _) (Ev.bind (number_ev s (by omega)) (ev_pos (by omega) (ev_pos (by rw [hl0]; omega) ?_))))
    have e : (List.replicate 256 false : List Bool).set (numN (bytesOf s)) true = seenL [bytesOf s] := by
      have e0 : (List.replicate 256 false : List Bool) = seenL [] := by
        apply List.ext_getElem
        · rw [List.length_replicate, seenL_length]
        · intro i h1 h2
          rw [List.getElem_replicate, seenL_get]
          simp
      rw [e0]
      exact seenL_set [] (bytesOf s) hnum
    rw [Int.toNat_natCast, e]
    have e1 : eS [bytesOf s] = [s] := by unfold eS; rw [List.map_cons, List.map_nil, hss]
    rw [e1] at h3
    exact h3
theorem ReachedStates_both (n : List Int) (ys : List (List Int)) (s : ByteArray) (hg : GoodDeck n ys) (hs : s.size ≤ 1048576) : Both (fun _ => True) (fun k => spec_ReachedStates.f k n ys s) (fun k => impl_ReachedStates.f k n ys s) := by
  unfold spec_ReachedStates.f impl_ReachedStates.f
  refine both_bindL (spec_codeD n ys s hg hs) (both_bindR (impl_codeD n ys s hg hs) ?_)
  by_cases hc : codeD n ys s = 0
  · have hok := deckOk_of n ys s hg hc
    have hfew := hok.few
    have hlen := hok.len
    have hbl := bytes_length s
    obtain ⟨L, P, W, h1, h2, h3, _⟩ := all_both s hok
    have hxl : (eX L).length = L.length := List.length_map ..
    have hsl : (eS L).length = L.length := List.length_map ..
    refine both_posL hc (both_posR hc (both_of (r := ((L.length : Int), 0)) (Ev.bind h3 (ev_of (Ev.now _) ?_)) (Ev.bind (set_ev s (by omega)) (Ev.bind h2 (ev_of (Ev.now _) ?_))) trivial))
    · show ((((eS L).length : Int), (0 : Int))) = _
      rw [hsl]
    · show ((((eX L).length : Int), (0 : Int))) = _
      rw [hxl]
  · exact both_negL hc (both_negR hc (both_now _ trivial))
end Go.Proofs.YtfkiamccipoioaaB
end

section
/- FnExactReachedStates: its plain statement, over lists and numbers. -/
namespace Go.Proofs.Ytfkiamccipoioaa.Pure
open Go.RowKit Go.Proofs.Ytfkiamccipoioaa.P Go.Proofs.YtfkiamccipoioaaW.PrintWords Go.Proofs.YtfkiamccipoioaaW.PrintLast Go.Proofs.YtfkiamccipoioaaB

theorem FnExactReachedStates : ∀ (x0 : S25) (x1 : ByteArray), ((x0.f0.length ≤ maxLen ∧ ∀ x_ ∈ x0.f0, (Lit.int .i64 x_).wf = true) ∧ (x0.f1.length ≤ maxLen ∧ ∀ x_ ∈ x0.f1, (x_.length ≤ maxLen ∧ ∀ x_x_ ∈ x_, (Lit.int .i64 x_x_).wf = true))) → x1.size ≤ maxLen → ∃ k, laws_FnExactReachedStates.f k x0.f0 x0.f1 x1 = some true := by
  intro x0 x1 h0 h1
  refine Ev.rounds (g := fun k => laws_FnExactReachedStates.f k x0.f0 x0.f1 x1) ?_
  unfold laws_FnExactReachedStates.f
  refine ev_ite (fun _ => Ev.now _) (fun z1 => ?_)
  obtain ⟨r0, e0, c0⟩ := szDeck_ev x0.f0 x0.f1 h0.1 h0.2
  refine Ev.bind e0 (ev_ite (fun _ => Ev.now _) (fun n0 => ?_))
  have g0 := c0 (by omega)
  obtain ⟨v, hs, hi, hp⟩ := ReachedStates_both x0.f0 x0.f1 x1 g0 (by omega)
  repeat (first | exact Ev.now _ | (refine ev_pos rfl ?_) | (refine Ev.bind hs ?_) | (refine Ev.bind hi ?_) | (refine Ev.bind (toDeck_ev _ _ g0) ?_) | (refine Ev.bind (eqDeck_refl _ _ g0) ?_) | (refine ev_neg (by first | (simp; done) | (simp; omega)) ?_))

end Go.Proofs.Ytfkiamccipoioaa.Pure
end

section
/- The law FnExactReachedStates: for every input it returns true and its arguments read as before: the row, out of its plain statement and the printed contracts. No condition beside the form's own. -/
namespace Go.Proofs.Ytfkiamccipoioaa.fnExactReachedStates
open Go.ChangeShapes Go.WideShapes Go.ChangeAt Go.RowKit
open Go.ChangeMaps (open_string shut_string)
open Go.Proofs.Ytfkiamccipoioaa.P Go.Proofs.YtfkiamccipoioaaOp Go.Proofs.YtfkiamccipoioaaW.PrintWords Go.Proofs.YtfkiamccipoioaaW.PrintLast
set_option linter.unusedVariables false
theorem own : ownKnob Try.prog.godebug = none := by kernel_rfl
theorem laidOut : laidOutB Try.prog = true := by kernel_rfl
set_option maxRecDepth 100000 in
theorem lifted (os : Os) (started : os.Started) (H : Type) (enc : TypeId × Value → H) :
    ReturnsInHanded {} Try.checked os 10 .any (Rows.fnExactReachedStatesSpec.pre6 enc Try.prog Try.f10 Rows.fnExactReachedStatesRow.domain false) (Rows.fnExactReachedStatesSpec.post enc Try.prog Try.f10 false true false false) := by
  refine returnsInHanded_of_change_sized (C := Try.checked) own started (by kernel_rfl) Try.func10
    (ChangeSpec.witness6 (enc := enc) (C := Try.checked) false ⟨#[], #[.agg #[.slice none 0 0, .slice none 0 0], .string ByteArray.empty], []⟩ 8 (by kernel_rfl) (by kernel_rfl) (by kernel_rfl) (by kernel_rfl)) ?_
  intro W base args ds gs before hval0 hW hcnd hsz0 _
  have hval : ∀ (j : Nat) t v, Try.f10.params[j]? = some t → args[j]? = some v → Value.okWide Try.prog W .any base t v := hval0
  have hW' := hW
  obtain ⟨p, q, hA0, hV, rfl, hfz, hnd⟩ := hW
  have hA : DataW.TrodAll enc Try.prog W 0 (fun _ => true) true Try.f10.params.toList args.toList ds p := hA0
  rw [Try.params10] at hA hval
  obtain ⟨v0, vs0, d0, ds0, p0, q0, hargs, rfl, rfl, h0, r0⟩ := trodAll_cons hA
  obtain ⟨v1, vs1, d1, ds1, p1, q1, rfl, rfl, rfl, h1, r1⟩ := trodAll_cons r0
  obtain ⟨rfl, rfl, rfl⟩ := trodAll_nil r1
  obtain rfl : args = #[v0, v1] := by cases args; simp_all
  obtain ⟨rfl, rfl⟩ := trodVars_none hV
  have k0 := h0
  have lt0 : ∀ x ∈ p0, x.block < W.heap.size := by obtain ⟨m, hm⟩ := k0; exact DataW.trod_lt m _ _ _ hm
  obtain ⟨cs0, rfl, hs0⟩ := okWide_struct Try.underlying25 (hval 0 25 v0 rfl rfl)
  obtain ⟨x0, K0, Q0⟩ := arg_struct (d := k25) (opens_iso (opens_struct Try.underlying25 (by kernel_rfl) (opens_cons (opens_slice Try.underlying22 (opens_int Try.underlying2) (by kernel_rfl) 2) rfl (by kernel_rfl) (opens_last (opens_slice Try.underlying23 (opens_slice Try.underlying22 (opens_int Try.underlying2) (by kernel_rfl) 2) (by kernel_rfl) 22) rfl (by kernel_rfl)))) (fun x : S25 => (x.f0, x.f1)) (fun p => ⟨p.1, p.2⟩) (fun _ => rfl)) h0
  obtain ⟨A0_0, c0_0, A0_1, c0_1, e0, hl0_0, C0_0, hl0_1, C0_1⟩ := k25_open K0
  obtain rfl : cs0 = #[.slice A0_0 x0.f0.length c0_0, .slice A0_1 x0.f1.length c0_1] := by cases cs0; simpa using e0
  have k1 := h1
  have lt1 : ∀ x ∈ p1, x.block < W.heap.size := by obtain ⟨m, hm⟩ := k1; exact DataW.trod_lt m _ _ _ hm
  obtain ⟨x1, rfl, rfl, rfl, Q1⟩ := open_string Try.underlying9 (hval 1 9 v1 rfl rfl) h1
  clear hA0 hval0 hsz0
  obtain ⟨k, h⟩ := Pure.FnExactReachedStates x0 x1 Q0 Q1
  refine (laws_FnExactReachedStates.calls k A0_0 c0_0 x0.f0 A0_1 c0_1 x0.f1 x1 true W C0_0 hl0_0 C0_1 hl0_1 h).mono fun e W' hpost => ?_
  obtain ⟨he, bel⟩ : e = .returned (.bool true) ∧ Below W.heap.size W W' := hpost
  subst he
  exact ⟨_, rfl, _, _, _, [], _, [], hW', trodAll_mk1 (shut_bool Try.underlying4 _), (trodAll_cons_mk (Below.trod laidOut (by kernel_rfl) (of_decide_eq_true (by kernel_rfl)) k0 bel lt0) (trodAll_cons_mk (shut_string Try.underlying9 Q1) trodAll_mk0)), rfl, bel.frame _, fun h => by cases h⟩
theorem over : Rows.fnExactReachedStatesRow.holds Try.pinned (OpenSpec.ofChange Rows.fnExactReachedStatesSpec) :=
  OpenClaim.holds_of_wide 10 Try.f10 rfl rfl rfl rfl rfl rfl rfl ⟨rfl, rfl, rfl, rfl, rfl⟩ rfl rfl rfl rfl rfl (by kernel_rfl) Try.func10 (by kernel_rfl)
    (of_decide_eq_true (by kernel_rfl)) (by unfold Func.isWrapper; first | (rw [if_pos (by decide +kernel)]; kernel_rfl) | (rw [if_neg (by decide +kernel)]; exact ⟨rfl, rfl⟩))
    (fun os started H enc _ => lifted os started H enc)
theorem proved : Rows.FnExactReachedStatesSaid := over
#print axioms proved
end Go.Proofs.Ytfkiamccipoioaa.fnExactReachedStates
namespace Go.Proofs.Ytfkiamccipoioaa
/-- The row, under a short name, for the claim. -/
theorem fnExactReachedStates_holds : Rows.FnExactReachedStatesSaid := fnExactReachedStates.proved
end Go.Proofs.Ytfkiamccipoioaa
end
