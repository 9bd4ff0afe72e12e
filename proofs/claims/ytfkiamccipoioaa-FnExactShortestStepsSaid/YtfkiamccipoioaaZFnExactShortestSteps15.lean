/- The law FnExactShortestSteps: for every input it returns true and its arguments read as before: the row, out of its plain statement and the printed contracts. No condition beside the form's own. -/
import Derived.Test.YtfkiamccipoioaaRows
import Derived.WalkKit
import Derived.ProofKit
import Derived.OpenShut
import Derived.ShutString
import Derived.ChangeOld
import Derived.Below
import Derived.SizedLaws
import Derived.Test.YtfkiamccipoioaaZFnExactShortestSteps14
section
/- ShortestSteps, of both. -/
namespace Go.Proofs.YtfkiamccipoioaaB
open Go.RowKit Go.Proofs.YtfkiamccipoioaaW.PrintWords Go.Proofs.YtfkiamccipoioaaW.PrintLast Go.Proofs.YtfkiamccipoioaaW.PrintMore Go.Proofs.Ytfkiamccipoioaa.P

theorem impl_code2 (n : List Int) (ys : List (List Int)) (s t : ByteArray) (hg : GoodDeck n ys) (hs : s.size ≤ 1048576) (ht : t.size ≤ 1048576) :
    Ev (fun k => impl_deckCode.f k n ys [s, t]) (if codeD n ys s = 0 then codeD n ys t else codeD n ys s) := by
  unfold impl_deckCode.f codeD
  refine Ev.bind (impl_deck n ys hg) (ev_ite (fun h => ?_) (fun h => ?_))
  · rw [if_pos h, if_pos h]
    refine Ev.step (fun k => by rw [impl_deckCode.l0]) (ev_pos (by simp) (ev_pos (by omega) (ev_pos (by simp) ?_)))
    have e : rdOf ByteArray.empty [s, t] 0 = s := rfl
    rw [e]
    refine Ev.bind (impl_state n ys s hs) (ev_ite (fun h2 => ?_) (fun h2 => ?_))
    · rw [if_pos h2, if_pos rfl]
      have w1 : wrap64 (0 + 1) = 1 := by rw [wrap_small (by omega) (by omega)]; rfl
      rw [w1]
      refine Ev.step (fun k => by rw [impl_deckCode.l0]) (ev_pos (by simp) (ev_pos (by omega) (ev_pos (by simp) ?_)))
      have e2 : rdOf ByteArray.empty [s, t] 1 = t := rfl
      rw [e2]
      refine Ev.bind (impl_state n ys t ht) (ev_ite (fun h3 => ?_) (fun h3 => ?_))
      · rw [if_pos h3]
        exact Ev.step (fun k => by rw [impl_deckCode.l0]) (ev_neg (by simp [wrap64]) (Ev.now _))
      · rw [if_neg h3]; exact Ev.now _
    · rw [if_neg h2]
      exact ev_of (Ev.now _) (by rw [if_neg (by decide)])
  · rw [if_neg h, if_neg h]
    exact ev_of (Ev.now _) (by rw [if_neg (by decide)])
section
variable {n : List Int} {ys L : List (List Int)} {P : List (Int × Int)} {W : List (List Int)} (hI : AllInv n ys L P W)
include hI
theorem rd_eB (i : Nat) (hi : i < L.length) : rd (eB P) (i : Int) = (P.getD i (0, 0)).1 ∧ rd (eL P) (i : Int) = (P.getD i (0, 0)).2 := by
  have hp := hI.pl
  have h : i < P.length := by omega
  refine ⟨?_, ?_⟩
  · show (eB P).getD ((i : Int)).toNat 0 = _
    rw [Int.toNat_natCast, List.getD_eq_getElem?_getD, List.getD_eq_getElem?_getD]
    unfold eB
    rw [List.getElem?_map, List.getElem?_eq_getElem h]
    rfl
  · show (eL P).getD ((i : Int)).toNat 0 = _
    rw [Int.toNat_natCast, List.getD_eq_getElem?_getD, List.getD_eq_getElem?_getD]
    unfold eL
    rw [List.getElem?_map, List.getElem?_eq_getElem h]
    rfl
theorem path_ev : ∀ (m i : Nat) (acc : List Int), i ≤ m → i < L.length → acc.length + i ≤ 300 → Ev (fun k => spec_ShortestSteps.l1 k (eB P) (eL P) acc (i : Int)) (W.getD i [] ++ acc, 0) := by
  have hp := hI.pl
  have hfew := hI.few
  have hbl : (eB P).length = L.length := by unfold eB; rw [List.length_map]; exact hp
  have hll : (eL P).length = L.length := by unfold eL; rw [List.length_map]; exact hp
  intro m
  induction m with
  | zero =>
    intro i acc hm hi ha
    have e : i = 0 := by omega
    subst e
    refine Ev.step (fun k => by rw [spec_ShortestSteps.l1]) (ev_neg (by omega) (ev_of (Ev.now _) ?_))
    rw [hI.zero, List.nil_append]
  | succ m ih =>
    intro i acc hm hi ha
    by_cases h0 : i = 0
    · subst h0
      refine Ev.step (fun k => by rw [spec_ShortestSteps.l1]) (ev_neg (by omega) (ev_of (Ev.now _) ?_))
      rw [hI.zero, List.nil_append]
    · obtain ⟨b, hb, h1, h2⟩ := hI.path i (by omega) hi
      obtain ⟨hr1, hr2⟩ := rd_eB hI i hi
      refine Ev.step (fun k => by rw [spec_ShortestSteps.l1]) ?_
      refine ev_pos (by omega) (ev_pos (by omega) (ev_pos (by omega) (Ev.bind (Ev.now _) (ev_pos (by simp; omega) (ev_pos (by omega) ?_)))))
      rw [hr1, hr2, h1, h2, List.append_assoc]
      exact ih b ([(P.getD i (0, 0)).2] ++ acc) (by omega) (by omega) (by rw [List.length_append, List.length_singleton]; omega)
theorem find_both {t : ByteArray} (ht : DeckOk n ys (bytesOf t)) : ∀ (xs p : List (List Int)), L = p ++ xs →
    ∃ q, Ev (fun k => slices_Index_int_int.l0 k (eX L) ((setN (bytesOf t) : Nat) : Int) ((eX L).length : Int) (p.length : Int)) q ∧ Ev (fun k => spec_ShortestSteps.l0 k t (eS L) (eB P) (eL P) (p.length : Int)) (if q < 0 then ([], 3) else (W.getD q.toNat [], 0)) ∧ (0 ≤ q → q < (L.length : Int)) := by
  have hfew := hI.few
  have hxl : (eX L).length = L.length := List.length_map ..
  have hsl : (eS L).length = L.length := List.length_map ..
  intro xs
  induction xs with
  | nil =>
    intro p hp
    rw [List.append_nil] at hp
    refine ⟨-1, Ev.step (fun k => by rw [slices_Index_int_int.l0]) (ev_neg (by rw [hxl, hp]; omega) (Ev.now _)), Ev.step (fun k => by rw [spec_ShortestSteps.l0]) ?_, fun h => absurd h (by decide)⟩
    exact ev_neg (by rw [hsl, hp]; omega) (ev_of (Ev.now _) (by rw [if_pos (by decide)]))
  | cons x xs ih =>
    intro p hp
    have hpl : p.length < L.length := by rw [hp]; simp
    have hx : L[p.length]? = some x := by rw [hp]; simp
    have hokx := hI.ok x (List.mem_of_getElem? hx)
    have hbt : strOfNums (bytesOf t) = t := bytes_strOf t ht.fast
    by_cases he : x = bytesOf t
    · refine ⟨(p.length : Int), Ev.step (fun k => by rw [slices_Index_int_int.l0]) (ev_pos (by omega) (ev_pos (by omega) (ev_pos (by omega) (ev_pos (by rw [rd_eX hx, he]) (Ev.now _))))), ?_, fun _ => by omega⟩
      refine Ev.step (fun k => by rw [spec_ShortestSteps.l0]) (ev_pos (by omega) (ev_pos (by omega) (ev_pos (by rw [rd_eS hx, he, hbt]) ?_)))
      rw [if_neg (by omega), Int.toNat_natCast]
      have := path_ev hI p.length p.length [] (Nat.le_refl _) hpl (by simp; omega)
      rw [List.append_nil] at this
      exact this
    · obtain ⟨q, h1, h2, h3⟩ := ih (p ++ [x]) (by rw [hp]; simp)
      have hw : wrap64 ((p.length : Int) + 1) = ((p ++ [x]).length : Int) := wrap_next p x (by omega)
      refine ⟨q, Ev.step (fun k => by rw [slices_Index_int_int.l0]) (ev_pos (by omega) (ev_pos (by omega) (ev_pos (by omega) (ev_neg ?_ (by rw [hw]; exact h1))))), Ev.step (fun k => by rw [spec_ShortestSteps.l0]) (ev_pos (by omega) (ev_pos (by omega) (ev_neg ?_ (by rw [hw]; exact h2)))), h3⟩
      · rw [rd_eX hx]
        intro e
        exact he (setN_inj x (bytesOf t) (by rw [hokx.len, ht.len]) hokx.fast ht.fast (by exact_mod_cast e.symm))
      · rw [rd_eS hx]
        intro e
        have e2 : strOfNums x = t := toList_inj e
        exact he (by rw [← e2]; exact (strOf_bytes hokx.fast).symm)
end
theorem ShortestSteps_both (n : List Int) (ys : List (List Int)) (s t : ByteArray) (hg : GoodDeck n ys) (hs : s.size ≤ 1048576) (ht : t.size ≤ 1048576) : Both (fun r => r.1.length ≤ 1048576) (fun k => spec_ShortestSteps.f k n ys s t) (fun k => impl_ShortestSteps.f k n ys s t) := by
  unfold spec_ShortestSteps.f impl_ShortestSteps.f
  refine both_bindL (spec_codeD n ys s hg hs) (both_bindR (impl_code2 n ys s t hg hs ht) ?_)
  by_cases hc : codeD n ys s = 0
  · rw [if_pos hc]
    refine both_posL hc (both_bindL (spec_codeD n ys t hg ht) ?_)
    by_cases hd : codeD n ys t = 0
    · have hok := deckOk_of n ys s hg hc
      have hokt := deckOk_of n ys t hg hd
      have hfew := hok.few
      have hlen := hok.len
      have hbl := bytes_length s
      have hbt := bytes_length t
      have hlt := hokt.len
      obtain ⟨L, P, W, h1, h2, h3, _⟩ := all_both s hok
      obtain ⟨q, g1, g2, g3⟩ := find_both h1 hokt L [] rfl
      have hfl := h1.few
      have hwl := h1.wl
      refine both_posR hd (both_of (r := if q < 0 then ([], 3) else (W.getD q.toNat [], 0)) (Ev.step (fun k => by rw [spec_ShortestSteps.j0]) (ev_pos hd (Ev.bind h3 g2))) (Ev.bind (set_ev s (by omega)) (Ev.bind h2 (Ev.bind (set_ev t (by omega)) (Ev.bind (a := q) (by unfold slices_Index_int_int.f; exact g1) ?_)))) ?_)
      · by_cases hq : q < 0
        · exact ev_pos hq (ev_of (Ev.now _) (by rw [if_pos hq]))
        · have := g3 (by omega)
          exact ev_neg hq (ev_pos (by show q < (W.length : Int); omega) (ev_of (Ev.now _) (by rw [if_neg hq]; rfl)))
      · by_cases hq : q < 0
        · rw [if_pos hq]; simp
        · rw [if_neg hq]
          have := g3 (by omega)
          have := h1.way q.toNat
          show (W.getD q.toNat []).length ≤ 1048576
          omega
    · exact both_negR hd (both_stepL (fun k => by rw [spec_ShortestSteps.j0]) (both_negL hd (both_now _ (by simp))))
  · rw [if_neg hc]
    exact both_negL hc (both_negR hc (both_stepL (fun k => by rw [spec_ShortestSteps.j0]) (both_negL hc (both_now _ (by simp)))))
end Go.Proofs.YtfkiamccipoioaaB
end

section
/- FnExactShortestSteps: its plain statement, over lists and numbers. -/
namespace Go.Proofs.Ytfkiamccipoioaa.Pure
open Go.RowKit Go.Proofs.Ytfkiamccipoioaa.P Go.Proofs.YtfkiamccipoioaaW.PrintWords Go.Proofs.YtfkiamccipoioaaW.PrintLast Go.Proofs.YtfkiamccipoioaaB

theorem FnExactShortestSteps : ∀ (x0 : S25) (x1 : ByteArray) (x2 : ByteArray), ((x0.f0.length ≤ maxLen ∧ ∀ x_ ∈ x0.f0, (Lit.int .i64 x_).wf = true) ∧ (x0.f1.length ≤ maxLen ∧ ∀ x_ ∈ x0.f1, (x_.length ≤ maxLen ∧ ∀ x_x_ ∈ x_, (Lit.int .i64 x_x_).wf = true))) → x1.size ≤ maxLen → x2.size ≤ maxLen → ∃ k, laws_FnExactShortestSteps.f k x0.f0 x0.f1 x1 x2 = some true := by
  intro x0 x1 x2 h0 h1 h2
  refine Ev.rounds (g := fun k => laws_FnExactShortestSteps.f k x0.f0 x0.f1 x1 x2) ?_
  unfold laws_FnExactShortestSteps.f
  refine ev_ite (fun _ => Ev.now _) (fun z1 => ?_)
  refine ev_ite (fun _ => Ev.now _) (fun z2 => ?_)
  obtain ⟨r0, e0, c0⟩ := szDeck_ev x0.f0 x0.f1 h0.1 h0.2
  refine Ev.bind e0 (ev_ite (fun _ => Ev.now _) (fun n0 => ?_))
  have g0 := c0 (by omega)
  obtain ⟨v, hs, hi, hp⟩ := ShortestSteps_both x0.f0 x0.f1 x1 x2 g0 (by omega) (by omega)
  obtain ⟨m1, hm1, hm1n⟩ := markDeck_ok x0.f0 x0.f1 g0
  repeat (first | exact Ev.now _ | (refine ev_pos rfl ?_) | (refine Ev.bind hs ?_) | (refine Ev.bind hi ?_) | (refine Ev.bind (toDeck_ev _ _ g0) ?_) | (refine Ev.bind (eqDeck_refl _ _ g0) ?_) | (refine Ev.bind (eqInt64S_refl _ (by omega)) ?_) | (refine Ev.bind (markInt64S_ev _ (by omega)) ?_) | (refine Ev.bind (heldInt64S_ev _ (by omega)) ?_) | (refine ev_bind0 hm1 ?_) | (refine ev_neg hm1n ?_) | (refine ev_neg (by first | (simp; done) | (simp; omega)) ?_))

end Go.Proofs.Ytfkiamccipoioaa.Pure
end

section
/- The law FnExactShortestSteps: for every input it returns true and its arguments read as before: the row, out of its plain statement and the printed contracts. No condition beside the form's own. -/
namespace Go.Proofs.Ytfkiamccipoioaa.fnExactShortestSteps
open Go.ChangeShapes Go.WideShapes Go.ChangeAt Go.RowKit
open Go.ChangeMaps (open_string shut_string)
open Go.Proofs.Ytfkiamccipoioaa.P Go.Proofs.YtfkiamccipoioaaOp Go.Proofs.YtfkiamccipoioaaW.PrintWords Go.Proofs.YtfkiamccipoioaaW.PrintLast
set_option linter.unusedVariables false
theorem own : ownKnob Try.prog.godebug = none := by kernel_rfl
theorem laidOut : laidOutB Try.prog = true := by kernel_rfl
set_option maxRecDepth 100000 in
theorem lifted (os : Os) (started : os.Started) (H : Type) (enc : TypeId × Value → H) :
    ReturnsInHanded {} Try.checked os 11 .any (Rows.fnExactShortestStepsSpec.pre6 enc Try.prog Try.f11 Rows.fnExactShortestStepsRow.domain false) (Rows.fnExactShortestStepsSpec.post enc Try.prog Try.f11 false true false false) := by
  refine returnsInHanded_of_change_sized (C := Try.checked) own started (by kernel_rfl) Try.func11
    (ChangeSpec.witness6 (enc := enc) (C := Try.checked) false ⟨#[], #[.agg #[.slice none 0 0, .slice none 0 0], .string ByteArray.empty, .string ByteArray.empty], []⟩ 8 (by kernel_rfl) (by kernel_rfl) (by kernel_rfl) (by kernel_rfl)) ?_
  intro W base args ds gs before hval0 hW hcnd hsz0 _
  have hval : ∀ (j : Nat) t v, Try.f11.params[j]? = some t → args[j]? = some v → Value.okWide Try.prog W .any base t v := hval0
  have hW' := hW
  obtain ⟨p, q, hA0, hV, rfl, hfz, hnd⟩ := hW
  have hA : DataW.TrodAll enc Try.prog W 0 (fun _ => true) true Try.f11.params.toList args.toList ds p := hA0
  rw [Try.params11] at hA hval
  obtain ⟨v0, vs0, d0, ds0, p0, q0, hargs, rfl, rfl, h0, r0⟩ := trodAll_cons hA
  obtain ⟨v1, vs1, d1, ds1, p1, q1, rfl, rfl, rfl, h1, r1⟩ := trodAll_cons r0
  obtain ⟨v2, vs2, d2, ds2, p2, q2, rfl, rfl, rfl, h2, r2⟩ := trodAll_cons r1
  obtain ⟨rfl, rfl, rfl⟩ := trodAll_nil r2
  obtain rfl : args = #[v0, v1, v2] := by cases args; simp_all
  obtain ⟨rfl, rfl⟩ := trodVars_none hV
  have k0 := h0
  have lt0 : ∀ x ∈ p0, x.block < W.heap.size := by obtain ⟨m, hm⟩ := k0; exact DataW.trod_lt m _ _ _ hm
  obtain ⟨cs0, rfl, hs0⟩ := okWide_struct Try.underlying25 (hval 0 25 v0 rfl rfl)
  obtain ⟨x0, K0, Q0⟩ := arg_struct (d := k25) (opens_iso (opens_struct Try.underlying25 (by kernel_rfl) (opens_cons (opens_slice Try.underlying22 (opens_int Try.underlying2) (by kernel_rfl) 2) rfl (by kernel_rfl) (opens_last (opens_slice Try.underlying23 (opens_slice Try.underlying22 (opens_int Try.underlying2) (by kernel_rfl) 2) (by kernel_rfl) 22) rfl (by kernel_rfl)))) (fun x : S25 => (x.f0, x.f1)) (fun p => ⟨p.1, p.2⟩) (fun _ => rfl)) h0
  obtain ⟨A0_0, c0_0, A0_1, c0_1, e0, hl0_0, C0_0, hl0_1, C0_1⟩ := k25_open K0
  obtain rfl : cs0 = #[.slice A0_0 x0.f0.length c0_0, .slice A0_1 x0.f1.length c0_1] := by cases cs0; simpa using e0
  have k1 := h1
  have lt1 : ∀ x ∈ p1, x.block < W.heap.size := by obtain ⟨m, hm⟩ := k1; exact DataW.trod_lt m _ _ _ hm
  obtain ⟨x1, rfl, rfl, rfl, Q1⟩ := open_string Try.underlying9 (hval 1 9 v1 rfl rfl) h1
  have k2 := h2
  have lt2 : ∀ x ∈ p2, x.block < W.heap.size := by obtain ⟨m, hm⟩ := k2; exact DataW.trod_lt m _ _ _ hm
  obtain ⟨x2, rfl, rfl, rfl, Q2⟩ := open_string Try.underlying9 (hval 2 9 v2 rfl rfl) h2
  clear hA0 hval0 hsz0
  obtain ⟨k, h⟩ := Pure.FnExactShortestSteps x0 x1 x2 Q0 Q1 Q2
  refine (laws_FnExactShortestSteps.calls k A0_0 c0_0 x0.f0 A0_1 c0_1 x0.f1 x1 x2 true W C0_0 hl0_0 C0_1 hl0_1 h).mono fun e W' hpost => ?_
  obtain ⟨he, bel⟩ : e = .returned (.bool true) ∧ Below W.heap.size W W' := hpost
  subst he
  exact ⟨_, rfl, _, _, _, [], _, [], hW', trodAll_mk1 (shut_bool Try.underlying4 _), (trodAll_cons_mk (Below.trod laidOut (by kernel_rfl) (of_decide_eq_true (by kernel_rfl)) k0 bel lt0) (trodAll_cons_mk (shut_string Try.underlying9 Q1) (trodAll_cons_mk (shut_string Try.underlying9 Q2) trodAll_mk0))), rfl, bel.frame _, fun h => by cases h⟩
theorem over : Rows.fnExactShortestStepsRow.holds Try.pinned (OpenSpec.ofChange Rows.fnExactShortestStepsSpec) :=
  OpenClaim.holds_of_wide 11 Try.f11 rfl rfl rfl rfl rfl rfl rfl ⟨rfl, rfl, rfl, rfl, rfl⟩ rfl rfl rfl rfl rfl (by kernel_rfl) Try.func11 (by kernel_rfl)
    (of_decide_eq_true (by kernel_rfl)) (by unfold Func.isWrapper; first | (rw [if_pos (by decide +kernel)]; kernel_rfl) | (rw [if_neg (by decide +kernel)]; exact ⟨rfl, rfl⟩))
    (fun os started H enc _ => lifted os started H enc)
theorem proved : Rows.FnExactShortestStepsSaid := over
#print axioms proved
end Go.Proofs.Ytfkiamccipoioaa.fnExactShortestSteps
namespace Go.Proofs.Ytfkiamccipoioaa
/-- The row, under a short name, for the claim. -/
theorem fnExactShortestSteps_holds : Rows.FnExactShortestStepsSaid := fnExactShortestSteps.proved
end Go.Proofs.Ytfkiamccipoioaa
end
