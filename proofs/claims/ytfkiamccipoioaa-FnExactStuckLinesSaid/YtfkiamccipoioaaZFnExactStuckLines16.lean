/- The law FnExactStuckLines: for every input it returns true and its arguments read as before: the row, out of its plain statement and the printed contracts. No condition beside the form's own. -/
import Derived.Test.YtfkiamccipoioaaRows
import Derived.WalkKit
import Derived.ProofKit
import Derived.OpenShut
import Derived.ShutString
import Derived.ChangeOld
import Derived.Below
import Derived.SizedLaws
import Derived.Test.YtfkiamccipoioaaZFnExactStuckLines15
section
/- StuckLines, of both. -/
namespace Go.Proofs.YtfkiamccipoioaaB
open Go.RowKit Go.Proofs.YtfkiamccipoioaaW.PrintWords Go.Proofs.YtfkiamccipoioaaW.PrintLast Go.Proofs.YtfkiamccipoioaaW.PrintMore Go.Proofs.Ytfkiamccipoioaa.P

section
variable {n : List Int} {ys L : List (List Int)} {P : List (Int × Int)} {W : List (List Int)} (hI : AllInv n ys L P W)
include hI
/-- One line: the first state that allows it. -/
theorem stuck_line (j : Nat) (hj : j < n.length) (hn8 : n.length ≤ 1048576) (s : ByteArray) (out : List Int) : ∀ (xs p : List (List Int)), L = p ++ xs →
    ∃ q : Int, Ev (fun k => stuckGo k n ys (j : Int) (eX xs) (p.length : Int)) q ∧
      (∀ r, Ev (fun k => spec_StuckLines.l0 k s (eS L) (if 0 ≤ q then out else out ++ [(j : Int)]) ((j + 1 : Nat) : Int) n ys) r → out.length ≤ 1048576 → Ev (fun k => spec_StuckLines.l1 k s (eS L) out (j : Int) true (p.length : Int) n ys) r) := by
  have hfew := hI.few
  have hsl : (eS L).length = L.length := List.length_map ..
  intro xs
  induction xs with
  | nil =>
    intro p hp
    rw [List.append_nil] at hp
    refine ⟨-1, Ev.now _, fun r h ho => ?_⟩
    rw [if_neg (by decide)] at h
    refine Ev.step (fun k => by rw [spec_StuckLines.l1]) ?_
    have hw : wrap64 ((j : Int) + 1) = ((j + 1 : Nat) : Int) := wrapS j (by omega)
    exact ev_neg (by rw [hsl, hp]; omega) (ev_pos rfl (ev_pos (by omega) (by rw [hw]; exact h)))
  | cons x xs ih =>
    intro p hp
    have hpl : p.length < L.length := by rw [hp]; simp
    have hx : L[p.length]? = some x := by rw [hp]; simp
    have hok := hI.ok x (List.mem_of_getElem? hx)
    have hw : wrap64 ((p.length : Int) + 1) = ((p ++ [x]).length : Int) := wrap_next p x (by omega)
    have hwj : wrap64 ((j : Int) + 1) = ((j + 1 : Nat) : Int) := wrapS j (by omega)
    have hpx : ((p ++ [x]).length : Int) = (p.length : Int) + 1 := by simp
    have himp := impl_change hok (j : Int) (by omega) (by omega)
    have hsc := spec_change hok (j : Int) (by omega) (by omega) (strOfNums x) (strOf_bytes hok.fast)
    have hex : eX (x :: xs) = ((setN x : Nat) : Int) :: eX xs := rfl
    by_cases hc : changeC n ys x (j : Int) = 0
    · refine ⟨(p.length : Int), ?_, fun r h ho => ?_⟩
      · rw [hex]
        exact Ev.bind himp (ev_pos hc (Ev.now _))
      · rw [if_pos (by omega)] at h
        refine Ev.step (fun k => by rw [spec_StuckLines.l1]) (ev_pos (by omega) (ev_pos rfl (ev_pos (by omega) ?_)))
        rw [rd_eS hx]
        refine Ev.bind hsc ?_
        have hb : (changeC n ys x (j : Int) != 0) = false := by rw [hc]; rfl
        show Ev (fun k => spec_StuckLines.l1 k s (eS L) out (j : Int) (changeC n ys x (j : Int) != 0) (wrap64 ((p.length : Int) + 1)) n ys) r
        rw [hb, hw]
        refine Ev.step (fun k => by rw [spec_StuckLines.l1]) ?_
        rw [hwj]
        exact ev_ite (fun _ => ev_neg (by simp) h) (fun _ => ev_neg (by simp) h)
    · obtain ⟨q, h1, h2⟩ := ih (p ++ [x]) (by rw [hp]; simp)
      refine ⟨q, ?_, fun r h ho => ?_⟩
      · rw [hex]
        refine Ev.bind himp (ev_neg hc ?_)
        rw [hpx] at h1
        exact h1
      · refine Ev.step (fun k => by rw [spec_StuckLines.l1]) (ev_pos (by omega) (ev_pos rfl (ev_pos (by omega) ?_)))
        rw [rd_eS hx]
        refine Ev.bind hsc ?_
        have hb : (changeC n ys x (j : Int) != 0) = true := bne_iff_ne.mpr hc
        show Ev (fun k => spec_StuckLines.l1 k s (eS L) out (j : Int) (changeC n ys x (j : Int) != 0) (wrap64 ((p.length : Int) + 1)) n ys) r
        rw [hb, hw]
        exact h2 r h ho
theorem stuck_all (s : ByteArray) (hs : s.size = n.length) (hn : n.length ≤ 1048576) : ∀ (d j : Nat) (acc : List Int), j + d = n.length → acc.length ≤ j →
    ∃ out, out.length ≤ n.length ∧ Ev (fun k => stuckAll k n ys (eX L) d j acc) out ∧ Ev (fun k => spec_StuckLines.l0 k s (eS L) acc (j : Int) n ys) (out, 0) := by
  intro d
  induction d with
  | zero =>
    intro j acc hj ha
    exact ⟨acc, by omega, Ev.now _, Ev.step (fun k => by rw [spec_StuckLines.l0]) (ev_neg (by omega) (Ev.now _))⟩
  | succ d ih =>
    intro j acc hj ha
    obtain ⟨q, h1, h2⟩ := stuck_line hI j (by omega) hn s acc L [] rfl
    by_cases hq : 0 ≤ q
    · obtain ⟨out, g1, g2, g3⟩ := ih (j + 1) acc (by omega) (by omega)
      refine ⟨out, g1, Ev.bind h1 (ev_pos hq g2), Ev.step (fun k => by rw [spec_StuckLines.l0]) (ev_pos (by omega) ?_)⟩
      exact h2 _ (by rw [if_pos hq]; exact g3) (by omega)
    · obtain ⟨out, g1, g2, g3⟩ := ih (j + 1) (acc ++ [(j : Int)]) (by omega) (by rw [List.length_append, List.length_singleton]; omega)
      refine ⟨out, g1, Ev.bind h1 (ev_neg hq g2), Ev.step (fun k => by rw [spec_StuckLines.l0]) (ev_pos (by omega) ?_)⟩
      exact h2 _ (by rw [if_neg hq]; exact g3) (by omega)
end
theorem StuckLines_both (n : List Int) (ys : List (List Int)) (s : ByteArray) (hg : GoodDeck n ys) (hs : s.size ≤ 1048576) : Both (fun r => r.1.length ≤ 1048576) (fun k => spec_StuckLines.f k n ys s) (fun k => impl_StuckLines.f k n ys s) := by
  unfold spec_StuckLines.f impl_StuckLines.f
  refine both_bindL (spec_codeD n ys s hg hs) (both_bindR (impl_codeD n ys s hg hs) ?_)
  by_cases hc : codeD n ys s = 0
  · have hok := deckOk_of n ys s hg hc
    have hfew := hok.few
    have hlen := hok.len
    have hbl := bytes_length s
    obtain ⟨L, P, W, h1, h2, h3, _⟩ := all_both s hok
    have hfl := h1.few
    have hxl : (eX L).length = L.length := List.length_map ..
    obtain ⟨out, g1, g2, g3⟩ := stuck_all h1 s (by omega) (by omega) n.length 0 [] (by omega) (Nat.le_refl _)
    have hz : (eX L).length ≤ 1048576 ∧ n.length ≤ 1048576 := ⟨by omega, by omega⟩
    refine both_posL hc (both_posR hc (both_of (r := (out, 0)) (Ev.bind h3 g3) (Ev.bind (set_ev s (by omega)) (Ev.bind h2 (ev_pos hz (Ev.bind g2 (Ev.now _))))) ?_))
    show out.length ≤ 1048576
    omega
  · exact both_negL hc (both_negR hc (both_now _ (by simp)))
end Go.Proofs.YtfkiamccipoioaaB
end

section
/- FnExactStuckLines: its plain statement, over lists and numbers. -/
namespace Go.Proofs.Ytfkiamccipoioaa.Pure
open Go.RowKit Go.Proofs.Ytfkiamccipoioaa.P Go.Proofs.YtfkiamccipoioaaW.PrintWords Go.Proofs.YtfkiamccipoioaaW.PrintLast Go.Proofs.YtfkiamccipoioaaB

theorem FnExactStuckLines : ∀ (x0 : S25) (x1 : ByteArray), ((x0.f0.length ≤ maxLen ∧ ∀ x_ ∈ x0.f0, (Lit.int .i64 x_).wf = true) ∧ (x0.f1.length ≤ maxLen ∧ ∀ x_ ∈ x0.f1, (x_.length ≤ maxLen ∧ ∀ x_x_ ∈ x_, (Lit.int .i64 x_x_).wf = true))) → x1.size ≤ maxLen → ∃ k, laws_FnExactStuckLines.f k x0.f0 x0.f1 x1 = some true := by
  intro x0 x1 h0 h1
  refine Ev.rounds (g := fun k => laws_FnExactStuckLines.f k x0.f0 x0.f1 x1) ?_
  unfold laws_FnExactStuckLines.f
  refine ev_ite (fun _ => Ev.now _) (fun z1 => ?_)
  obtain ⟨r0, e0, c0⟩ := szDeck_ev x0.f0 x0.f1 h0.1 h0.2
  refine Ev.bind e0 (ev_ite (fun _ => Ev.now _) (fun n0 => ?_))
  have g0 := c0 (by omega)
  obtain ⟨v, hs, hi, hp⟩ := StuckLines_both x0.f0 x0.f1 x1 g0 (by omega)
  obtain ⟨m1, hm1, hm1n⟩ := markDeck_ok x0.f0 x0.f1 g0
  repeat (first | exact Ev.now _ | (refine ev_pos rfl ?_) | (refine Ev.bind hs ?_) | (refine Ev.bind hi ?_) | (refine Ev.bind (toDeck_ev _ _ g0) ?_) | (refine Ev.bind (eqDeck_refl _ _ g0) ?_) | (refine Ev.bind (eqInt64S_refl _ (by omega)) ?_) | (refine Ev.bind (markInt64S_ev _ (by omega)) ?_) | (refine Ev.bind (heldInt64S_ev _ (by omega)) ?_) | (refine ev_bind0 hm1 ?_) | (refine ev_neg hm1n ?_) | (refine ev_neg (by first | (simp; done) | (simp; omega)) ?_))

end Go.Proofs.Ytfkiamccipoioaa.Pure
end

section
/- The law FnExactStuckLines: for every input it returns true and its arguments read as before: the row, out of its plain statement and the printed contracts. No condition beside the form's own. -/
namespace Go.Proofs.Ytfkiamccipoioaa.fnExactStuckLines
open Go.ChangeShapes Go.WideShapes Go.ChangeAt Go.RowKit
open Go.ChangeMaps (open_string shut_string)
open Go.Proofs.Ytfkiamccipoioaa.P Go.Proofs.YtfkiamccipoioaaOp Go.Proofs.YtfkiamccipoioaaW.PrintWords Go.Proofs.YtfkiamccipoioaaW.PrintLast
set_option linter.unusedVariables false
theorem own : ownKnob Try.prog.godebug = none := by kernel_rfl
theorem laidOut : laidOutB Try.prog = true := by kernel_rfl
set_option maxRecDepth 100000 in
theorem lifted (os : Os) (started : os.Started) (H : Type) (enc : TypeId × Value → H) :
    ReturnsInHanded {} Try.checked os 12 .any (Rows.fnExactStuckLinesSpec.pre6 enc Try.prog Try.f12 Rows.fnExactStuckLinesRow.domain false) (Rows.fnExactStuckLinesSpec.post enc Try.prog Try.f12 false true false false) := by
  refine returnsInHanded_of_change_sized (C := Try.checked) own started (by kernel_rfl) Try.func12
    (ChangeSpec.witness6 (enc := enc) (C := Try.checked) false ⟨#[], #[.agg #[.slice none 0 0, .slice none 0 0], .string ByteArray.empty], []⟩ 8 (by kernel_rfl) (by kernel_rfl) (by kernel_rfl) (by kernel_rfl)) ?_
  intro W base args ds gs before hval0 hW hcnd hsz0 _
  have hval : ∀ (j : Nat) t v, Try.f12.params[j]? = some t → args[j]? = some v → Value.okWide Try.prog W .any base t v := hval0
  have hW' := hW
  obtain ⟨p, q, hA0, hV, rfl, hfz, hnd⟩ := hW
  have hA : DataW.TrodAll enc Try.prog W 0 (fun _ => true) true Try.f12.params.toList args.toList ds p := hA0
  rw [Try.params12] at hA hval
  obtain ⟨v0, vs0, d0, ds0, p0, q0, hargs, rfl, rfl, h0, r0⟩ := trodAll_cons hA
  obtain ⟨v1, vs1, d1, ds1, p1, q1, rfl, rfl, rfl, h1, r1⟩ := trodAll_cons r0
  obtain ⟨rfl, rfl, rfl⟩ := trodAll_nil r1
  obtain rfl : args = #[v0, v1] := by cases args; simp_all
  obtain ⟨rfl, rfl⟩ := trodVars_none hV
  have k0 := h0
  have lt0 : ∀ x ∈ p0, x.block < W.heap.size := by obtain ⟨m, hm⟩ := k0; exact DataW.trod_lt m _ _ _ hm
  obtain ⟨cs0, rfl, hs0⟩ := okWide_struct Try.underlying25 (hval 0 25 v0 rfl rfl)
  obtain ⟨x0, K0, Q0⟩ := arg_struct (d := k25) (opens_iso (opens_struct Try.underlying25 (by kernel_rfl) (opens_cons (opens_slice Try.underlying22 (opens_int Try.underlying2) (by kernel_rfl) 2) rfl (by kernel_rfl) (opens_last (opens_slice Try.underlying23 (opens_slice Try.underlying22 (opens_int Try.underlying2) (by kernel_rfl) 2) (by kernel_rfl) 22) rfl (by kernel_rfl)))) (fun x : S25 => (x.f0, x.f1)) (fun p => ⟨p.1, p.2⟩) (fun _ => rfl)) h0
  obtain ⟨A0_0, c0_0, A0_1, c0_1, e0, hl0_0, C0_0, hl0_1, C0_1⟩ := k25_open K0
  obtain rfl : cs0 = #[.slice A0_0 x0.f0.length c0_0, .slice A0_1 x0.f1.length c0_1] := by cases cs0; simpa using e0
  have k1 := h1
  have lt1 : ∀ x ∈ p1, x.block < W.heap.size := by obtain ⟨m, hm⟩ := k1; exact DataW.trod_lt m _ _ _ hm
  obtain ⟨x1, rfl, rfl, rfl, Q1⟩ := open_string Try.underlying9 (hval 1 9 v1 rfl rfl) h1
  clear hA0 hval0 hsz0
  obtain ⟨k, h⟩ := Pure.FnExactStuckLines x0 x1 Q0 Q1
  refine (laws_FnExactStuckLines.calls k A0_0 c0_0 x0.f0 A0_1 c0_1 x0.f1 x1 true W C0_0 hl0_0 C0_1 hl0_1 h).mono fun e W' hpost => ?_
  obtain ⟨he, bel⟩ : e = .returned (.bool true) ∧ Below W.heap.size W W' := hpost
  subst he
  exact ⟨_, rfl, _, _, _, [], _, [], hW', trodAll_mk1 (shut_bool Try.underlying4 _), (trodAll_cons_mk (Below.trod laidOut (by kernel_rfl) (of_decide_eq_true (by kernel_rfl)) k0 bel lt0) (trodAll_cons_mk (shut_string Try.underlying9 Q1) trodAll_mk0)), rfl, bel.frame _, fun h => by cases h⟩
theorem over : Rows.fnExactStuckLinesRow.holds Try.pinned (OpenSpec.ofChange Rows.fnExactStuckLinesSpec) :=
  OpenClaim.holds_of_wide 12 Try.f12 rfl rfl rfl rfl rfl rfl rfl ⟨rfl, rfl, rfl, rfl, rfl⟩ rfl rfl rfl rfl rfl (by kernel_rfl) Try.func12 (by kernel_rfl)
    (of_decide_eq_true (by kernel_rfl)) (by unfold Func.isWrapper; first | (rw [if_pos (by decide +kernel)]; kernel_rfl) | (rw [if_neg (by decide +kernel)]; exact ⟨rfl, rfl⟩))
    (fun os started H enc _ => lifted os started H enc)
theorem proved : Rows.FnExactStuckLinesSaid := over
#print axioms proved
end Go.Proofs.Ytfkiamccipoioaa.fnExactStuckLines
namespace Go.Proofs.Ytfkiamccipoioaa
/-- The row, under a short name, for the claim. -/
theorem fnExactStuckLines_holds : Rows.FnExactStuckLinesSaid := fnExactStuckLines.proved
end Go.Proofs.Ytfkiamccipoioaa
end
