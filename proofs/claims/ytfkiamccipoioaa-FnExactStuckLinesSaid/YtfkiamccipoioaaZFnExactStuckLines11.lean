/- Texts of this claim, packed: Px15, Px21. -/
import Derived.Test.YtfkiamccipoioaaZFnExactStuckLines10
section
-- Written by gprint.py (own program, over the printer of the kit) out of the translation. Lean checks it.
namespace Go.Proofs.Ytfkiamccipoioaa.P
open Go.RowKit Go.Proofs.YtfkiamccipoioaaW.PrintWords Go.Proofs.YtfkiamccipoioaaW.PrintLast Go.Proofs.YtfkiamccipoioaaW.PrintMore Go.Proofs.YtfkiamccipoioaaW.Pk
open Bool renaming true → T_, false → F_
open List renaming setIfInBounds_toArray → sT_, set_cons_zero → s0_, set_cons_succ → sS_
attribute [local go_sem] max2_int min2_int max_two min_two max_three min_three max_four min_four   -- for this text's walks alone
set_option linter.unusedVariables false
set_option linter.unusedSimpArgs false

/-! ### spec_l20Change: function 64 -/
-- (by hand)
open Go.Proofs.YtfkiamccipoioaaW.Hand
section
variable {P : Program} {ops : Array Oper} {rest : List Oper} {o : Oper} {a : Act} {Q : Exit → Act → World → Prop}
/-- A conversion of a string to bytes; of the world behind it only F is told. -/
theorem hand_conv {W : World} (F : Nat → Nat → World → Prop) (hgd : o.guard = none) {N : Tmp} (_hd : o.dst = some N) {s : ByteArray} {e : TypeId}
  (hrun : (execOp a.eval o).run P W = .ok (.value (.slice (some ⟨W.heap.size, 0, none⟩) s.size (grownCap W s.size 0 e))) (Lib.bytesWorld W e s)) (hF : F W.heap.size (grownCap W s.size 0 e) (Lib.bytesWorld W e s))
  (h : ∀ g c w1, F g c w1 → wpList P ops Q rest (a.put o.dst (.slice (some ⟨g, 0, none⟩) s.size c)) w1) : wpList P ops Q (o :: rest) a W :=
 Kd.event_run hgd hrun (h _ _ _ hF)
end
theorem below_bytes (w : World) (e : TypeId) (s : ByteArray) : Below w.heap.size w (Lib.bytesWorld w e s) :=
 ⟨rfl, rfl, rfl, by rw [Lib.bytesWorld_size]; omega, fun i hi => Lib.bytesWorld_at_old w e s i hi⟩
/-- The deck at g, and a row of bytes of the call's own at gb. -/
structure ChInv (w0 w W : World) (g : Nat) (s0_0 : List Int) (s0_1 : List (List Int)) (gb : Nat) (xs : List Int) : Prop where
 st : IsS28 w0 W g s0_0 s0_1
 below : Below w0.heap.size w0 W
 keep : KeepBut w W g none
 cells : ∀ i : Nat, i < xs.length → W.cell? ⟨gb, i, none⟩ = some (.int .u8 (xs.getD i 0))
 free : ∀ i : Nat, i < xs.length → W.frozen? ⟨gb, i, none⟩ = false
 ge : w.heap.size ≤ gb
 lt : gb < W.heap.size
 ne : g ≠ gb
 ge0 : w0.heap.size ≤ gb
def flipB (s : ByteArray) (i : Int) : List Int := (bytesOf s).set i.toNat (if bt s i = 70 then 76 else 70)
theorem flipB_length (s : ByteArray) (i : Int) : (flipB s i).length = s.size := by unfold flipB; rw [List.length_set, bytesOf_length]
section
variable {w0 w W W1 : World} {g gb : Nat} {s0_0 : List Int} {s0_1 : List (List Int)} {xs : List Int} {a1 : ByteArray} {a2 : Int}
theorem ChInv.at_ (h : ChInv w0 w W g s0_0 s0_1 gb (bytesOf a1)) (i : Int) (h0 : 0 ≤ i) (h1 : i < (a1.size : Int)) : W.cell? ⟨gb, i.toNat, none⟩ = some (.int .u8 (bt a1 i)) := by
 have := h.cells i.toNat (by rw [bytesOf_length]; omega)
 rw [this]
 have e : (bytesOf a1).getD i.toNat 0 = bt a1 i := rd_bytesOf a1 i
 rw [e]
theorem ChInv.fr (h : ChInv w0 w W g s0_0 s0_1 gb (bytesOf a1)) (i : Int) (h0 : 0 ≤ i) (h1 : i < (a1.size : Int)) : W.frozen? ⟨gb, i.toNat, none⟩ = false :=
 h.free i.toNat (by rw [bytesOf_length]; omega)
theorem chinv_new (h : IsS28 w0 w g s0_0 s0_1) (hb : Below w0.heap.size w0 w) (s : ByteArray) : ChInv w0 w (Lib.bytesWorld w 5 s) g s0_0 s0_1 w.heap.size (bytesOf s) := by
 have hbw := below_bytes w 5 s
 refine ⟨h.below hbw, below_then hb hb.size hbw, KeepBut.of_below hbw g none, fun i hi => ?_, fun i hi => ?_, Nat.le_refl _, by rw [Lib.bytesWorld_size]; omega, Nat.ne_of_lt (IsS28.lt h), hb.size⟩
 ·rw [bytesOf_length] at hi
  rw [Lib.bytesWorld_cell w 5 s i hi]
  unfold bytesOf
  rw [List.getD_eq_getElem?_getD, List.getD_eq_getElem?_getD, List.getElem?_map, List.getElem?_eq_getElem (by rw [data_length]; exact hi)]
  rfl
 ·rw [bytesOf_length] at hi
  have hz : i < (Lib.bytesCells w 5 s).size := by
   simp [Lib.bytesCells]
   omega
  unfold World.frozen?
  rw [Lib.bytesWorld_at_new]
  simp
  omega
theorem ChInv.later (h : ChInv w0 w W g s0_0 s0_1 gb xs) (hi : IsS28 w0 W1 g s0_0 s0_1) (hb : Below w0.heap.size w0 W1) (hk : KeepBut W W1 g none) : ChInv w0 w W1 g s0_0 s0_1 gb xs := by
 have hg : W1.heap[gb]? = W.heap[gb]? := hk.2 gb h.lt (fun e => h.ne e.symm) (by simp)
 refine ⟨hi, hb, h.keep.trans hk (.inl rfl), fun i hi => ?_, fun i hi => ?_, h.ge, Nat.lt_of_lt_of_le h.lt hk.1, h.ne, h.ge0⟩
 ·have := h.cells i hi
  simpa [World.cell?, hg] using this
 ·have := h.free i hi
  simpa [World.frozen?, hg] using this
theorem ChInv.flip (h : ChInv w0 w W g s0_0 s0_1 gb (bytesOf a1)) (h0 : 0 ≤ a2) (h1 : a2 < (a1.size : Int)) : ChInv w0 w (W.setCell ⟨gb, a2.toNat, none⟩ (.int .u8 (if bt a1 a2 = 70 then 76 else 70))) g s0_0 s0_1 gb (flipB a1 a2) := by
 have hc := h.cells a2.toNat (by rw [bytesOf_length]; omega)
 refine ⟨IsS28.far h.st h.ne _, h.below.setCell h.ge0 _, ⟨by have := h.keep.1; rw [World.size_setCell]; exact this, fun k hk hkg _ => ?_⟩, fun i hi => ?_, fun i hi => ?_, h.ge, by rw [World.size_setCell]; exact h.lt, h.ne, h.ge0⟩
 ·rw [Below.heap_setCell W _ _ k (by have := h.ge; show k ≠ gb; omega)]
  exact h.keep.2 k hk hkg (by simp)
 ·rw [flipB_length] at hi
  unfold flipB
  by_cases e : i = a2.toNat
  ·subst e
   rw [List.getD_eq_getElem?_getD, List.getElem?_set_self (by rw [bytesOf_length]; exact hi), Option.getD_some]
   exact World.cell?_setCell_same W _ _ hc
  ·rw [List.getD_eq_getElem?_getD, List.getElem?_set_ne (fun h => e h.symm), ← List.getD_eq_getElem?_getD, ← h.cells i (by rw [bytesOf_length]; exact hi)]
   exact World.cell?_setCell_other W _ _ _ (fun h => e (by injection h with _ h2 _; exact h2.symm))
 ·rw [flipB_length] at hi
  rw [World.frozen?_setCell]
  exact h.free i (by rw [bytesOf_length]; exact hi)
theorem ChInv.conv (h : ChInv w0 w W g s0_0 s0_1 gb (flipB a1 a2)) (a1' : ByteArray) (a2' : Int) (c : Nat) : (convert 49 9 (.slice (some ⟨gb, 0, none⟩) a1.size c)).run Try.prog W = .ok (.string (strOfNums (flipB a1 a2))) W :=
 run_convert_bytes_arg W 49 5 Try.underlying49 Try.underlying5 gb 0 a1.size c (flipB a1 a2) (flipB_length a1 a2) (fun i hi => by rw [Nat.zero_add]; exact h.cells i (by rw [flipB_length]; exact hi)) 9 Try.underlying9
end
def spec_l20Change.f (k : Nat) (s0_0 : List Int) (s0_1 : List (List Int)) (a1 : ByteArray) (a2 : Int) : Option (ByteArray × Int) :=
 if 0 ≤ a2 ∧ a2 < (s0_0.length : Int) ∧ a2 < (a1.size : Int) ∧ rd s0_0 a2 < (a1.size : Int) ∧ a1.size ≤ 1048576 then
  (if 0 ≤ rd s0_0 a2 ∧ ¬ bt a1 (rd s0_0 a2) = 70 then some ((⟨#[]⟩ : ByteArray), 6) else (spec_l20Loose.f k s0_0 s0_1 (strOfNums (flipB a1 a2))).bind fun t => if t.length > 0 then some ((⟨#[]⟩ : ByteArray), 10) else some (strOfNums (flipB a1 a2), 0))
 else none
set_option maxRecDepth 100000 in
set_option maxHeartbeats 4000000 in
theorem spec_l20Change.calls (k : Nat) (g : Nat) (s0_0 : List Int) (s0_1 : List (List Int)) (a1 : ByteArray) (a2 : Int) (r1 : ByteArray) (r2 : Int) (w0 w : World) (hI : IsS28 w0 w g s0_0 s0_1) (hB : Below w0.heap.size w0 w) (h : spec_l20Change.f k s0_0 s0_1 a1 a2 = some (r1, r2)) :
  Calls Try.prog 64 #[.pointer (some ⟨g, 0, none⟩), .string a1, .int .i64 a2] w fun e w' => e = .returned (.tuple #[.string r1, .int .i64 r2]) ∧ IsS28 w0 w' g s0_0 s0_1 ∧ Below w0.heap.size w0 w' ∧ KeepBut w w' g none := by
 unfold spec_l20Change.f at h
 have HI := Aside0.mk hI
 have HB := Aside0.mk hB
 by_cases hc : 0 ≤ a2 ∧ a2 < (s0_0.length : Int) ∧ a2 < (a1.size : Int) ∧ rd s0_0 a2 < (a1.size : Int) ∧ a1.size ≤ 1048576
 rotate_left
 ·rw [if_neg hc] at h
  exact absurd h (by simp)
 rw [if_pos hc] at h
 obtain ⟨ha0, han, ha2, hn, hsz⟩ := hc
 obtain ⟨A0, c0, A1, c1, hblk, _, hr0, _⟩ := hI
 have d0 : w.cell? ⟨g, 0, none⟩ = some (.slice A0 s0_0.length c0) := (blk_cell hblk 0).trans rfl
 obtain ⟨ad, e0, x0⟩ := Kd.at_int hr0 a2 ha0 han
 cases e0
 replace x0 := (hB.cell (World.block_lt_of_cell? w0 _ x0)).trans x0
 clear hblk hr0 hB
 have p1 := eq_true ha0
 have q1 := eq_true han
 obtain ⟨need, hneed⟩ : ∃ need, need = rd s0_0 a2 := ⟨_, rfl⟩
 rw [← hneed] at h hn x0
 clear hneed
 have q2 := eq_true ha2
 by_cases hbad : 0 ≤ need ∧ ¬ bt a1 need = 70
 ·rw [if_pos hbad] at h
  simp only [Option.some.injEq, Prod.mk.injEq] at h
  obtain ⟨rfl, rfl⟩ := h
  obtain ⟨hb0, hb1⟩ := hbad
  have p3 := eq_true hb0
  have q3 := eq_true hn
  have hx3 := bt_at a1 need
  have z1 : decide (0 ≤ need) = true := decide_eq_true hb0
  have z2 : (bt a1 need != 70) = true := bne_iff_ne.mpr hb1
  have z3 : (bt a1 need == 70) = false := beq_eq_false_iff_ne.mpr hb1
  clear ha0 han ha2 hn hb0 hb1
  go_enter Try.func64, Try.ntmps64
  go_wp2_with fail
  go_ret2
  exact ⟨rfl, HI.out, HB.out, KeepBut.refl _ _ _⟩
 ·rw [if_neg hbad] at h
  replace h := Option.bind_eq_some_iff.mp h
  obtain ⟨t, hv, h⟩ := h
  have HT := Aside0.mk hv
  have HF0 := fun (W : World) (gb : Nat) (hh : ChInv w0 w W g s0_0 s0_1 gb (bytesOf a1)) => hh.flip ha0 ha2
  have HH := Aside0.mk h
  clear hv h
  have key : ∀ b1 b2 b3 b4 : Bool, decide (0 ≤ need) = b1 → (bt a1 need != 70) = b2 → (b1 && b2) = false → (bt a1 a2 == 70) = b3 → decide (0 < t.length) = b4 → Calls Try.prog 64 #[.pointer (some ⟨g, 0, none⟩), .string a1, .int .i64 a2] w fun e w' => e = .returned (.tuple #[.string r1, .int .i64 r2]) ∧ IsS28 w0 w' g s0_0 s0_1 ∧ Below w0.heap.size w0 w' ∧ KeepBut w w' g none := by
   intro b1 b2 b3 b4 z1 z2 z12 z3 z4
   cases b1 with
   | false =>
    cases b3 with
    | false =>
     cases b4 with
     | false =>
      have hx4 := bt_at a1 a2
      have e3 : bt a1 a2 ≠ 70 := ne_of_beq_false z3
      have HF1 : Aside0 (∀ (W : World) (gb : Nat), ChInv w0 w W g s0_0 s0_1 gb (bytesOf a1) → ChInv w0 w (W.setCell ⟨gb, a2.toNat, none⟩ (.int .u8 70)) g s0_0 s0_1 gb (flipB a1 a2)) := ⟨fun W gb hh => by have := HF0 W gb hh; rwa [if_neg e3] at this⟩
      have hrs : r1 = strOfNums (flipB a1 a2) ∧ r2 = 0 := by have := HH.out; rw [if_neg (of_decide_eq_false z4)] at this; simp only [Option.some.injEq, Prod.mk.injEq] at this; exact ⟨this.1.symm, this.2.symm⟩
      obtain ⟨rfl, rfl⟩ := hrs
      clear HF0 HH e3 hbad hsz
      go_enter Try.func64, Try.ntmps64
      go_wp2_with (first | ((with_reducible refine gate_dst (N := 26) rfl ?_); refine hand_conv (fun g_ c_ W_ => ChInv w0 w W_ g s0_0 s0_1 g_ (bytesOf a1)) ?hg (N := 26) ?hd (s := a1) (e := 5) ?hr ?hF ?_; (case hd => rfl); (case hg => rfl); (case hr => go_simp; rw [Lib.run_convert_string_bytes (P := Try.prog) w 9 49 5 a1 Try.underlying9 Try.underlying49 Try.underlying5]; rfl); (case hF => exact chinv_new HI.out HB.out a1); intro gb c w1 h1; have H1 := Aside0.mk h1; have x1 := h1.at_ a2 ha0 ha2; have f1 := h1.fr a2 ha0 ha2; clear h1) | (refine hand_store (fun W_ => ChInv w0 w W_ g s0_0 s0_1 gb (flipB a1 a2)) (t := 5) (p := 37) (v := .const (.int .u8 70)) (w1 := w1.setCell ⟨gb, a2.toNat, none⟩ (.int .u8 70)) ?hg rfl ?hN ?hr ?hF ?_; (case hg => rfl); (case hN => rfl); (case hr => first | (go_simp; done) | (go_simp; rfl)); (case hF => exact HF1.out _ _ H1.out); clear x1 f1; intro w2 h2; have hcv := h2.conv a1 a2 c; have H2 := Aside0.mk h2; clear h2) | (go_at_call 62; refine (spec_l20Loose.calls k g s0_0 s0_1 (strOfNums (flipB a1 a2)) t w0 w2 H2.out.st H2.out.below HT.out).mono ?_; rintro e w3 ⟨v3, rfl, hr3, hi3, hb3, hk3⟩; obtain ⟨A3, c3, e3⟩ := Kd.R_slice hr3; subst e3; have H3 := Aside0.mk (H2.out.later hi3 hb3 hk3); have hcv2 := H3.out.conv a1 a2 c; clear hr3 hi3 hb3 hk3 hcv))
      go_ret2
      exact ⟨rfl, H3.out.st, H3.out.below, H3.out.keep⟩
     | true =>
      have hx4 := bt_at a1 a2
      have e3 : bt a1 a2 ≠ 70 := ne_of_beq_false z3
      have HF1 : Aside0 (∀ (W : World) (gb : Nat), ChInv w0 w W g s0_0 s0_1 gb (bytesOf a1) → ChInv w0 w (W.setCell ⟨gb, a2.toNat, none⟩ (.int .u8 70)) g s0_0 s0_1 gb (flipB a1 a2)) := ⟨fun W gb hh => by have := HF0 W gb hh; rwa [if_neg e3] at this⟩
      have hrs : r1 = (⟨#[]⟩ : ByteArray) ∧ r2 = 10 := by have := HH.out; rw [if_pos (of_decide_eq_true z4)] at this; simp only [Option.some.injEq, Prod.mk.injEq] at this; exact ⟨this.1.symm, this.2.symm⟩
      obtain ⟨rfl, rfl⟩ := hrs
      clear HF0 HH e3 hbad hsz
      go_enter Try.func64, Try.ntmps64
      go_wp2_with (first | ((with_reducible refine gate_dst (N := 26) rfl ?_); refine hand_conv (fun g_ c_ W_ => ChInv w0 w W_ g s0_0 s0_1 g_ (bytesOf a1)) ?hg (N := 26) ?hd (s := a1) (e := 5) ?hr ?hF ?_; (case hd => rfl); (case hg => rfl); (case hr => go_simp; rw [Lib.run_convert_string_bytes (P := Try.prog) w 9 49 5 a1 Try.underlying9 Try.underlying49 Try.underlying5]; rfl); (case hF => exact chinv_new HI.out HB.out a1); intro gb c w1 h1; have H1 := Aside0.mk h1; have x1 := h1.at_ a2 ha0 ha2; have f1 := h1.fr a2 ha0 ha2; clear h1) | (refine hand_store (fun W_ => ChInv w0 w W_ g s0_0 s0_1 gb (flipB a1 a2)) (t := 5) (p := 37) (v := .const (.int .u8 70)) (w1 := w1.setCell ⟨gb, a2.toNat, none⟩ (.int .u8 70)) ?hg rfl ?hN ?hr ?hF ?_; (case hg => rfl); (case hN => rfl); (case hr => first | (go_simp; done) | (go_simp; rfl)); (case hF => exact HF1.out _ _ H1.out); clear x1 f1; intro w2 h2; have hcv := h2.conv a1 a2 c; have H2 := Aside0.mk h2; clear h2) | (go_at_call 62; refine (spec_l20Loose.calls k g s0_0 s0_1 (strOfNums (flipB a1 a2)) t w0 w2 H2.out.st H2.out.below HT.out).mono ?_; rintro e w3 ⟨v3, rfl, hr3, hi3, hb3, hk3⟩; obtain ⟨A3, c3, e3⟩ := Kd.R_slice hr3; subst e3; have H3 := Aside0.mk (H2.out.later hi3 hb3 hk3); have hcv2 := H3.out.conv a1 a2 c; clear hr3 hi3 hb3 hk3 hcv))
      go_ret2
      exact ⟨rfl, H3.out.st, H3.out.below, H3.out.keep⟩
    | true =>
     cases b4 with
     | false =>
      have hx4 := bt_at a1 a2
      have e3 : bt a1 a2 = 70 := eq_of_beq z3
      have HF1 : Aside0 (∀ (W : World) (gb : Nat), ChInv w0 w W g s0_0 s0_1 gb (bytesOf a1) → ChInv w0 w (W.setCell ⟨gb, a2.toNat, none⟩ (.int .u8 76)) g s0_0 s0_1 gb (flipB a1 a2)) := ⟨fun W gb hh => by have := HF0 W gb hh; rwa [if_pos e3] at this⟩
      have hrs : r1 = strOfNums (flipB a1 a2) ∧ r2 = 0 := by have := HH.out; rw [if_neg (of_decide_eq_false z4)] at this; simp only [Option.some.injEq, Prod.mk.injEq] at this; exact ⟨this.1.symm, this.2.symm⟩
      obtain ⟨rfl, rfl⟩ := hrs
      clear HF0 HH e3 hbad hsz
      go_enter Try.func64, Try.ntmps64
      go_wp2_with (first | ((with_reducible refine gate_dst (N := 26) rfl ?_); refine hand_conv (fun g_ c_ W_ => ChInv w0 w W_ g s0_0 s0_1 g_ (bytesOf a1)) ?hg (N := 26) ?hd (s := a1) (e := 5) ?hr ?hF ?_; (case hd => rfl); (case hg => rfl); (case hr => go_simp; rw [Lib.run_convert_string_bytes (P := Try.prog) w 9 49 5 a1 Try.underlying9 Try.underlying49 Try.underlying5]; rfl); (case hF => exact chinv_new HI.out HB.out a1); intro gb c w1 h1; have H1 := Aside0.mk h1; have x1 := h1.at_ a2 ha0 ha2; have f1 := h1.fr a2 ha0 ha2; clear h1) | (refine hand_store (fun W_ => ChInv w0 w W_ g s0_0 s0_1 gb (flipB a1 a2)) (t := 5) (p := 34) (v := .const (.int .u8 76)) (w1 := w1.setCell ⟨gb, a2.toNat, none⟩ (.int .u8 76)) ?hg rfl ?hN ?hr ?hF ?_; (case hg => rfl); (case hN => rfl); (case hr => first | (go_simp; done) | (go_simp; rfl)); (case hF => exact HF1.out _ _ H1.out); clear x1 f1; intro w2 h2; have hcv := h2.conv a1 a2 c; have H2 := Aside0.mk h2; clear h2) | (go_at_call 62; refine (spec_l20Loose.calls k g s0_0 s0_1 (strOfNums (flipB a1 a2)) t w0 w2 H2.out.st H2.out.below HT.out).mono ?_; rintro e w3 ⟨v3, rfl, hr3, hi3, hb3, hk3⟩; obtain ⟨A3, c3, e3⟩ := Kd.R_slice hr3; subst e3; have H3 := Aside0.mk (H2.out.later hi3 hb3 hk3); have hcv2 := H3.out.conv a1 a2 c; clear hr3 hi3 hb3 hk3 hcv))
      go_ret2
      exact ⟨rfl, H3.out.st, H3.out.below, H3.out.keep⟩
     | true =>
      have hx4 := bt_at a1 a2
      have e3 : bt a1 a2 = 70 := eq_of_beq z3
      have HF1 : Aside0 (∀ (W : World) (gb : Nat), ChInv w0 w W g s0_0 s0_1 gb (bytesOf a1) → ChInv w0 w (W.setCell ⟨gb, a2.toNat, none⟩ (.int .u8 76)) g s0_0 s0_1 gb (flipB a1 a2)) := ⟨fun W gb hh => by have := HF0 W gb hh; rwa [if_pos e3] at this⟩
      have hrs : r1 = (⟨#[]⟩ : ByteArray) ∧ r2 = 10 := by have := HH.out; rw [if_pos (of_decide_eq_true z4)] at this; simp only [Option.some.injEq, Prod.mk.injEq] at this; exact ⟨this.1.symm, this.2.symm⟩
      obtain ⟨rfl, rfl⟩ := hrs
      clear HF0 HH e3 hbad hsz
      go_enter Try.func64, Try.ntmps64
      go_wp2_with (first | ((with_reducible refine gate_dst (N := 26) rfl ?_); refine hand_conv (fun g_ c_ W_ => ChInv w0 w W_ g s0_0 s0_1 g_ (bytesOf a1)) ?hg (N := 26) ?hd (s := a1) (e := 5) ?hr ?hF ?_; (case hd => rfl); (case hg => rfl); (case hr => go_simp; rw [Lib.run_convert_string_bytes (P := Try.prog) w 9 49 5 a1 Try.underlying9 Try.underlying49 Try.underlying5]; rfl); (case hF => exact chinv_new HI.out HB.out a1); intro gb c w1 h1; have H1 := Aside0.mk h1; have x1 := h1.at_ a2 ha0 ha2; have f1 := h1.fr a2 ha0 ha2; clear h1) | (refine hand_store (fun W_ => ChInv w0 w W_ g s0_0 s0_1 gb (flipB a1 a2)) (t := 5) (p := 34) (v := .const (.int .u8 76)) (w1 := w1.setCell ⟨gb, a2.toNat, none⟩ (.int .u8 76)) ?hg rfl ?hN ?hr ?hF ?_; (case hg => rfl); (case hN => rfl); (case hr => first | (go_simp; done) | (go_simp; rfl)); (case hF => exact HF1.out _ _ H1.out); clear x1 f1; intro w2 h2; have hcv := h2.conv a1 a2 c; have H2 := Aside0.mk h2; clear h2) | (go_at_call 62; refine (spec_l20Loose.calls k g s0_0 s0_1 (strOfNums (flipB a1 a2)) t w0 w2 H2.out.st H2.out.below HT.out).mono ?_; rintro e w3 ⟨v3, rfl, hr3, hi3, hb3, hk3⟩; obtain ⟨A3, c3, e3⟩ := Kd.R_slice hr3; subst e3; have H3 := Aside0.mk (H2.out.later hi3 hb3 hk3); have hcv2 := H3.out.conv a1 a2 c; clear hr3 hi3 hb3 hk3 hcv))
      go_ret2
      exact ⟨rfl, H3.out.st, H3.out.below, H3.out.keep⟩
   | true =>
    cases b3 with
    | false =>
     cases b4 with
     | false =>
      cases b2 with
      | true => cases z12
      | false =>
       have p3 := eq_true (of_decide_eq_true z1)
       have q3 := eq_true hn
       have hx3 := bt_at a1 need
       have z2' : (bt a1 need == 70) = true := by simpa using z2
       have hx4 := bt_at a1 a2
       have e3 : bt a1 a2 ≠ 70 := ne_of_beq_false z3
       have HF1 : Aside0 (∀ (W : World) (gb : Nat), ChInv w0 w W g s0_0 s0_1 gb (bytesOf a1) → ChInv w0 w (W.setCell ⟨gb, a2.toNat, none⟩ (.int .u8 70)) g s0_0 s0_1 gb (flipB a1 a2)) := ⟨fun W gb hh => by have := HF0 W gb hh; rwa [if_neg e3] at this⟩
       have hrs : r1 = strOfNums (flipB a1 a2) ∧ r2 = 0 := by have := HH.out; rw [if_neg (of_decide_eq_false z4)] at this; simp only [Option.some.injEq, Prod.mk.injEq] at this; exact ⟨this.1.symm, this.2.symm⟩
       obtain ⟨rfl, rfl⟩ := hrs
       clear HF0 HH e3 hbad hsz
       go_enter Try.func64, Try.ntmps64
       go_wp2_with (first | ((with_reducible refine gate_dst (N := 26) rfl ?_); refine hand_conv (fun g_ c_ W_ => ChInv w0 w W_ g s0_0 s0_1 g_ (bytesOf a1)) ?hg (N := 26) ?hd (s := a1) (e := 5) ?hr ?hF ?_; (case hd => rfl); (case hg => rfl); (case hr => go_simp; rw [Lib.run_convert_string_bytes (P := Try.prog) w 9 49 5 a1 Try.underlying9 Try.underlying49 Try.underlying5]; rfl); (case hF => exact chinv_new HI.out HB.out a1); intro gb c w1 h1; have H1 := Aside0.mk h1; have x1 := h1.at_ a2 ha0 ha2; have f1 := h1.fr a2 ha0 ha2; clear h1) | (refine hand_store (fun W_ => ChInv w0 w W_ g s0_0 s0_1 gb (flipB a1 a2)) (t := 5) (p := 37) (v := .const (.int .u8 70)) (w1 := w1.setCell ⟨gb, a2.toNat, none⟩ (.int .u8 70)) ?hg rfl ?hN ?hr ?hF ?_; (case hg => rfl); (case hN => rfl); (case hr => first | (go_simp; done) | (go_simp; rfl)); (case hF => exact HF1.out _ _ H1.out); clear x1 f1; intro w2 h2; have hcv := h2.conv a1 a2 c; have H2 := Aside0.mk h2; clear h2) | (go_at_call 62; refine (spec_l20Loose.calls k g s0_0 s0_1 (strOfNums (flipB a1 a2)) t w0 w2 H2.out.st H2.out.below HT.out).mono ?_; rintro e w3 ⟨v3, rfl, hr3, hi3, hb3, hk3⟩; obtain ⟨A3, c3, e3⟩ := Kd.R_slice hr3; subst e3; have H3 := Aside0.mk (H2.out.later hi3 hb3 hk3); have hcv2 := H3.out.conv a1 a2 c; clear hr3 hi3 hb3 hk3 hcv))
       go_ret2
       exact ⟨rfl, H3.out.st, H3.out.below, H3.out.keep⟩
     | true =>
      cases b2 with
      | true => cases z12
      | false =>
       have p3 := eq_true (of_decide_eq_true z1)
       have q3 := eq_true hn
       have hx3 := bt_at a1 need
       have z2' : (bt a1 need == 70) = true := by simpa using z2
       have hx4 := bt_at a1 a2
       have e3 : bt a1 a2 ≠ 70 := ne_of_beq_false z3
       have HF1 : Aside0 (∀ (W : World) (gb : Nat), ChInv w0 w W g s0_0 s0_1 gb (bytesOf a1) → ChInv w0 w (W.setCell ⟨gb, a2.toNat, none⟩ (.int .u8 70)) g s0_0 s0_1 gb (flipB a1 a2)) := ⟨fun W gb hh => by have := HF0 W gb hh; rwa [if_neg e3] at this⟩
       have hrs : r1 = (⟨#[]⟩ : ByteArray) ∧ r2 = 10 := by have := HH.out; rw [if_pos (of_decide_eq_true z4)] at this; simp only [Option.some.injEq, Prod.mk.injEq] at this; exact ⟨this.1.symm, this.2.symm⟩
       obtain ⟨rfl, rfl⟩ := hrs
       clear HF0 HH e3 hbad hsz
       go_enter Try.func64, Try.ntmps64
       go_wp2_with (first | ((with_reducible refine gate_dst (N := 26) rfl ?_); refine hand_conv (fun g_ c_ W_ => ChInv w0 w W_ g s0_0 s0_1 g_ (bytesOf a1)) ?hg (N := 26) ?hd (s := a1) (e := 5) ?hr ?hF ?_; (case hd => rfl); (case hg => rfl); (case hr => go_simp; rw [Lib.run_convert_string_bytes (P := Try.prog) w 9 49 5 a1 Try.underlying9 Try.underlying49 Try.underlying5]; rfl); (case hF => exact chinv_new HI.out HB.out a1); intro gb c w1 h1; have H1 := Aside0.mk h1; have x1 := h1.at_ a2 ha0 ha2; have f1 := h1.fr a2 ha0 ha2; clear h1) | (refine hand_store (fun W_ => ChInv w0 w W_ g s0_0 s0_1 gb (flipB a1 a2)) (t := 5) (p := 37) (v := .const (.int .u8 70)) (w1 := w1.setCell ⟨gb, a2.toNat, none⟩ (.int .u8 70)) ?hg rfl ?hN ?hr ?hF ?_; (case hg => rfl); (case hN => rfl); (case hr => first | (go_simp; done) | (go_simp; rfl)); (case hF => exact HF1.out _ _ H1.out); clear x1 f1; intro w2 h2; have hcv := h2.conv a1 a2 c; have H2 := Aside0.mk h2; clear h2) | (go_at_call 62; refine (spec_l20Loose.calls k g s0_0 s0_1 (strOfNums (flipB a1 a2)) t w0 w2 H2.out.st H2.out.below HT.out).mono ?_; rintro e w3 ⟨v3, rfl, hr3, hi3, hb3, hk3⟩; obtain ⟨A3, c3, e3⟩ := Kd.R_slice hr3; subst e3; have H3 := Aside0.mk (H2.out.later hi3 hb3 hk3); have hcv2 := H3.out.conv a1 a2 c; clear hr3 hi3 hb3 hk3 hcv))
       go_ret2
       exact ⟨rfl, H3.out.st, H3.out.below, H3.out.keep⟩
    | true =>
     cases b4 with
     | false =>
      cases b2 with
      | true => cases z12
      | false =>
       have p3 := eq_true (of_decide_eq_true z1)
       have q3 := eq_true hn
       have hx3 := bt_at a1 need
       have z2' : (bt a1 need == 70) = true := by simpa using z2
       have hx4 := bt_at a1 a2
       have e3 : bt a1 a2 = 70 := eq_of_beq z3
       have HF1 : Aside0 (∀ (W : World) (gb : Nat), ChInv w0 w W g s0_0 s0_1 gb (bytesOf a1) → ChInv w0 w (W.setCell ⟨gb, a2.toNat, none⟩ (.int .u8 76)) g s0_0 s0_1 gb (flipB a1 a2)) := ⟨fun W gb hh => by have := HF0 W gb hh; rwa [if_pos e3] at this⟩
       have hrs : r1 = strOfNums (flipB a1 a2) ∧ r2 = 0 := by have := HH.out; rw [if_neg (of_decide_eq_false z4)] at this; simp only [Option.some.injEq, Prod.mk.injEq] at this; exact ⟨this.1.symm, this.2.symm⟩
       obtain ⟨rfl, rfl⟩ := hrs
       clear HF0 HH e3 hbad hsz
       go_enter Try.func64, Try.ntmps64
       go_wp2_with (first | ((with_reducible refine gate_dst (N := 26) rfl ?_); refine hand_conv (fun g_ c_ W_ => ChInv w0 w W_ g s0_0 s0_1 g_ (bytesOf a1)) ?hg (N := 26) ?hd (s := a1) (e := 5) ?hr ?hF ?_; (case hd => rfl); (case hg => rfl); (case hr => go_simp; rw [Lib.run_convert_string_bytes (P := Try.prog) w 9 49 5 a1 Try.underlying9 Try.underlying49 Try.underlying5]; rfl); (case hF => exact chinv_new HI.out HB.out a1); intro gb c w1 h1; have H1 := Aside0.mk h1; have x1 := h1.at_ a2 ha0 ha2; have f1 := h1.fr a2 ha0 ha2; clear h1) | (refine hand_store (fun W_ => ChInv w0 w W_ g s0_0 s0_1 gb (flipB a1 a2)) (t := 5) (p := 34) (v := .const (.int .u8 76)) (w1 := w1.setCell ⟨gb, a2.toNat, none⟩ (.int .u8 76)) ?hg rfl ?hN ?hr ?hF ?_; (case hg => rfl); (case hN => rfl); (case hr => first | (go_simp; done) | (go_simp; rfl)); (case hF => exact HF1.out _ _ H1.out); clear x1 f1; intro w2 h2; have hcv := h2.conv a1 a2 c; have H2 := Aside0.mk h2; clear h2) | (go_at_call 62; refine (spec_l20Loose.calls k g s0_0 s0_1 (strOfNums (flipB a1 a2)) t w0 w2 H2.out.st H2.out.below HT.out).mono ?_; rintro e w3 ⟨v3, rfl, hr3, hi3, hb3, hk3⟩; obtain ⟨A3, c3, e3⟩ := Kd.R_slice hr3; subst e3; have H3 := Aside0.mk (H2.out.later hi3 hb3 hk3); have hcv2 := H3.out.conv a1 a2 c; clear hr3 hi3 hb3 hk3 hcv))
       go_ret2
       exact ⟨rfl, H3.out.st, H3.out.below, H3.out.keep⟩
     | true =>
      cases b2 with
      | true => cases z12
      | false =>
       have p3 := eq_true (of_decide_eq_true z1)
       have q3 := eq_true hn
       have hx3 := bt_at a1 need
       have z2' : (bt a1 need == 70) = true := by simpa using z2
       have hx4 := bt_at a1 a2
       have e3 : bt a1 a2 = 70 := eq_of_beq z3
       have HF1 : Aside0 (∀ (W : World) (gb : Nat), ChInv w0 w W g s0_0 s0_1 gb (bytesOf a1) → ChInv w0 w (W.setCell ⟨gb, a2.toNat, none⟩ (.int .u8 76)) g s0_0 s0_1 gb (flipB a1 a2)) := ⟨fun W gb hh => by have := HF0 W gb hh; rwa [if_pos e3] at this⟩
       have hrs : r1 = (⟨#[]⟩ : ByteArray) ∧ r2 = 10 := by have := HH.out; rw [if_pos (of_decide_eq_true z4)] at this; simp only [Option.some.injEq, Prod.mk.injEq] at this; exact ⟨this.1.symm, this.2.symm⟩
       obtain ⟨rfl, rfl⟩ := hrs
       clear HF0 HH e3 hbad hsz
       go_enter Try.func64, Try.ntmps64
       go_wp2_with (first | ((with_reducible refine gate_dst (N := 26) rfl ?_); refine hand_conv (fun g_ c_ W_ => ChInv w0 w W_ g s0_0 s0_1 g_ (bytesOf a1)) ?hg (N := 26) ?hd (s := a1) (e := 5) ?hr ?hF ?_; (case hd => rfl); (case hg => rfl); (case hr => go_simp; rw [Lib.run_convert_string_bytes (P := Try.prog) w 9 49 5 a1 Try.underlying9 Try.underlying49 Try.underlying5]; rfl); (case hF => exact chinv_new HI.out HB.out a1); intro gb c w1 h1; have H1 := Aside0.mk h1; have x1 := h1.at_ a2 ha0 ha2; have f1 := h1.fr a2 ha0 ha2; clear h1) | (refine hand_store (fun W_ => ChInv w0 w W_ g s0_0 s0_1 gb (flipB a1 a2)) (t := 5) (p := 34) (v := .const (.int .u8 76)) (w1 := w1.setCell ⟨gb, a2.toNat, none⟩ (.int .u8 76)) ?hg rfl ?hN ?hr ?hF ?_; (case hg => rfl); (case hN => rfl); (case hr => first | (go_simp; done) | (go_simp; rfl)); (case hF => exact HF1.out _ _ H1.out); clear x1 f1; intro w2 h2; have hcv := h2.conv a1 a2 c; have H2 := Aside0.mk h2; clear h2) | (go_at_call 62; refine (spec_l20Loose.calls k g s0_0 s0_1 (strOfNums (flipB a1 a2)) t w0 w2 H2.out.st H2.out.below HT.out).mono ?_; rintro e w3 ⟨v3, rfl, hr3, hi3, hb3, hk3⟩; obtain ⟨A3, c3, e3⟩ := Kd.R_slice hr3; subst e3; have H3 := Aside0.mk (H2.out.later hi3 hb3 hk3); have hcv2 := H3.out.conv a1 a2 c; clear hr3 hi3 hb3 hk3 hcv))
       go_ret2
       exact ⟨rfl, H3.out.st, H3.out.below, H3.out.keep⟩
  exact key _ _ _ _ rfl rfl (by by_cases h1 : 0 ≤ need <;> simp [h1] <;> (by_cases h2 : bt a1 need = 70 <;> simp_all)) rfl rfl


end Go.Proofs.Ytfkiamccipoioaa.P
end

section
-- Written by gprint.py (own program, over the printer of the kit) out of the translation. Lean checks it.
namespace Go.Proofs.Ytfkiamccipoioaa.P
open Go.RowKit Go.Proofs.YtfkiamccipoioaaW.PrintWords Go.Proofs.YtfkiamccipoioaaW.PrintLast Go.Proofs.YtfkiamccipoioaaW.PrintMore Go.Proofs.YtfkiamccipoioaaW.Pk
open Bool renaming true → T_, false → F_
open List renaming setIfInBounds_toArray → sT_, set_cons_zero → s0_, set_cons_succ → sS_
attribute [local go_sem] max2_int min2_int max_two min_two max_three min_three max_four min_four   -- for this text's walks alone
set_option linter.unusedVariables false
set_option linter.unusedSimpArgs false

/-! ### spec_l20Changes: function 67 -/
def spec_l20Changes.l0 : Nat → ByteArray → List Int → Int → List Int → List (List Int) → Option (List Int)
 | 0, _, _, _, _, _ => none
 | k + 1, x1, x5, x6, x1000, x1001 => if x6 < (x1.size : Int) then ((spec_l20Change.f k x1000 x1001 x1 x6).bind fun bt459 => (if bt459.2 = 0 then (if x5.length < 17592186044416 then (spec_l20Changes.l0 k x1 (x5 ++ [x6]) (wrap64 (x6 + 1)) x1000 x1001) else (none)) else (spec_l20Changes.l0 k x1 x5 (wrap64 (x6 + 1)) x1000 x1001))) else (some x5)
def spec_l20Changes.f (k : Nat) (s0_0 : List Int) (s0_1 : List (List Int)) (a1 : ByteArray) : Option (List Int) := spec_l20Changes.l0 k a1 (([] : List Int)) 0 s0_0 s0_1
set_option maxHeartbeats 8000000 in
set_option maxRecDepth 100000 in
theorem spec_l20Changes.calls (k : Nat) (g : Nat) (s0_0 : List Int) (s0_1 : List (List Int)) (a1 : ByteArray) (r : List Int) (w0 w : World) (hI : IsS28 w0 w g s0_0 s0_1) (hB : Below w0.heap.size w0 w) (h : spec_l20Changes.f k s0_0 s0_1 a1 = some r) :
  Calls Try.prog 67 #[.pointer (some ⟨g, 0, none⟩), .string a1] w fun e w' => ∃ v0_ : Value, e = .returned (v0_) ∧ Kd.R (Kd.int .i64) 2 w' w.heap.size (fun _ => True) v0_ r ∧ IsS28 w0 w' g s0_0 s0_1 ∧ Below w0.heap.size w0 w' ∧ KeepBut w w' g none := by
 have HI0 := Aside0.mk hI
 have HK := Aside0.mk (KeepBut.refl w g none)
 have HL := Aside0.mk hB.size
 clear hI
 have HW0 := Aside0.mk hB.size
 have HB := Aside0.mk hB
 clear hB
 have H : (spec_l20Changes.l0 k a1 (([] : List Int)) 0 s0_0 s0_1) = some r := h
 clear h
 obtain ⟨y456, hy456⟩ : ∃ y_ : List Int, y_ = (([] : List Int)) := ⟨_, rfl⟩
 replace H : (spec_l20Changes.l0 k a1 y456 0 s0_0 s0_1) = some r := by first | (rw [hy456]; with_reducible exact H) | (have H2_ := (Option.bind_some _ _).symm.trans H; rw [hy456]; with_reducible exact H2_) | (have H2_ := (Option.bind_some _ _).symm.trans H; with_reducible exact H2_) | with_reducible exact H | (rw [hy456]; exact H) | exact H
 have Ny456 := Aside0.mk hy456
 clear hy456
 have H' := Aside0.mk H
 clear H
 go_enter Try.func67, Try.ntmps67
 go_wp2_with (first | ((with_reducible refine gate_dst (N := 9) rfl ?_); refine Kd.R_lit (Kd.int .i64) _ 2 ?hg (N := 9) ?hd (xs := ([] : List Int)) (inner := []) (ok := fun _ => True) (okp := fun _ => True) ?hr ?hp (fun _ hk => hk) trivial (Below.refl _ _) (Nat.le_refl _) (by simp) ?_; (case hd => rfl); (case hg => rfl); (case hr => first | (go_simp; done) | (go_simp; rfl)); (case hp => exact (Reps.none _ _)); intro v457 w3 ho4 hb hg_ hnew_; clear hg_ hnew_; (first | rw [← Ny456.out] at ho4 | (simp only [Int.reduceToNat] at ho4; rw [← Ny456.out] at ho4)); have n0_ := Aside0.mk (Kd.R_lower ho4 (keep_size (w := w) (g := g) (row := none) (by repeat (first | (with_reducible first | exact HK.out | apply KeepBut.set_ | apply keep_drewN | apply keep_drew | apply keep_alloc) | exact HK.out)))); have n1_ := Aside0.mk (IsS28.below (by repeat (first | (with_reducible first | exact HI0.out | apply IsS28.alloc | apply IsS28.drewN | apply IsS28.drew) | exact HI0.out)) hb); have n2_ := Aside0.mk (KeepBut.trans (by repeat (first | (with_reducible first | exact HK.out | apply KeepBut.set_ | apply keep_drewN | apply keep_drew | apply keep_alloc) | exact HK.out)) (KeepBut.of_below hb g none) (.inl rfl)); have n3_ := Aside0.mk (below_step (by repeat (first | (with_reducible first | exact HB.out | apply below_alloc | apply pw_below_drewN | apply below_drew1 | refine below_set ?_ (IsS28.ge HI0.out)) | exact HB.out)) hb); clear HI0; clear HK; clear HB; have HO458 := n0_; have HI0 := n1_; have HK := n2_; have HB := n3_; clear n0_ n1_ n2_ n3_; clear hb ho4))
 go_loopg [5, 6] k (fun kq v5 v6 w' => ∃ (x5_1 : List Int) (x6_1 : Int), v6 = .int .i64 x6_1 ∧ Aside0 (spec_l20Changes.l0 kq a1 x5_1 x6_1 s0_0 s0_1 = some r) ∧ Aside0 (kq ≤ k) ∧ Aside0 (Kd.R (Kd.int .i64) 2 w' w.heap.size (fun _ => True) v5 x5_1) ∧ Aside0 (IsS28 w0 w' g s0_0 s0_1) ∧ Aside0 (KeepBut w w' g none) ∧ Aside0 (Below w0.heap.size w0 w'))
 case atStart => exact ⟨(y456), (0), (by first | rfl | (simp; done) | (simp [*]; done)), H', ⟨Nat.le_refl _⟩, ⟨by (with_reducible repeat (first | apply Kd.R_alloc | apply Kd.R_drewN | apply Kd.R_drew)); exact HO458.out⟩, ⟨by repeat (first | (with_reducible first | exact HI0.out | apply IsS28.alloc | apply IsS28.drewN | apply IsS28.drew) | exact HI0.out)⟩, ⟨by repeat (first | (with_reducible first | exact HK.out | apply KeepBut.set_ | apply keep_drewN | apply keep_drew | apply keep_alloc) | exact HK.out)⟩, ⟨by repeat (first | (with_reducible first | exact HB.out | apply below_alloc | apply pw_below_drewN | apply below_drew1 | refine below_set ?_ (IsS28.ge HI0.out)) | exact HB.out)⟩⟩
 case round =>
  clear H'
  try clear p2
  obtain ⟨x5_1, x6_1, rfl, HA, HK1, HO_5, HI0, HK, HB⟩ := hrel
  cases gk with
  | zero => exact absurd HA.out (by simp [spec_l20Changes.l0])
  | succ k1 =>
   have H := HA.out
   clear HA
   simp only [spec_l20Changes.l0] at H
   by_cases c5 : x6_1 < (a1.size : Int)
   ·rw [if_pos c5] at H
    have c5b0 : decide (x6_1 < (a1.size : Int)) = true := decide_eq_true c5
    clear c5
    replace H := Option.bind_eq_some_iff.mp H
    obtain ⟨⟨t459, t460⟩, A60, H⟩ := H
    replace H : (if t460 = 0 then (if x5_1.length < 17592186044416 then (spec_l20Changes.l0 k1 a1 (x5_1 ++ [x6_1]) (wrap64 (x6_1 + 1)) s0_0 s0_1) else (none)) else (spec_l20Changes.l0 k1 a1 x5_1 (wrap64 (x6_1 + 1)) s0_0 s0_1)) = some r := H
    have A6 := Aside0.mk A60
    clear A60
    by_cases c7 : t460 = 0
    ·rw [if_pos c7] at H
     have c7b0 : (t460 == 0) = true := beq_iff_eq.mpr c7
     have c7b1 : (t460 != 0) = false := bne_eq_false_iff_eq.mpr c7
     clear c7
     by_cases c8 : x5_1.length < 17592186044416
     ·rw [if_pos c8] at H
      have LMc8 := Aside0.mk c8
      clear c8
      obtain ⟨y461, hy461⟩ : ∃ y_ : List Int, y_ = (x5_1 ++ [x6_1]) := ⟨_, rfl⟩
      replace H : (spec_l20Changes.l0 k1 a1 y461 (wrap64 (x6_1 + 1)) s0_0 s0_1) = some r := by first | (rw [hy461]; with_reducible exact H) | (have H2_ := (Option.bind_some _ _).symm.trans H; rw [hy461]; with_reducible exact H2_) | (have H2_ := (Option.bind_some _ _).symm.trans H; with_reducible exact H2_) | with_reducible exact H | (rw [hy461]; exact H) | exact H
      have Ny461 := Aside0.mk hy461
      clear hy461
      have H' := Aside0.mk H
      clear H
      go_wp2_with (first | ((with_reducible refine gate_callee (f := 64) rfl ?_); refine goesL_ (some 20) rfl rfl Try.func64 (by kernel_rfl) rfl #[.pointer (some ⟨g, 0, none⟩), .string a1, .int .i64 x6_1] rfl ln_ ?_; (with_reducible refine (spec_l20Change.calls k1 g s0_0 s0_1 a1 x6_1 t459 t460 w0 _ ?side1 ?side2 A6.out).mono ?_); (case side1 => repeat (first | (with_reducible first | exact HI0.out | apply IsS28.alloc | apply IsS28.drewN | apply IsS28.drew) | exact HI0.out)); (case side2 => repeat (first | (with_reducible first | exact HB.out | apply below_alloc | apply pw_below_drewN | apply below_drew1 | refine below_set ?_ (IsS28.ge HI0.out)) | exact HB.out)); rintro e w9 ⟨rfl, hi, hb, hk⟩; refine ⟨_, rfl, ?_⟩; have n0_ := Aside0.mk (Kd.R_mono (Kd.R_keep (IsS28.apart (show IsS28 w0 _ g s0_0 s0_1 from by repeat (first | (with_reducible first | exact HI0.out | apply IsS28.alloc | apply IsS28.drewN | apply IsS28.drew) | exact HI0.out)) (kr_ HO_5) (by decide)) hk (fun _ h => h.2)) (fun _ h => h.1)); have n1_ := Aside0.mk (KeepBut.trans (by repeat (first | (with_reducible first | exact HK.out | apply KeepBut.set_ | apply keep_drewN | apply keep_drew | apply keep_alloc) | exact HK.out)) hk (.inl rfl)); have n2_ := Aside0.mk (hb); have n3_ := Aside0.mk (hi); clear HO_5; clear HK; clear HB; clear HI0; have HO_5 := n0_; have HK := n1_; have HB := n2_; have HI0 := n3_; clear n0_ n1_ n2_ n3_; (try clear hb); (try clear hb2); (try clear hk); (try clear hi)) | ((with_reducible refine gate_builtin (b := .append) (xs := #[.tmp 25, .tmp 27]) rfl ?_); at_builtin; refine Kd.R_append (Kd.int .i64) w.heap.size rfl (.tmp 25) (.tmp 27) 22 2 (.int .i64 0) 8 rfl Try.underlying22 info2 rfl (by decide) (by omega) u5 x5_1 x6_1 [.int .i64 x6_1] (fun _ => True) (fun _ => False) rfl rfl ?aP (fun _ hk => hk.elim) ?aF ?aO (Below.refl _ _) ?aS ?aL ?_; (case aP => exact rfl); (case aF => exact (fun _ _ => trivial)); (case aO => exact (kr_ HO_5)); (case aS => exact (keep_size (w := w) (g := g) (row := none) (by repeat (first | (with_reducible first | exact HK.out | apply KeepBut.set_ | apply keep_drewN | apply keep_drew | apply keep_alloc) | exact HK.out)))); (case aL => have := LMc8.out; omega); intro v462 w10 ho hb hg hat; rw [← Ny461.out] at ho; have n0_ := Aside0.mk (IsS28.grown (by repeat (first | (with_reducible first | exact HI0.out | apply IsS28.alloc | apply IsS28.drewN | apply IsS28.drew) | exact HI0.out)) hg (IsS28.own_ne HI0.out HO_5.out (by decide))); have n1_ := Aside0.mk (below_weaken (by repeat (first | (with_reducible first | exact HB.out | apply below_alloc | apply pw_below_drewN | apply below_drew1 | refine below_set ?_ (IsS28.ge HI0.out)) | exact HB.out)) HL.out hb); have n2_ := Aside0.mk (KeepBut.trans (by repeat (first | (with_reducible first | exact HK.out | apply KeepBut.set_ | apply keep_drewN | apply keep_drew | apply keep_alloc) | exact HK.out)) (KeepBut.of_grown hg g) (Kd.R_base2 HO_5.out)); have n3_ := Aside0.mk (ho); clear HI0; clear HB; clear HK; clear HO_5; have HI0 := n0_; have HB := n1_; have HK := n2_; have HO463 := n3_; clear n0_ n1_ n2_ n3_; clear ho hb hg hat))
      go_roundg k1
      case measure => have := HK1.out; omega
      case rel => exact ⟨(y461), (wrap64 (x6_1 + 1)), (by first | rfl | (simp; done) | (simp [*]; done)), H', ⟨by have := HK1.out; omega⟩, ⟨by (with_reducible repeat (first | apply Kd.R_alloc | apply Kd.R_drewN | apply Kd.R_drew)); exact HO463.out⟩, ⟨by repeat (first | (with_reducible first | exact HI0.out | apply IsS28.alloc | apply IsS28.drewN | apply IsS28.drew) | exact HI0.out)⟩, ⟨by repeat (first | (with_reducible first | exact HK.out | apply KeepBut.set_ | apply keep_drewN | apply keep_drew | apply keep_alloc) | exact HK.out)⟩, ⟨by repeat (first | (with_reducible first | exact HB.out | apply below_alloc | apply pw_below_drewN | apply below_drew1 | refine below_set ?_ (IsS28.ge HI0.out)) | exact HB.out)⟩⟩
     ·rw [if_neg c8] at H
      exact absurd H (by simp)
    ·rw [if_neg c7] at H
     have c7b0 : (t460 == 0) = false := beq_eq_false_iff_ne.mpr c7
     have c7b1 : (t460 != 0) = true := bne_iff_ne.mpr c7
     have H' := Aside0.mk H
     clear H
     go_wp2_with (first | ((with_reducible refine gate_callee (f := 64) rfl ?_); refine goesL_ (some 20) rfl rfl Try.func64 (by kernel_rfl) rfl #[.pointer (some ⟨g, 0, none⟩), .string a1, .int .i64 x6_1] rfl ln_ ?_; (with_reducible refine (spec_l20Change.calls k1 g s0_0 s0_1 a1 x6_1 t459 t460 w0 _ ?side1 ?side2 A6.out).mono ?_); (case side1 => repeat (first | (with_reducible first | exact HI0.out | apply IsS28.alloc | apply IsS28.drewN | apply IsS28.drew) | exact HI0.out)); (case side2 => repeat (first | (with_reducible first | exact HB.out | apply below_alloc | apply pw_below_drewN | apply below_drew1 | refine below_set ?_ (IsS28.ge HI0.out)) | exact HB.out)); rintro e w11 ⟨rfl, hi, hb, hk⟩; refine ⟨_, rfl, ?_⟩; have n0_ := Aside0.mk (Kd.R_mono (Kd.R_keep (IsS28.apart (show IsS28 w0 _ g s0_0 s0_1 from by repeat (first | (with_reducible first | exact HI0.out | apply IsS28.alloc | apply IsS28.drewN | apply IsS28.drew) | exact HI0.out)) (kr_ HO_5) (by decide)) hk (fun _ h => h.2)) (fun _ h => h.1)); have n1_ := Aside0.mk (KeepBut.trans (by repeat (first | (with_reducible first | exact HK.out | apply KeepBut.set_ | apply keep_drewN | apply keep_drew | apply keep_alloc) | exact HK.out)) hk (.inl rfl)); have n2_ := Aside0.mk (hb); have n3_ := Aside0.mk (hi); clear HO_5; clear HK; clear HB; clear HI0; have HO_5 := n0_; have HK := n1_; have HB := n2_; have HI0 := n3_; clear n0_ n1_ n2_ n3_; (try clear hb); (try clear hb2); (try clear hk); (try clear hi)))
     go_roundg k1
     case measure => have := HK1.out; omega
     case rel => exact ⟨(x5_1), (wrap64 (x6_1 + 1)), (by first | rfl | (simp; done) | (simp [*]; done)), H', ⟨by have := HK1.out; omega⟩, ⟨by (with_reducible repeat (first | apply Kd.R_alloc | apply Kd.R_drewN | apply Kd.R_drew)); exact HO_5.out⟩, ⟨by repeat (first | (with_reducible first | exact HI0.out | apply IsS28.alloc | apply IsS28.drewN | apply IsS28.drew) | exact HI0.out)⟩, ⟨by repeat (first | (with_reducible first | exact HK.out | apply KeepBut.set_ | apply keep_drewN | apply keep_drew | apply keep_alloc) | exact HK.out)⟩, ⟨by repeat (first | (with_reducible first | exact HB.out | apply below_alloc | apply pw_below_drewN | apply below_drew1 | refine below_set ?_ (IsS28.ge HI0.out)) | exact HB.out)⟩⟩
   ·rw [if_neg c5] at H
    have c5b0 : decide (x6_1 < (a1.size : Int)) = false := decide_eq_false c5
    clear c5
    obtain rfl := Option.some.inj H
    go_wp2
    go_ret
    exact ⟨_, ew_, by (with_reducible repeat (first | apply Kd.R_alloc | apply Kd.R_drewN | apply Kd.R_drew)); exact HO_5.out, by repeat (first | (with_reducible first | exact HI0.out | apply IsS28.alloc | apply IsS28.drewN | apply IsS28.drew) | exact HI0.out), by repeat (first | (with_reducible first | exact HB.out | apply below_alloc | apply pw_below_drewN | apply below_drew1 | refine below_set ?_ (IsS28.ge HI0.out)) | exact HB.out), by repeat (first | (with_reducible first | exact HK.out | apply KeepBut.set_ | apply keep_drewN | apply keep_drew | apply keep_alloc) | exact HK.out)⟩

end Go.Proofs.Ytfkiamccipoioaa.P
end
