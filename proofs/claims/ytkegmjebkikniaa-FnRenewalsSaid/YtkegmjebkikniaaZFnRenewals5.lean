/- Texts of this claim, packed: Px15. -/
import Derived.Test.YtkegmjebkikniaaZFnRenewals4
section
-- Written by gprint.py (own program, over the printer of the kit) out of the translation. Lean checks it.
namespace Go.Proofs.Ytkegmjebkikniaa.P
open Go.RowKit Go.Proofs.YtkegmjebkikniaaW.PrintWords Go.Proofs.YtkegmjebkikniaaW.PrintLast Go.Proofs.YtkegmjebkikniaaW.PrintMore Go.Proofs.YtkegmjebkikniaaW.Pk
open Bool renaming true → T_, false → F_
open List renaming setIfInBounds_toArray → sT_, set_cons_zero → s0_, set_cons_succ → sS_
attribute [local go_sem] max2_int min2_int max_two min_two max_three min_three max_four min_four   -- for this text's walks alone
set_option linter.unusedVariables false
set_option linter.unusedSimpArgs false

/-! ### impl_MostInTime: function 26 -/
-- (by hand)
open Go.Proofs.YtkegmjebkikniaaW.Hand
attribute [local go_sem] max2_int min2_int max_two min_two max_three min_three max_four min_four
/-- The variables of the walk through all orders: 'order' at bo, 'n' at bn, 'call' at bc, 'fill' at bf; what the call keeps lies in the blocks fp. -/
structure EInvM {σ : Type} (J : σ → World → (Nat → Prop) → Prop) (base : Nat) (w : World) (bo bn bc bf n : Nat) (p0 p1 : Addr) (vo : Value) (o : List Int) (s : σ) (fp : Nat → Prop) : Prop where
 ho : w.heap[bo]? = some (.cells #[vo] 37 (0, 0))
 hn : w.heap[bn]? = some (.cells #[.int .i64 (n : Int)] 3 (0, 0))
 hc : w.heap[bc]? = some (.cells #[.func (.func 65) #[] #[.pointer (some p0), .pointer (some p1)]] 76 (0, 0))
 hf : w.heap[bf]? = some (.cells #[.func (.func 90) #[] #[.pointer (some ⟨bo, 0, none⟩), .pointer (some ⟨bn, 0, none⟩), .pointer (some ⟨bc, 0, none⟩), .pointer (some ⟨bf, 0, none⟩)]] 1 (0, 0))
 row : w.ownsRow base 2 1 vo o.length (nums .i64 o)
 nb : ¬ fp bo ∧ ¬ fp bn ∧ ¬ fp bc ∧ ¬ fp bf
 nr : ∀ r, vo.ownBlock = some r → ¬ fp r
 j : J s w fp
 fl : ∀ k, fp k → k < w.heap.size
 bs : base ≤ w.heap.size
section
variable {σ : Type} {J : σ → World → (Nat → Prop) → Prop} {base : Nat} {w w1 : World} {bo bn bc bf n : Nat} {p0 p1 : Addr} {vo : Value} {o : List Int} {s : σ} {fp : Nat → Prop}
theorem EInvM.c0 (h : EInvM J base w bo bn bc bf n p0 p1 vo o s fp) : w.cell? ⟨bo, 0, none⟩ = some vo := (blk_cell h.ho 0).trans rfl
theorem EInvM.f0 (h : EInvM J base w bo bn bc bf n p0 p1 vo o s fp) : w.frozen? ⟨bo, 0, none⟩ = false := blk_frozen h.ho 0
theorem EInvM.c1 (h : EInvM J base w bo bn bc bf n p0 p1 vo o s fp) : w.cell? ⟨bn, 0, none⟩ = some (.int .i64 (n : Int)) := (blk_cell h.hn 0).trans rfl
theorem EInvM.c2 (h : EInvM J base w bo bn bc bf n p0 p1 vo o s fp) : w.cell? ⟨bc, 0, none⟩ = some (.func (.func 65) #[] #[.pointer (some p0), .pointer (some p1)]) := (blk_cell h.hc 0).trans rfl
theorem EInvM.c3 (h : EInvM J base w bo bn bc bf n p0 p1 vo o s fp) : w.cell? ⟨bf, 0, none⟩ = some (.func (.func 90) #[] #[.pointer (some ⟨bo, 0, none⟩), .pointer (some ⟨bn, 0, none⟩), .pointer (some ⟨bc, 0, none⟩), .pointer (some ⟨bf, 0, none⟩)]) := (blk_cell h.hf 0).trans rfl
theorem EInvM.ne (h : EInvM J base w bo bn bc bf n p0 p1 vo o s fp) : ∀ r, vo.ownBlock = some r → r ≠ bo ∧ r ≠ bn ∧ r ≠ bc ∧ r ≠ bf := fun r hr => by
 obtain ⟨cells, hc⟩ := own_typed h.row r hr
 exact ⟨blk_ne hc h.ho (by decide), blk_ne hc h.hn (by decide), blk_ne hc h.hc (by decide), blk_ne hc h.hf (by decide)⟩
theorem EInvM.step (h : EInvM J base w bo bn bc bf n p0 p1 vo o s fp) (hJ : ∀ s w w' fp, J s w fp → KeepP fp w w' → J s w' fp) (hb : Below w.heap.size w w1) : EInvM J base w1 bo bn bc bf n p0 p1 vo o s fp :=
 ⟨(hb.block bo (blk_lt h.ho)).trans h.ho, (hb.block bn (blk_lt h.hn)).trans h.hn, (hb.block bc (blk_lt h.hc)).trans h.hc, (hb.block bf (blk_lt h.hf)).trans h.hf, pw_own_below h.row hb, h.nb, h.nr, hJ _ _ _ _ h.j (KeepP.of_below hb), fun k hk => Nat.lt_of_lt_of_le (h.fl k hk) hb.size, Nat.le_trans h.bs hb.size⟩
/-- The order's row has been written or grown, and its variable is stored. -/
theorem EInvM.put (h : EInvM J base w bo bn bc bf n p0 p1 vo o s fp) (hJ : ∀ s w w' fp, J s w fp → KeepP fp w w' → J s w' fp) {v1 : Value} {o1 : List Int} (ho : w1.ownsRow base 2 1 v1 o1.length (nums .i64 o1)) (hg : w.grownBy w1 vo.ownBlock) (hat : v1.ownBlock = vo.ownBlock ∨ ∃ b, v1.ownBlock = some b ∧ w.heap.size ≤ b) :
  EInvM J base (w1.setCell ⟨bo, 0, none⟩ v1) bo bn bc bf n p0 p1 v1 o1 s fp ∧ KeepP (fun k => k ≠ bo ∧ some k ≠ vo.ownBlock) w (w1.setCell ⟨bo, 0, none⟩ v1) ∧ w1.heap[bo]? = some (.cells #[vo] 37 (0, 0)) := by
 have hne := h.ne
 have k1 := KeepP.of_grown hg
 have k2 : KeepP (fun k => k ≠ bo ∧ some k ≠ vo.ownBlock) w (w1.setCell ⟨bo, 0, none⟩ v1) := k1.trans (KeepP.of_set w1 ⟨bo, 0, none⟩ v1) (fun j _ hp => hp.2) (fun j _ hp => hp.1)
 have hbo : some bo ≠ vo.ownBlock := fun e => (hne bo e.symm).1 rfl
 have hbn : bn ≠ bo ∧ some bn ≠ vo.ownBlock := ⟨blk_ne h.hn h.ho (by decide), fun e => (hne bn e.symm).2.1 rfl⟩
 have hbc : bc ≠ bo ∧ some bc ≠ vo.ownBlock := ⟨blk_ne h.hc h.ho (by decide), fun e => (hne bc e.symm).2.2.1 rfl⟩
 have hbf : bf ≠ bo ∧ some bf ≠ vo.ownBlock := ⟨blk_ne h.hf h.ho (by decide), fun e => (hne bf e.symm).2.2.2 rfl⟩
 have ho1 : w1.heap[bo]? = _ := blk_grown h.ho hg hbo
 have hr1 : ∀ r, v1.ownBlock = some r → r ≠ bo := fun r hr => by
  obtain ⟨cells, hc⟩ := own_typed ho r hr
  exact blk_ne hc ho1 (by decide)
 refine ⟨⟨blk_set ho1 0 v1, k2.blk h.hn hbn, k2.blk h.hc hbc, k2.blk h.hf hbf, own_setCell ho (fun e => hr1 bo e.symm rfl) _, h.nb, fun r hr hfr => ?_, hJ _ _ _ _ h.j (k2.imp (fun j _ hp => ⟨fun e => h.nb.1 (e ▸ hp), fun e => h.nr j e.symm hp⟩)), fun k hk => Nat.lt_of_lt_of_le (h.fl k hk) k2.size, Nat.le_trans h.bs k2.size⟩, k2, ho1⟩
 rcases hat with hat | ⟨b, hb, hlb⟩
 ·exact h.nr r (hat ▸ hr) hfr
 ·have : b = r := by rw [hb] at hr; injection hr
  have := h.fl r hfr
  omega
end
theorem truncM {σ : Type} {J : σ → World → (Nat → Prop) → Prop} {base : Nat} {w : World} {bo bn bc bf n : Nat} {p0 p1 : Addr} {A : Option Addr} {c : Nat} {o : List Int} {i : Int} {s : σ} {fp : Nat → Prop} (h : EInvM J base w bo bn bc bf n p0 p1 (.slice A (o ++ [i]).length c) (o ++ [i]) s fp) (hJ : ∀ s w w' fp, J s w fp → KeepP fp w w' → J s w' fp) :
  EInvM J base (w.setCell ⟨bo, 0, none⟩ (.slice A o.length c)) bo bn bc bf n p0 p1 (.slice A o.length c) o s fp ∧ KeepP (fun k => k ≠ bo ∧ some k ≠ (Value.slice A (o ++ [i]).length c).ownBlock) w (w.setCell ⟨bo, 0, none⟩ (.slice A o.length c)) := by
 have ht := hand_take (m := o.length) h.row (by simp)
 rw [show (nums .i64 (o ++ [i])).take (o.length * 1) = nums .i64 o by rw [nums_append, Nat.mul_one, List.take_left' (nums_length _ _)]] at ht
 have := h.put hJ ht (World.grownBy.refl _ _) (Or.inl (by cases A <;> rfl))
 exact ⟨this.1, this.2.1⟩
/-- What one call, or the walk from an order on, leaves. -/
def EPostM {σ : Type} (J : σ → World → (Nat → Prop) → Prop) (base : Nat) (w : World) (bo bn bc bf n : Nat) (p0 p1 : Addr) (vo : Value) (o : List Int) (s' : σ) (fp : Nat → Prop) (e : Ending) (w' : World) : Prop :=
 e = .returned (.tuple #[]) ∧ ∃ vo' fp', EInvM J base w' bo bn bc bf n p0 p1 vo' o s' fp' ∧ (∀ k, fp' k → fp k ∨ w.heap.size ≤ k) ∧ (vo'.ownBlock = vo.ownBlock ∨ ∃ b, vo'.ownBlock = some b ∧ w.heap.size ≤ b) ∧ KeepP (fun k => ¬ fp k ∧ k ≠ bo ∧ some k ≠ vo.ownBlock) w w'
/-- What the call does. -/
def ECallM {σ : Type} (J : σ → World → (Nat → Prop) → Prop) (step : σ → List Int → Option σ) (p0 p1 : Addr) : Prop :=
 ∀ (s s' : σ) (o : List Int) (w : World) (fp : Nat → Prop) (A : Option Addr) (no c : Nat), no = o.length → J s w fp → (∀ k, fp k → k < w.heap.size) → Kd.C (Kd.int .i64) w A o.length o → o.length ≤ c → o.length ≤ 7 → step s o = some s' →
  Calls Try.prog 65 #[.slice A no c, .pointer (some p0), .pointer (some p1)] w fun e w' => e = .returned (.tuple #[]) ∧ ∃ fp', J s' w' fp' ∧ (∀ k, fp' k → k < w'.heap.size) ∧ (∀ k, fp' k → fp k ∨ w.heap.size ≤ k) ∧ KeepP (fun k => ¬ fp k) w w'

set_option maxRecDepth 100000 in
set_option maxHeartbeats 8000000 in
theorem eachM_fill {σ : Type} (J : σ → World → (Nat → Prop) → Prop) (step : σ → List Int → Option σ) (base : Nat) (bo bn bc bf n : Nat) (hn7 : n ≤ 7) (p0 p1 : Addr) (hJ : ∀ s w w' fp, J s w fp → KeepP fp w w' → J s w' fp) (hC : ECallM J step p0 p1) (m : Nat) : ∀ (w : World) (vo : Value) (o : List Int) (s s' : σ) (fp : Nat → Prop), EInvM J base w bo bn bc bf n p0 p1 vo o s fp → o.length + m = n → (ordersFrom n m o).foldlM step s = some s' →
  Calls Try.prog 90 #[.pointer (some ⟨bo, 0, none⟩), .pointer (some ⟨bn, 0, none⟩), .pointer (some ⟨bc, 0, none⟩), .pointer (some ⟨bf, 0, none⟩)] w (EPostM J base w bo bn bc bf n p0 p1 vo o s' fp) := by
 induction m with
 | zero =>
  intro w vo o s s' fp h he hr
  have eg : ∀ args w, (callFunc 65 args).run Try.prog w = .ok (.enter 65 args) w := enters_of Try.func65 (by kernel_rfl) rfl
  obtain ⟨A, c, rfl⟩ := own_slice h.row
  have c0 := h.c0
  have c1 := h.c1
  have c2 := h.c2
  have hb : ((o.length : Int) == (n : Int)) = true := by simp; omega
  have hs : step s o = some s' := by
   rw [ordersFrom, List.foldlM_cons] at hr
   obtain ⟨q, h1, h2⟩ := Option.bind_eq_some_iff.mp hr
   rw [List.foldlM_nil] at h2
   rw [h1]; exact h2
  have HI := Aside0.mk h
  have HS := Aside0.mk hs
  have HO7 : Aside0 (o.length ≤ 7) := ⟨by omega⟩
  clear h hs hr
  go_enter Try.func90, Try.ntmps90
  go_wp2_with (go_at_call 65; refine (hC s s' o w fp A _ c rfl HI.out.j HI.out.fl (C_of_nums HI.out.row) (own_cap HI.out.row) HO7.out HS.out).mono ?_; rintro e w1 ⟨rfl, fp1, hj1, hl1, hf1, hk1⟩; have HP : Aside0 (EPostM J base w bo bn bc bf n p0 p1 (.slice A o.length c) o s' fp (.returned (.tuple #[])) w1) := ⟨(by { have h := HI.out; have nn : ∀ k, k < w.heap.size → ¬ fp k → ¬ fp1 k := (fun k hk hn hf => (hf1 k hf).elim hn (fun h2 => by omega)); exact ⟨rfl, .slice A o.length c, fp1, ⟨hk1.blk h.ho h.nb.1, hk1.blk h.hn h.nb.2.1, hk1.blk h.hc h.nb.2.2.1, hk1.blk h.hf h.nb.2.2.2, hk1.own h.row (fun k hk => h.nr k hk), ⟨nn _ (blk_lt h.ho) h.nb.1, nn _ (blk_lt h.hn) h.nb.2.1, nn _ (blk_lt h.hc) h.nb.2.2.1, nn _ (blk_lt h.hf) h.nb.2.2.2⟩, (fun r hr => nn r (own_lt h.row r hr) (h.nr r hr)), hj1, hl1, Nat.le_trans h.bs hk1.size⟩, hf1, Or.inl rfl, hk1.imp (fun j _ hp => hp.1)⟩ })⟩; clear hj1 hl1 hf1 hk1 HI)
  first | go_end0 | refine bodyPost_ret (results_none rfl _ _ _) rfl ?_
  exact HP.out
 | succ m ih =>
  intro w vo o s s' fp h he hr
  have eg : ∀ args w, (callFunc 90 args).run Try.prog w = .ok (.enter 90 args) w := enters_of Try.func90 (by kernel_rfl) rfl
  obtain ⟨A, c, rfl⟩ := own_slice h.row
  have c0 := h.c0
  have c1 := h.c1
  have hb : ((o.length : Int) == (n : Int)) = false := by simp; omega
  have HE := Aside0.mk he
  have HI := Aside0.mk h
  have HR : Aside0 ((ordersAt n m o 0).foldlM step s = some s') := ⟨by rw [← ordersFrom_eq]; exact hr⟩
  have hol : o.length ≤ 7 := by omega
  clear h hr
  go_enter Try.func90, Try.ntmps90
  go_wp2_with fail
  clear c0 c1 hb
  go_loopg [5] n (fun gg v5 wr => ∃ i : Nat, v5 = .int .i64 (i : Int) ∧ Aside0 (i ≤ n ∧ n - i ≤ gg) ∧ Aside0 (∃ A' c' s1 fp1, EInvM J base wr bo bn bc bf n p0 p1 (.slice A' o.length c') o s1 fp1 ∧ (ordersAt n m o i).foldlM step s1 = some s' ∧ (∀ k, fp1 k → fp k ∨ w.heap.size ≤ k) ∧ ((Value.slice A' o.length c').ownBlock = (Value.slice A o.length c).ownBlock ∨ ∃ b, (Value.slice A' o.length c').ownBlock = some b ∧ w.heap.size ≤ b) ∧ KeepP (fun k => ¬ fp k ∧ k ≠ bo ∧ some k ≠ (Value.slice A o.length c).ownBlock) w wr))
  case atStart => exact ⟨0, rfl, ⟨Nat.zero_le _, by omega⟩, ⟨_, _, _, _, HI.out, HR.out, fun k hk => Or.inl hk, Or.inl rfl, KeepP.refl _ _⟩⟩
  case round =>
   clear HR
   obtain ⟨i, rfl, HJ, HI'⟩ := hrel
   obtain ⟨A', c', s1, fp1, hI, hR, hf1, hat1, hk1⟩ := HI'.out
   clear HI'
   have c0 := hI.c0
   have c1 := hI.c1
   by_cases hlt : i < n
   ·have hltb : decide (i < n) = true := decide_eq_true hlt
    rw [ordersAt_step _ _ _ _ hlt] at hR
    obtain ⟨q, h1, h2⟩ := foldlM_split hR
    have HFR := Aside0.mk (And.intro hf1 (And.intro hat1 hk1))
    by_cases hm : (i : Int) ∈ o
    ·rw [if_pos hm] at h1
     obtain rfl : s1 = q := Option.some.inj h1
     have HH : Aside0 (slices_Contains_int64_int64.f (o.length + 1) o (i : Int) = some true) := ⟨by rw [contains_f _ _ (by omega), decide_eq_true hm]⟩
     have HI1 := Aside0.mk hI
     have H2 := Aside0.mk h2
     clear hI hR h1 h2 hm hf1 hat1 hk1
     go_wp2_with (go_at_call 91; refine (slices_Contains_int64_int64.calls (o.length + 1) A' c' o (i : Int) true wr (C_of_nums HI1.out.row) (own_cap HI1.out.row) HH.out).mono ?_; rintro e w2 ⟨rfl, hb2⟩; have HB2 := Aside0.mk hb2.below; clear hb2)
     go_roundg (n - (i + 1))
     case measure => have := HJ.out; omega
     case rel => exact ⟨i + 1, by go_num, ⟨by omega, by omega⟩, ⟨_, _, _, _, HI1.out.step hJ HB2.out, H2.out, HFR.out.1, HFR.out.2.1, HFR.out.2.2.trans (KeepP.of_below (P := fun _ => True) HB2.out) (fun _ _ h => h) (fun _ _ _ => trivial)⟩⟩
    ·rw [if_neg hm] at h1
     have HH : Aside0 (slices_Contains_int64_int64.f (o.length + 1) o (i : Int) = some false) := ⟨by rw [contains_f _ _ (by omega), decide_eq_false hm]⟩
     have HI1 := Aside0.mk hI
     have H1 := Aside0.mk h1
     have H2 := Aside0.mk h2
     clear hI hR h1 h2 hm hf1 hat1 hk1
     go_wp2_with (first
      | (go_at_call 91; refine (slices_Contains_int64_int64.calls (o.length + 1) A' c' o (i : Int) false wr (C_of_nums HI1.out.row) (own_cap HI1.out.row) HH.out).mono ?_; rintro e w2 ⟨rfl, hb2⟩; have hI2 := HI1.out.step hJ hb2.below; have c02 := hI2.c0; have HI2 := Aside0.mk hI2; have HB2 := Aside0.mk hb2.below; clear hb2 hI2 c0)
      | (at_builtin; refine print_append_num (w0 := w2) base rfl (.tmp 23) (.tmp 25) 37 2 .i64 8 rfl Try.underlying37 info2e (by decide) (.slice A' o.length c') o (i : Int) rfl rfl HI2.out.row (Below.refl _ _) HI2.out.bs (by omega) ?_; intro v3 w3 hown hbel hgr hat; obtain ⟨A3, n3, e3⟩ := own_slice hown; rw [e3]; rw [e3] at hown hat; have hp := HI2.out.put hJ hown hgr hat; have d0 := (blk_cell hp.2.2 0).trans rfl; have f0 := blk_frozen hp.2.2 0; have HP3 := Aside0.mk hp; have HAT3 := Aside0.mk hat; clear hown hbel hgr hat hp e3 c02)
      | (refine hand_store (fun w' => EInvM J base w' bo bn bc bf n p0 p1 (.slice A3 (o ++ [(i : Int)]).length n3) (o ++ [(i : Int)]) s1 fp1 ∧ KeepP (fun k => k ≠ bo ∧ some k ≠ (Value.slice A' o.length c').ownBlock) w2 w') (t := 37) (p := 0) (v := .tmp 26) (w1 := w3.setCell ⟨bo, 0, none⟩ (.slice A3 (o ++ [(i : Int)]).length n3)) ?hg rfl ?hN ?hr ?hF ?_; (case hg => rfl); (case hN => rfl); (case hr => first | (go_simp; done) | (go_simp; rfl)); (case hF => exact ⟨HP3.out.1, HP3.out.2.1⟩); clear d0 f0 HP3; rintro w4 ⟨hI4, hk4⟩; have n3c := hI4.c3; have HI4 := Aside0.mk hI4; have HK4 := Aside0.mk hk4; clear hI4 hk4)
      | (go_at_call 90; refine (ih w4 _ (o ++ [(i : Int)]) s1 q fp1 HI4.out (by rw [List.length_append]; show o.length + 1 + m = _; have := HE.out; omega) H1.out).mono ?_; rintro e w5 ⟨rfl, vo5, fp5, hI5, hf5, hat5, hk5⟩; obtain ⟨A5, n5, e5⟩ := own_slice hI5.row; rw [e5] at hI5 hat5; clear e5; have hle5 := own_cap hI5.row; have hle6 : o.length ≤ n5 := (by rw [List.length_append] at hle5; exact Nat.le_trans (Nat.le_add_right _ _) hle5); have c05 := hI5.c0; have f05 := hI5.f0; have HI5 := Aside0.mk hI5; have HF5 := Aside0.mk (And.intro hf5 (And.intro hat5 hk5)); clear hI5 hf5 hat5 hk5 hle5 n3c)
      | (refine hand_store (fun w' => EInvM J base w' bo bn bc bf n p0 p1 (.slice A5 o.length n5) o q fp5 ∧ KeepP (fun k => k ≠ bo ∧ some k ≠ (Value.slice A5 (o ++ [(i : Int)]).length n5).ownBlock) w5 w') (t := 37) (p := 0) (v := .tmp 31) (w1 := w5.setCell ⟨bo, 0, none⟩ (.slice A5 o.length n5)) ?hg6 rfl ?hN6 ?hr6 ?hF6 ?_; (case hg6 => rfl); (case hN6 => rfl); (case hr6 => first | (go_simp; done) | (go_simp; rfl)); (case hF6 => exact truncM HI5.out hJ); clear c05 f05 hle6; rintro w6 ⟨hI6, hk6⟩; have HI6 := Aside0.mk hI6; have HK6 := Aside0.mk hk6; clear hI6 hk6))
     have HEND : Aside0 ((∀ k, fp5 k → fp k ∨ w.heap.size ≤ k) ∧ ((Value.slice A5 o.length n5).ownBlock = (Value.slice A o.length c).ownBlock ∨ ∃ b, (Value.slice A5 o.length n5).ownBlock = some b ∧ w.heap.size ≤ b) ∧ KeepP (fun k => ¬ fp k ∧ k ≠ bo ∧ some k ≠ (Value.slice A o.length c).ownBlock) w w6) := ⟨by
      obtain ⟨hf1, hat1, hk1⟩ := HFR.out
      obtain ⟨hf5, hat5, hk5⟩ := HF5.out
      have s1 := hk1.size
      have s2 := HB2.out.size
      have s4 := HK4.out.size
      have s5 := hk5.size
      refine ⟨fun k hk => ?_, ?_, ?_⟩
      ·rcases hf5 k hk with h5 | h5
       ·exact hf1 k h5
       ·exact Or.inr (by omega)
      ·exact ends_at hat1 HAT3.out hat5 (by omega) (by omega)
      ·have q1 := hk1.trans (KeepP.of_below (P := fun _ => True) HB2.out) (P := fun k => ¬ fp k ∧ k ≠ bo ∧ some k ≠ (Value.slice A o.length c).ownBlock) (fun _ _ h => h) (fun _ _ _ => trivial)
       have n1 : ∀ j, j < w.heap.size → some j ≠ (Value.slice A o.length c).ownBlock → some j ≠ (Value.slice A' o.length c').ownBlock := fun j hj hp e => by
        rcases hat1 with h | ⟨b, h, hb⟩
        ·exact hp (by rw [e, h])
        ·rw [h] at e; injection e with e; omega
       have n3 : ∀ j, j < w.heap.size → some j ≠ (Value.slice A o.length c).ownBlock → some j ≠ (Value.slice A3 (o ++ [(i : Int)]).length n3).ownBlock := fun j hj hp e => by
        rcases HAT3.out with h | ⟨b, h, hb⟩
        ·exact n1 j hj hp (by rw [e, h])
        ·rw [h] at e; injection e with e; omega
       have n5' : ∀ j, j < w.heap.size → some j ≠ (Value.slice A o.length c).ownBlock → some j ≠ (Value.slice A5 (o ++ [(i : Int)]).length n5).ownBlock := fun j hj hp e => by
        rcases hat5 with h | ⟨b, h, hb⟩
        ·exact n3 j hj hp (by rw [e, h])
        ·rw [h] at e; injection e with e; omega
       have nf1 : ∀ j, j < w.heap.size → ¬ fp j → ¬ fp1 j := fun j hj hp e => (hf1 j e).elim hp (fun h => by omega)
       have q2 := q1.trans HK4.out (P := fun k => ¬ fp k ∧ k ≠ bo ∧ some k ≠ (Value.slice A o.length c).ownBlock) (fun _ _ h => h) (fun j hj h => ⟨h.2.1, n1 j hj h.2.2⟩)
       have q3 := q2.trans hk5 (P := fun k => ¬ fp k ∧ k ≠ bo ∧ some k ≠ (Value.slice A o.length c).ownBlock) (fun _ _ h => h) (fun j hj h => ⟨nf1 j hj h.1, h.2.1, n3 j hj h.2.2⟩)
       exact q3.trans HK6.out (fun _ _ h => h) (fun j hj h => ⟨h.2.1, n5' j hj h.2.2⟩)⟩
     go_roundg (n - (i + 1))
     case measure => have := HJ.out; omega
     case rel => exact ⟨i + 1, by go_num, ⟨by omega, by omega⟩, ⟨_, _, _, _, HI6.out, H2.out, HEND.out.1, HEND.out.2.1, HEND.out.2.2⟩⟩
   ·have hltb : decide (i < n) = false := decide_eq_false hlt
    rw [ordersAt_end _ _ _ _ (by omega)] at hR
    obtain rfl : s1 = s' := Option.some.inj hR
    have HP : Aside0 (EPostM J base w bo bn bc bf n p0 p1 (.slice A o.length c) o s1 fp (.returned (.tuple #[])) wr) := ⟨⟨rfl, _, _, hI, hf1, hat1, hk1⟩⟩
    clear hI hR hf1 hat1 hk1
    go_wp2_with fail
    first | go_end0 | refine bodyPost_ret (results_none rfl _ _ _) rfl ?_
    exact HP.out

set_option maxRecDepth 100000 in
set_option maxHeartbeats 8000000 in
theorem eachM_calls {σ : Type} (J : σ → World → (Nat → Prop) → Prop) (step : σ → List Int → Option σ) (n : Nat) (hn7 : n ≤ 7) (p0 p1 : Addr) (hJ : ∀ s w w' fp, J s w fp → KeepP fp w w' → J s w' fp) (hC : ECallM J step p0 p1) (w : World) (s s' : σ) (fp : Nat → Prop) (hj : J s w fp) (hfl : ∀ k, fp k → k < w.heap.size) (hr : (ordersFrom n n []).foldlM step s = some s') :
  Calls Try.prog 64 #[.int .i64 (n : Int), .func (.func 65) #[] #[.pointer (some p0), .pointer (some p1)]] w fun e w' => e = .returned (.tuple #[]) ∧ ∃ fp', J s' w' fp' ∧ (∀ k, fp' k → k < w'.heap.size) ∧ (∀ k, fp' k → fp k ∨ w.heap.size ≤ k) ∧ KeepP (fun k => ¬ fp k) w w' := by
 have eg : ∀ args w, (callFunc 90 args).run Try.prog w = .ok (.enter 90 args) w := enters_of Try.func90 (by kernel_rfl) rfl
 have hmf : ∀ (fn : Fn) (first cap : Array Value) (w : World), (Instr.makeFunc fn first cap).run Try.prog w = .ok (.func fn first cap) w := fun _ _ _ _ => rfl
 have HJ := Aside0.mk hj
 have HFL := Aside0.mk hfl
 have HR := Aside0.mk hr
 clear hj hfl hr
 go_enter Try.func64, Try.ntmps64
 go_wp2_with (first
  | ((with_reducible refine gate_dst (N := 2) rfl ?_); refine hand_box (fun g w1 => w1.heap[g]? = some (.cells #[.int .i64 (n : Int)] 3 (0, 0)) ∧ Below w.heap.size w w1 ∧ w.heap.size ≤ g) ?hg1 (N := 2) ?hd1 (cs := #[.int .i64 (n : Int)]) (t := 3) ?hr1 ?hF1 ?_; (case hd1 => rfl); (case hg1 => rfl); (case hr1 => first | (go_simp; done) | (go_simp; rfl)); (case hF1 => exact ⟨heap_alloc_new _ _, below_alloc (Below.refl _ _) _, Nat.le_refl _⟩); intro bn w1 h1; have H1 := Aside0.mk h1; clear h1)
  | ((with_reducible refine gate_dst (N := 3) rfl ?_); refine hand_box (fun g w2 => w2.heap[g]? = some (.cells #[.func (.func 65) #[] #[.pointer (some p0), .pointer (some p1)]] 76 (0, 0)) ∧ w.heap.size ≤ g ∧ w2.heap[bn]? = some (.cells #[.int .i64 (n : Int)] 3 (0, 0)) ∧ Below w.heap.size w w2 ∧ w.heap.size ≤ bn) ?hg2 (N := 3) ?hd2 (cs := #[.func (.func 65) #[] #[.pointer (some p0), .pointer (some p1)]]) (t := 76) ?hr2 ?hF2 ?_; (case hd2 => rfl); (case hg2 => rfl); (case hr2 => first | (go_simp; done) | (go_simp; rfl)); (case hF2 => exact ⟨heap_alloc_new _ _, H1.out.2.1.size, blk_alloc H1.out.1 _, below_then H1.out.2.1 H1.out.2.1.size (below_alloc (Below.refl _ _) _), H1.out.2.2⟩); intro bc w2 h2; have H2 := Aside0.mk h2; clear h2 H1)
  | ((with_reducible refine gate_dst (N := 6) rfl ?_); refine Kd.R_lit (Kd.int .i64) w.heap.size 2 ?hg3 (w0 := w) (N := 6) ?hd3 (xs := ([] : List Int)) (inner := []) (ok := fun _ => True) (okp := fun _ => True) ?hr3 ?hp3 (fun _ hk => hk) trivial H2.out.2.2.2.1 H2.out.2.2.2.1.size (by simp) ?_; (case hd3 => rfl); (case hg3 => rfl); (case hr3 => first | (go_simp; done) | (go_simp; rfl)); (case hp3 => exact (Reps.none _ _)); intro v3 w3 ho3 hb3 hg3 _; have ho4 := nums_of_R ho3; obtain ⟨A3, n3, e3⟩ := own_slice ho4; rw [e3] at ho4; rw [e3]; have H3 := Aside0.mk (show w3.heap[bc]? = some (.cells #[.func (.func 65) #[] #[.pointer (some p0), .pointer (some p1)]] 76 (0, 0)) ∧ w.heap.size ≤ bc ∧ w3.heap[bn]? = some (.cells #[.int .i64 (n : Int)] 3 (0, 0)) ∧ Below w.heap.size w w3 ∧ w.heap.size ≤ bn ∧ w3.ownsRow w.heap.size 2 1 (.slice A3 ([] : List Int).length n3) ([] : List Int).length (nums .i64 []) from ⟨blk_grown H2.out.1 hg3 (by simp), H2.out.2.1, blk_grown H2.out.2.2.1 hg3 (by simp), hb3, H2.out.2.2.2.2, ho4⟩); clear ho3 ho4 hb3 hg3 e3 H2)
  | ((with_reducible refine gate_dst (N := 4) rfl ?_); refine hand_box (fun g w4 => w4.heap[g]? = some (.cells #[.slice none 0 0] 37 (0, 0)) ∧ w.heap.size ≤ g ∧ w4.heap[bc]? = some (.cells #[.func (.func 65) #[] #[.pointer (some p0), .pointer (some p1)]] 76 (0, 0)) ∧ w.heap.size ≤ bc ∧ w4.heap[bn]? = some (.cells #[.int .i64 (n : Int)] 3 (0, 0)) ∧ Below w.heap.size w w4 ∧ w.heap.size ≤ bn ∧ w4.ownsRow w.heap.size 2 1 (.slice A3 ([] : List Int).length n3) ([] : List Int).length (nums .i64 [])) ?hg4 (N := 4) ?hd4 (cs := #[.slice none 0 0]) (t := 37) ?hr4 ?hF4 ?_; (case hd4 => rfl); (case hg4 => rfl); (case hr4 => first | (go_simp; done) | (go_simp; rfl)); (case hF4 => exact ⟨heap_alloc_new _ _, H3.out.2.2.2.1.size, blk_alloc H3.out.1 _, H3.out.2.1, blk_alloc H3.out.2.2.1 _, below_then H3.out.2.2.2.1 H3.out.2.2.2.1.size (below_alloc (Below.refl _ _) _), H3.out.2.2.2.2.1, H3.out.2.2.2.2.2.alloc _⟩); intro bo w4 h4; have e0 : w4.cell? ⟨bo, 0, none⟩ = some (.slice none 0 0) := (blk_cell h4.1 0).trans rfl; have e1 := blk_frozen h4.1 0; have H4 := Aside0.mk h4; clear h4 H3)
  | (refine hand_store (fun w5 => w5.heap[bo]? = some (.cells #[.slice A3 ([] : List Int).length n3] 37 (0, 0)) ∧ w.heap.size ≤ bo ∧ w5.heap[bc]? = some (.cells #[.func (.func 65) #[] #[.pointer (some p0), .pointer (some p1)]] 76 (0, 0)) ∧ w.heap.size ≤ bc ∧ w5.heap[bn]? = some (.cells #[.int .i64 (n : Int)] 3 (0, 0)) ∧ Below w.heap.size w w5 ∧ w.heap.size ≤ bn ∧ w5.ownsRow w.heap.size 2 1 (.slice A3 ([] : List Int).length n3) ([] : List Int).length (nums .i64 [])) (t := 37) (p := 4) (v := .tmp 6) (w1 := w4.setCell ⟨bo, 0, none⟩ (.slice A3 ([] : List Int).length n3)) ?hg5 rfl ?hN5 ?hr5 ?hF5 ?_; (case hg5 => rfl); (case hN5 => rfl); (case hr5 => first | (go_simp; done) | (go_simp; rfl)); (case hF5 => exact ⟨blk_set H4.out.1 0 _, H4.out.2.1, blk_far H4.out.2.2.1 (blk_ne H4.out.2.2.1 H4.out.1 (by decide)) _, H4.out.2.2.2.1, blk_far H4.out.2.2.2.2.1 (blk_ne H4.out.2.2.2.2.1 H4.out.1 (by decide)) _, H4.out.2.2.2.2.2.1.setCell H4.out.2.1 _, H4.out.2.2.2.2.2.2.1, own_setCell H4.out.2.2.2.2.2.2.2 (own_ne H4.out.2.2.2.2.2.2.2 H4.out.1 (by decide)) _⟩); clear e0 e1 H4; intro w5 h5; have H5 := Aside0.mk h5; clear h5)
  | ((with_reducible refine gate_dst (N := 5) rfl ?_); refine hand_box (fun g w6 => w6.heap[g]? = some (.cells #[.nilFunc] 1 (0, 0)) ∧ w.heap.size ≤ g ∧ w6.heap[bo]? = some (.cells #[.slice A3 ([] : List Int).length n3] 37 (0, 0)) ∧ w.heap.size ≤ bo ∧ w6.heap[bc]? = some (.cells #[.func (.func 65) #[] #[.pointer (some p0), .pointer (some p1)]] 76 (0, 0)) ∧ w.heap.size ≤ bc ∧ w6.heap[bn]? = some (.cells #[.int .i64 (n : Int)] 3 (0, 0)) ∧ Below w.heap.size w w6 ∧ w.heap.size ≤ bn ∧ w6.ownsRow w.heap.size 2 1 (.slice A3 ([] : List Int).length n3) ([] : List Int).length (nums .i64 [])) ?hg6 (N := 5) ?hd6 (cs := #[.nilFunc]) (t := 1) ?hr6 ?hF6 ?_; (case hd6 => rfl); (case hg6 => rfl); (case hr6 => first | (go_simp; done) | (go_simp; rfl)); (case hF6 => exact ⟨heap_alloc_new _ _, H5.out.2.2.2.2.2.1.size, blk_alloc H5.out.1 _, H5.out.2.1, blk_alloc H5.out.2.2.1 _, H5.out.2.2.2.1, blk_alloc H5.out.2.2.2.2.1 _, below_then H5.out.2.2.2.2.2.1 H5.out.2.2.2.2.2.1.size (below_alloc (Below.refl _ _) _), H5.out.2.2.2.2.2.2.1, H5.out.2.2.2.2.2.2.2.alloc _⟩); intro bf w6 h6; have HBO : Aside0 (w.heap.size ≤ bo) := ⟨h6.2.2.2.1⟩; have e0 : w6.cell? ⟨bf, 0, none⟩ = some .nilFunc := (blk_cell h6.1 0).trans rfl; have e1 := blk_frozen h6.1 0; have H6 := Aside0.mk h6; clear h6 H5)
  | (refine hand_store (fun w7 => EInvM J w.heap.size w7 bo bn bc bf n p0 p1 (.slice A3 ([] : List Int).length n3) [] s fp ∧ Below w.heap.size w w7) (t := 1) (p := 5) (v := .tmp 7) (w1 := w6.setCell ⟨bf, 0, none⟩ (.func (.func 90) #[] #[.pointer (some ⟨bo, 0, none⟩), .pointer (some ⟨bn, 0, none⟩), .pointer (some ⟨bc, 0, none⟩), .pointer (some ⟨bf, 0, none⟩)])) ?hg7 rfl ?hN7 ?hr7 ?hF7 ?_; (case hg7 => rfl); (case hN7 => rfl); (case hr7 => first | (go_simp; done) | (go_simp; rfl)); (case hF7 => obtain ⟨q1, q2, q3, q4, q5, q6, q7, q8, q9, q10⟩ := H6.out; have hb := q8.setCell (p := ⟨bf, 0, none⟩) q2 (.func (.func 90) #[] #[.pointer (some ⟨bo, 0, none⟩), .pointer (some ⟨bn, 0, none⟩), .pointer (some ⟨bc, 0, none⟩), .pointer (some ⟨bf, 0, none⟩)]); exact ⟨⟨blk_far q3 (blk_ne q3 q1 (by decide)) _, blk_far q7 (blk_ne q7 q1 (by decide)) _, blk_far q5 (blk_ne q5 q1 (by decide)) _, blk_set q1 0 _, own_setCell q10 (own_ne q10 q1 (by decide)) _, ⟨fun h => absurd (HFL.out _ h) (by omega), fun h => absurd (HFL.out _ h) (by omega), fun h => absurd (HFL.out _ h) (by omega), fun h => absurd (HFL.out _ h) (by omega)⟩, fun r hr h => absurd (HFL.out _ h) (by have := own_base q10 r hr; omega), hJ _ _ _ _ HJ.out (KeepP.of_below hb), fun k hk => Nat.lt_of_lt_of_le (HFL.out k hk) hb.size, hb.size⟩, hb⟩); clear e0 e1 H6; rintro w7 ⟨hI, hb7⟩; have HOB : Aside0 (w.heap.size ≤ bo) := ⟨HBO.out⟩; have n0 := hI.c3; have HI := Aside0.mk hI; have HB7 := Aside0.mk hb7; clear hI hb7)
  | (go_at_call 90; refine (eachM_fill J step w.heap.size bo bn bc bf n hn7 p0 p1 hJ hC n w7 _ [] s s' fp HI.out (by simp) HR.out).mono ?_; rintro e w8 ⟨rfl, vo8, fp8, hI8, hf8, hat8, hk8⟩; have HP : Aside0 (∃ fp', J s' w8 fp' ∧ (∀ k, fp' k → k < w8.heap.size) ∧ (∀ k, fp' k → fp k ∨ w.heap.size ≤ k) ∧ KeepP (fun k => ¬ fp k) w w8) := ⟨⟨fp8, hI8.j, hI8.fl, (fun k hk => (hf8 k hk).elim Or.inl (fun h => Or.inr (Nat.le_trans HB7.out.size h))), (KeepP.of_below (P := fun _ => True) HB7.out).trans hk8 (fun _ _ _ => trivial) (fun j hj hp => ⟨hp, fun e => by { have := HB7.out.block j hj; rw [e, HI.out.ho] at this; have h2 := (HOB.out : w.heap.size ≤ bo); omega }, fun e => by { have := own_base HI.out.row j e.symm; omega }⟩)⟩⟩; clear hI8 hf8 hat8 hk8 HI n0))
 first | go_end0 | refine bodyPost_ret (results_none rfl _ _ _) rfl ?_
 exact ⟨rfl, HP.out⟩

def cntIn (l : List S55) (ends : List Int) (i : Nat) : Nat := ((List.range i).filter fun (j : Nat) => decide (rd ends (j : Int) ≤ (rd_T55 l (j : Int)).f2)).length
theorem cntIn_le (l : List S55) (ends : List Int) (i : Nat) : cntIn l ends i ≤ i := by
 unfold cntIn
 have := List.length_filter_le (fun (j : Nat) => decide (rd ends (j : Int) ≤ (rd_T55 l (j : Int)).f2)) (List.range i)
 rwa [List.length_range] at this
theorem cntIn_succ (l : List S55) (ends : List Int) (i : Nat) : cntIn l ends (i + 1) = cntIn l ends i + if rd ends (i : Int) ≤ (rd_T55 l (i : Int)).f2 then 1 else 0 := by
 unfold cntIn
 rw [List.range_succ, List.filter_append, List.length_append]
 congr 1
 by_cases h : rd ends (i : Int) ≤ (rd_T55 l (i : Int)).f2
 ·simp [List.filter_cons, h]
 ·simp [List.filter_cons, h]
def leafM (k : Nat) (l : List S55) (most : Int) (o : List Int) : Option Int :=
 (impl_endsOf.f k l o).bind fun ends => if ends.length ≤ l.length then some (mx most (cntIn l ends ends.length : Int)) else none
/-- What MostInTime keeps: its list at bl, 'most' at bm. -/
structure JM (w0 : World) (bl bm : Nat) (Al : Option Addr) (cl : Nat) (l : List S55) (most : Int) (w : World) (fp : Nat → Prop) : Prop where
 hl : w.heap[bl]? = some (.cells #[.slice Al l.length cl] 31 (0, 0))
 hm : w.heap[bm]? = some (.cells #[.int .i64 most] 2 (0, 0))
 foot : ∀ k, fp k ↔ (k < w0.heap.size ∨ k = bl ∨ k = bm)
 list : Kd.C k55 w0 Al l.length l
 cap : l.length ≤ cl
 below : Below w0.heap.size w0 w
 ge : w0.heap.size ≤ bl ∧ w0.heap.size ≤ bm
theorem JM.move {w0 : World} {bl bm : Nat} {Al : Option Addr} {cl : Nat} {l : List S55} : ∀ (s : Int) (w w' : World) (fp : Nat → Prop), JM w0 bl bm Al cl l s w fp → KeepP fp w w' → JM w0 bl bm Al cl l s w' fp := by
 intro s w w' fp h hk
 have h4 := h.foot
 exact ⟨hk.blk h.hl ((h4 _).2 (Or.inr (Or.inl rfl))), hk.blk h.hm ((h4 _).2 (Or.inr (Or.inr rfl))), h4, h.list, h.cap, h.below.trans (hk.below h.below.size (fun k hk => (h4 _).2 (Or.inl hk))), h.ge⟩
theorem JM.fl {w0 w : World} {bl bm : Nat} {Al : Option Addr} {cl : Nat} {l : List S55} {s : Int} {fp : Nat → Prop} (h : JM w0 bl bm Al cl l s w fp) : ∀ k, fp k → k < w.heap.size := by
 intro k hk
 rcases (h.foot k).1 hk with hk | rfl | rfl
 ·exact Nat.lt_of_lt_of_le hk h.below.size
 ·exact blk_lt h.hl
 ·exact blk_lt h.hm
set_option maxRecDepth 100000 in
set_option maxHeartbeats 8000000 in
theorem mostInTime_call (k : Nat) (w0 : World) (bl bm : Nat) (Al : Option Addr) (cl : Nat) (l : List S55) (hl7 : l.length ≤ 7) : ECallM (JM w0 bl bm Al cl l) (leafM k l) ⟨bl, 0, none⟩ ⟨bm, 0, none⟩ := by
 intro most s' o w fp A no c hno hj hfl hC hc hol hs
 subst hno
 unfold leafM at hs
 obtain ⟨ends, hn1, hs⟩ := Option.bind_eq_some_iff.mp hs
 by_cases hle : ends.length ≤ l.length
 ·rw [if_pos hle] at hs
  replace hs := Option.some.inj hs
  have HJ := Aside0.mk hj
  have HC := Aside0.mk hC
  have HN := Aside0.mk hn1
  have HS := Aside0.mk hs
  have c0 : w.cell? ⟨bl, 0, none⟩ = some (.slice Al l.length cl) := (blk_cell hj.hl 0).trans rfl
  clear hj hfl hC hn1 hs
  go_enter Try.func65, Try.ntmps65
  go_wp2_with (go_at_call 66; refine (impl_endsOf.calls k Al cl l A c o ends w (Kd.C_below HJ.out.list HJ.out.below) HJ.out.cap HC.out hc HN.out).mono ?_; rintro e w1 ⟨v1, rfl, hr1, hb1⟩; have ho1 := nums_of_R hr1; obtain ⟨A1, n1, e1⟩ := own_slice ho1; subst e1; have HO1 := Aside0.mk ho1; have HB1 := Aside0.mk hb1; clear hr1 ho1 hb1 c0)
  have HJ1 := Aside0.mk (JM.move _ _ _ _ HJ.out (KeepP.of_below HB1.out))
  go_loopg [4, 11] ends.length (fun gg v4 v11 wr => ∃ i : Nat, v11 = .int .i64 (i : Int) ∧ v4 = .int .i64 (cntIn l ends i : Int) ∧ Aside0 (i ≤ ends.length ∧ ends.length - i ≤ gg) ∧ Aside0 (wr = w1))
  case atStart => exact ⟨0, rfl, rfl, ⟨Nat.zero_le _, by omega⟩, ⟨rfl⟩⟩
  case round =>
   obtain ⟨i, rfl, rfl, HI, HW⟩ := hrel
   have hw := HW.out
   subst hw
   have c0 : wr.cell? ⟨bl, 0, none⟩ = some (.slice Al l.length cl) := (blk_cell HJ1.out.hl 0).trans rfl
   have hcl := cntIn_le l ends i
   by_cases hlt : i < ends.length
   ·have hltb : decide (i < ends.length) = true := decide_eq_true hlt
    obtain ⟨a1, e1, hx1⟩ := Kd.at_int (C_of_nums HO1.out) (i : Int) (by omega) (by omega)
    cases e1
    obtain ⟨a2, e2, _, _, hx2, _⟩ := at_T55 (Kd.C_below HJ1.out.list HJ1.out.below) (i : Int) (by omega) (by omega)
    cases e2
    rw [Int.toNat_natCast] at hx1 hx2
    have hil : i < l.length := by omega
    have hs1 := cntIn_succ l ends i
    by_cases hd : rd ends (i : Int) ≤ (rd_T55 l (i : Int)).f2
    ·have hdb : decide (rd ends (i : Int) ≤ (rd_T55 l (i : Int)).f2) = true := decide_eq_true hd
     rw [if_pos hd] at hs1
     have HS1 := Aside0.mk hs1
     clear hs1 hd
     go_wp2_with fail
     go_roundg (ends.length - (i + 1))
     case measure => have := HI.out; omega
     case rel => exact ⟨i + 1, by go_num, by rw [HS1.out]; go_num, ⟨by omega, by omega⟩, ⟨rfl⟩⟩
    ·have hdb : decide (rd ends (i : Int) ≤ (rd_T55 l (i : Int)).f2) = false := decide_eq_false hd
     rw [if_neg hd] at hs1
     have HS1 := Aside0.mk hs1
     clear hs1 hd
     go_wp2_with fail
     go_roundg (ends.length - (i + 1))
     case measure => have := HI.out; omega
     case rel => exact ⟨i + 1, by go_num, by rw [HS1.out]; go_num, ⟨by omega, by omega⟩, ⟨rfl⟩⟩
   ·have hltb : decide (i < ends.length) = false := decide_eq_false hlt
    have hie : i = ends.length := by have := HI.out; omega
    have d1 : wr.cell? ⟨bm, 0, none⟩ = some (.int .i64 most) := (blk_cell HJ1.out.hm 0).trans rfl
    have f1 := blk_frozen HJ1.out.hm 0
    have HIE := Aside0.mk hie
    clear hie
    obtain ⟨mg, hmg⟩ : ∃ mg, mg = mx most (cntIn l ends i : Int) := ⟨_, rfl⟩
    have HMG := Aside0.mk hmg
    clear hmg
    by_cases hmx : most < (cntIn l ends i : Int)
    ·have HE2 : Aside0 (mg = (cntIn l ends i : Int)) := ⟨by rw [HMG.out]; unfold mx; rw [if_pos hmx]⟩
     go_wp2_with fail
     first | go_end0 | refine bodyPost_ret (results_none rfl _ _ _) rfl ?_
     have hj2 : JM w0 bl bm Al cl l s' (wr.setCell ⟨bm, 0, none⟩ (.int .i64 (cntIn l ends i : Int))) fp := by
      have hs' : (cntIn l ends i : Int) = s' := by rw [← HE2.out, HMG.out, HIE.out]; exact HS.out
      rw [hs']
      exact ⟨blk_far HJ1.out.hl (blk_ne HJ1.out.hl HJ1.out.hm (by decide)) _, blk_set HJ1.out.hm 0 _, HJ1.out.foot, HJ1.out.list, HJ1.out.cap, HJ1.out.below.setCell HJ1.out.ge.2 _, HJ1.out.ge⟩
     exact ⟨rfl, fp, hj2, hj2.fl, fun k hk => Or.inl hk, (KeepP.of_below (P := fun _ => True) HB1.out).trans (KeepP.of_set wr ⟨bm, 0, none⟩ _) (fun _ _ _ => trivial) (fun j _ hp e => hp ((HJ1.out.foot j).2 (Or.inr (Or.inr e))))⟩
    ·have HE2 : Aside0 (mg = most) := ⟨by rw [HMG.out]; unfold mx; rw [if_neg hmx]⟩
     go_wp2_with fail
     first | go_end0 | refine bodyPost_ret (results_none rfl _ _ _) rfl ?_
     have hj2 : JM w0 bl bm Al cl l s' (wr.setCell ⟨bm, 0, none⟩ (.int .i64 most)) fp := by
      have hs' : most = s' := by rw [← HE2.out, HMG.out, HIE.out]; exact HS.out
      rw [hs']
      exact ⟨blk_far HJ1.out.hl (blk_ne HJ1.out.hl HJ1.out.hm (by decide)) _, blk_set HJ1.out.hm 0 _, HJ1.out.foot, HJ1.out.list, HJ1.out.cap, HJ1.out.below.setCell HJ1.out.ge.2 _, HJ1.out.ge⟩
     exact ⟨rfl, fp, hj2, hj2.fl, fun k hk => Or.inl hk, (KeepP.of_below (P := fun _ => True) HB1.out).trans (KeepP.of_set wr ⟨bm, 0, none⟩ _) (fun _ _ _ => trivial) (fun j _ hp e => hp ((HJ1.out.foot j).2 (Or.inr (Or.inr e))))⟩
 ·rw [if_neg hle] at hs
  cases hs
def impl_MostInTime.f (k : Nat) (l0 : List S55) : Option (Int × Int) := (impl_ValidRenewals.f k l0).bind fun b => if b = true then (if l0.length ≤ 7 then ((ordersFrom l0.length l0.length []).foldlM (leafM k l0) 0).bind fun st => some (st, 0) else none) else some (0, 1)
set_option maxHeartbeats 8000000 in
theorem impl_MostInTime.calls (k : Nat) (A0 : Option Addr) (c0 : Nat) (l0 : List S55) (r1 r2 : Int) (w : World) (hr0 : Kd.C k55 w A0 l0.length l0) (hc0 : l0.length ≤ c0) (h : impl_MostInTime.f k l0 = some (r1, r2)) :
  Calls Try.prog 26 #[.slice A0 l0.length c0] w fun e w' => e = .returned (.tuple #[.int .i64 r1, .int .i64 r2]) ∧ Below w.heap.size w w' := by
 have hmf : ∀ (fn : Fn) (first cap : Array Value) (w : World), (Instr.makeFunc fn first cap).run Try.prog w = .ok (.func fn first cap) w := fun _ _ _ _ => rfl
 unfold impl_MostInTime.f at h
 have HR0 := Aside0.mk hr0
 have HC0 := Aside0.mk hc0
 clear hr0 hc0
 replace h := Option.bind_eq_some_iff.mp h
 obtain ⟨b, hv, h⟩ := h
 have HV := Aside0.mk hv
 clear hv
 cases b with
 | false =>
  rw [if_neg (by decide)] at h
  simp only [Option.some.injEq, Prod.mk.injEq] at h
  obtain ⟨rfl, rfl⟩ := h
  go_enter Try.func26, Try.ntmps26
  go_wp2_with (first
   | ((with_reducible refine gate_dst (N := 1) rfl ?_); refine hand_box (fun g w1 => w1.heap[g]? = some (.cells #[.slice A0 l0.length c0] 31 (0, 0)) ∧ Below w.heap.size w w1 ∧ w.heap.size ≤ g) ?hg1 (N := 1) ?hd1 (cs := #[.slice A0 l0.length c0]) (t := 31) ?hr1 ?hF1 ?_; (case hd1 => rfl); (case hg1 => rfl); (case hr1 => first | (go_simp; done) | (go_simp; rfl)); (case hF1 => exact ⟨heap_alloc_new _ _, below_alloc (Below.refl _ _) _, Nat.le_refl _⟩); intro bl w1 h1; have d0 : w1.cell? ⟨bl, 0, none⟩ = some (.slice A0 l0.length c0) := (blk_cell h1.1 0).trans rfl; have H1 := Aside0.mk h1; clear h1)
   | (go_at_call 23; refine (impl_ValidRenewals.calls k A0 c0 l0 false w1 (Kd.C_below HR0.out H1.out.2.1) HC0.out HV.out).mono ?_; rintro e w2 ⟨rfl, hb2⟩; have d1 := pw_cell_below hb2 d0; have H2 := Aside0.mk (show w2.heap[bl]? = some (.cells #[.slice A0 l0.length c0] 31 (0, 0)) ∧ Below w.heap.size w w2 ∧ w.heap.size ≤ bl from ⟨(hb2.block bl (blk_lt H1.out.1)).trans H1.out.1, below_step H1.out.2.1 hb2, H1.out.2.2⟩); clear hb2 d0 H1))
  go_ret2
  exact ⟨rfl, H2.out.2.1⟩
 | true =>
  rw [if_pos rfl] at h
  by_cases hn : l0.length ≤ 7
  ·rw [if_pos hn] at h
   replace h := Option.bind_eq_some_iff.mp h
   obtain ⟨st, hst, h⟩ := h
   simp only [Option.some.injEq, Prod.mk.injEq] at h
   obtain ⟨rfl, rfl⟩ := h
   have HST := Aside0.mk hst
   have HN := Aside0.mk hn
   clear hst hn
   go_enter Try.func26, Try.ntmps26
   go_wp2_with (first
    | ((with_reducible refine gate_dst (N := 1) rfl ?_); refine hand_box (fun g w1 => w1.heap[g]? = some (.cells #[.slice A0 l0.length c0] 31 (0, 0)) ∧ Below w.heap.size w w1 ∧ w.heap.size ≤ g) ?hg1 (N := 1) ?hd1 (cs := #[.slice A0 l0.length c0]) (t := 31) ?hr1 ?hF1 ?_; (case hd1 => rfl); (case hg1 => rfl); (case hr1 => first | (go_simp; done) | (go_simp; rfl)); (case hF1 => exact ⟨heap_alloc_new _ _, below_alloc (Below.refl _ _) _, Nat.le_refl _⟩); intro bl w1 h1; have d0 : w1.cell? ⟨bl, 0, none⟩ = some (.slice A0 l0.length c0) := (blk_cell h1.1 0).trans rfl; have H1 := Aside0.mk h1; clear h1)
    | (go_at_call 23; refine (impl_ValidRenewals.calls k A0 c0 l0 true w1 (Kd.C_below HR0.out H1.out.2.1) HC0.out HV.out).mono ?_; rintro e w2 ⟨rfl, hb2⟩; have d1 := pw_cell_below hb2 d0; have H2 := Aside0.mk (show w2.heap[bl]? = some (.cells #[.slice A0 l0.length c0] 31 (0, 0)) ∧ Below w.heap.size w w2 ∧ w.heap.size ≤ bl from ⟨(hb2.block bl (blk_lt H1.out.1)).trans H1.out.1, below_step H1.out.2.1 hb2, H1.out.2.2⟩); clear hb2 d0 H1)
    | ((with_reducible refine gate_dst (N := 4) rfl ?_); refine hand_box (fun g w3 => w3.heap[g]? = some (.cells #[.int .i64 0] 2 (0, 0)) ∧ w.heap.size ≤ g ∧ w3.heap[bl]? = some (.cells #[.slice A0 l0.length c0] 31 (0, 0)) ∧ Below w.heap.size w w3) ?hg3 (N := 4) ?hd3 (cs := #[.int .i64 0]) (t := 2) ?hr3 ?hF3 ?_; (case hd3 => rfl); (case hg3 => rfl); (case hr3 => first | (go_simp; done) | (go_simp; rfl)); (case hF3 => exact ⟨heap_alloc_new _ _, H2.out.2.1.size, blk_alloc H2.out.1 _, below_then H2.out.2.1 H2.out.2.1.size (below_alloc (Below.refl _ _) _)⟩); intro bm w3 h3; have e0 : w3.cell? ⟨bm, 0, none⟩ = some (.int .i64 0) := (blk_cell h3.1 0).trans rfl; have e1 := blk_frozen h3.1 0; have H3 := Aside0.mk h3; clear h3 d1)
    | (refine hand_store (fun w4 => JM w bl bm A0 c0 l0 0 w4 (fun k => k < w.heap.size ∨ k = bl ∨ k = bm)) (t := 2) (p := 4) (v := .const (.int .i64 0)) (w1 := w3.setCell ⟨bm, 0, none⟩ (.int .i64 0)) ?hg4 rfl ?hN4 ?hr4 ?hF4 ?_; (case hg4 => rfl); (case hN4 => rfl); (case hr4 => first | (go_simp; done) | (go_simp; rfl)); (case hF4 => exact ⟨blk_far H3.out.2.2.1 (blk_ne H3.out.2.2.1 H3.out.1 (by decide)) _, blk_set H3.out.1 0 _, fun _ => Iff.rfl, HR0.out, HC0.out, H3.out.2.2.2.setCell H3.out.2.1 _, ⟨H2.out.2.2, H3.out.2.1⟩⟩); clear e0 e1 H3; intro w4 hJ; have d2 : w4.cell? ⟨bl, 0, none⟩ = some (.slice A0 l0.length c0) := (blk_cell hJ.hl 0).trans rfl; have HJ := Aside0.mk hJ; clear hJ)
    | (go_at_call 64; refine (eachM_calls (JM w bl bm A0 c0 l0) (leafM k l0) l0.length HN.out ⟨bl, 0, none⟩ ⟨bm, 0, none⟩ JM.move (mostInTime_call k w bl bm A0 c0 l0 HN.out) w4 0 st _ HJ.out HJ.out.fl HST.out).mono ?_; rintro e w5 ⟨rfl, fp5, hJ5, _, _, _⟩; have d3 : w5.cell? ⟨bm, 0, none⟩ = some (.int .i64 st) := (blk_cell hJ5.hm 0).trans rfl; have HJ5 := Aside0.mk hJ5; clear hJ5 d2))
   go_ret2
   exact ⟨rfl, HJ5.out.below⟩
  ·rw [if_neg hn] at h
   exact absurd h (by simp)


end Go.Proofs.Ytkegmjebkikniaa.P
end
