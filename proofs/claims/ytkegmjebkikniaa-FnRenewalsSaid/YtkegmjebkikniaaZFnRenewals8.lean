/- Texts of this claim, packed: Px32, Px22. -/
import Derived.Test.YtkegmjebkikniaaZFnRenewals7
section
-- Written by gprint.py (own program, over the printer of the kit) out of the translation. Lean checks it.
namespace Go.Proofs.Ytkegmjebkikniaa.P
open Go.RowKit Go.Proofs.YtkegmjebkikniaaW.PrintWords Go.Proofs.YtkegmjebkikniaaW.PrintLast Go.Proofs.YtkegmjebkikniaaW.PrintMore Go.Proofs.YtkegmjebkikniaaW.Pk
open Bool renaming true → T_, false → F_
open List renaming setIfInBounds_toArray → sT_, set_cons_zero → s0_, set_cons_succ → sS_
attribute [local go_sem] max2_int min2_int max_two min_two max_three min_three max_four min_four   -- for this text's walks alone
set_option linter.unusedVariables false
set_option linter.unusedSimpArgs false

/-! ### impl_LeastHarm: function 43 -/
-- (by hand)
open Go.Proofs.YtkegmjebkikniaaW.Hand
/-- The variables of the walk through all orders: 'order' at bo, 'n' at bn, 'call' at bc, 'fill' at bf; what the call keeps lies in the blocks fp. -/
structure EInvL {σ : Type} (J : σ → World → (Nat → Prop) → Prop) (base : Nat) (w : World) (bo bn bc bf n : Nat) (p0 p1 p2 : Addr) (vo : Value) (o : List Int) (s : σ) (fp : Nat → Prop) : Prop where
 ho : w.heap[bo]? = some (.cells #[vo] 37 (0, 0))
 hn : w.heap[bn]? = some (.cells #[.int .i64 (n : Int)] 3 (0, 0))
 hc : w.heap[bc]? = some (.cells #[.func (.func 79) #[] #[.pointer (some p0), .pointer (some p1), .pointer (some p2)]] 76 (0, 0))
 hf : w.heap[bf]? = some (.cells #[.func (.func 90) #[] #[.pointer (some ⟨bo, 0, none⟩), .pointer (some ⟨bn, 0, none⟩), .pointer (some ⟨bc, 0, none⟩), .pointer (some ⟨bf, 0, none⟩)]] 1 (0, 0))
 row : w.ownsRow base 2 1 vo o.length (nums .i64 o)
 nb : ¬ fp bo ∧ ¬ fp bn ∧ ¬ fp bc ∧ ¬ fp bf
 nr : ∀ r, vo.ownBlock = some r → ¬ fp r
 j : J s w fp
 fl : ∀ k, fp k → k < w.heap.size
 bs : base ≤ w.heap.size
section
variable {σ : Type} {J : σ → World → (Nat → Prop) → Prop} {base : Nat} {w w1 : World} {bo bn bc bf n : Nat} {p0 p1 p2 : Addr} {vo : Value} {o : List Int} {s : σ} {fp : Nat → Prop}
theorem EInvL.c0 (h : EInvL J base w bo bn bc bf n p0 p1 p2 vo o s fp) : w.cell? ⟨bo, 0, none⟩ = some vo := (blk_cell h.ho 0).trans rfl
theorem EInvL.f0 (h : EInvL J base w bo bn bc bf n p0 p1 p2 vo o s fp) : w.frozen? ⟨bo, 0, none⟩ = false := blk_frozen h.ho 0
theorem EInvL.c1 (h : EInvL J base w bo bn bc bf n p0 p1 p2 vo o s fp) : w.cell? ⟨bn, 0, none⟩ = some (.int .i64 (n : Int)) := (blk_cell h.hn 0).trans rfl
theorem EInvL.c2 (h : EInvL J base w bo bn bc bf n p0 p1 p2 vo o s fp) : w.cell? ⟨bc, 0, none⟩ = some (.func (.func 79) #[] #[.pointer (some p0), .pointer (some p1), .pointer (some p2)]) := (blk_cell h.hc 0).trans rfl
theorem EInvL.c3 (h : EInvL J base w bo bn bc bf n p0 p1 p2 vo o s fp) : w.cell? ⟨bf, 0, none⟩ = some (.func (.func 90) #[] #[.pointer (some ⟨bo, 0, none⟩), .pointer (some ⟨bn, 0, none⟩), .pointer (some ⟨bc, 0, none⟩), .pointer (some ⟨bf, 0, none⟩)]) := (blk_cell h.hf 0).trans rfl
theorem EInvL.ne (h : EInvL J base w bo bn bc bf n p0 p1 p2 vo o s fp) : ∀ r, vo.ownBlock = some r → r ≠ bo ∧ r ≠ bn ∧ r ≠ bc ∧ r ≠ bf := fun r hr => by
 obtain ⟨cells, hc⟩ := own_typed h.row r hr
 exact ⟨blk_ne hc h.ho (by decide), blk_ne hc h.hn (by decide), blk_ne hc h.hc (by decide), blk_ne hc h.hf (by decide)⟩
theorem EInvL.step (h : EInvL J base w bo bn bc bf n p0 p1 p2 vo o s fp) (hJ : ∀ s w w' fp, J s w fp → KeepP fp w w' → J s w' fp) (hb : Below w.heap.size w w1) : EInvL J base w1 bo bn bc bf n p0 p1 p2 vo o s fp :=
 ⟨(hb.block bo (blk_lt h.ho)).trans h.ho, (hb.block bn (blk_lt h.hn)).trans h.hn, (hb.block bc (blk_lt h.hc)).trans h.hc, (hb.block bf (blk_lt h.hf)).trans h.hf, pw_own_below h.row hb, h.nb, h.nr, hJ _ _ _ _ h.j (KeepP.of_below hb), fun k hk => Nat.lt_of_lt_of_le (h.fl k hk) hb.size, Nat.le_trans h.bs hb.size⟩
/-- The order's row has been written or grown, and its variable is stored. -/
theorem EInvL.put (h : EInvL J base w bo bn bc bf n p0 p1 p2 vo o s fp) (hJ : ∀ s w w' fp, J s w fp → KeepP fp w w' → J s w' fp) {v1 : Value} {o1 : List Int} (ho : w1.ownsRow base 2 1 v1 o1.length (nums .i64 o1)) (hg : w.grownBy w1 vo.ownBlock) (hat : v1.ownBlock = vo.ownBlock ∨ ∃ b, v1.ownBlock = some b ∧ w.heap.size ≤ b) :
  EInvL J base (w1.setCell ⟨bo, 0, none⟩ v1) bo bn bc bf n p0 p1 p2 v1 o1 s fp ∧ KeepP (fun k => k ≠ bo ∧ some k ≠ vo.ownBlock) w (w1.setCell ⟨bo, 0, none⟩ v1) ∧ w1.heap[bo]? = some (.cells #[vo] 37 (0, 0)) := by
 have hne := h.ne
 have k1 := KeepP.of_grown hg
 have k2 : KeepP (fun k => k ≠ bo ∧ some k ≠ vo.ownBlock) w (w1.setCell ⟨bo, 0, none⟩ v1) := k1.trans (KeepP.of_set w1 ⟨bo, 0, none⟩ v1) (fun j _ hp => hp.2) (fun j _ hp => hp.1)
 have hbo : some bo ≠ vo.ownBlock := fun e => (hne bo e.symm).1 rfl
 have hbn : bn ≠ bo ∧ some bn ≠ vo.ownBlock := ⟨blk_ne h.hn h.ho (by decide), fun e => (hne bn e.symm).2.1 rfl⟩
 have hbc : bc ≠ bo ∧ some bc ≠ vo.ownBlock := ⟨blk_ne h.hc h.ho (by decide), fun e => (hne bc e.symm).2.2.1 rfl⟩
 have hbf : bf ≠ bo ∧ some bf ≠ vo.ownBlock := ⟨blk_ne h.hf h.ho (by decide), fun e => (hne bf e.symm).2.2.2 rfl⟩
 have ho1 : w1.heap[bo]? = _ := blk_grown h.ho hg hbo
 have hr1 : ∀ r, v1.ownBlock = some r → r ≠ bo := fun r hr => by
  obtain ⟨cells, hc⟩ := own_typed ho r hr
  exact blk_ne hc ho1 (by decide)
 refine ⟨⟨blk_set ho1 0 v1, k2.blk h.hn hbn, k2.blk h.hc hbc, k2.blk h.hf hbf, own_setCell ho (fun e => hr1 bo e.symm rfl) _, h.nb, fun r hr hfr => ?_, hJ _ _ _ _ h.j (k2.imp (fun j _ hp => ⟨fun e => h.nb.1 (e ▸ hp), fun e => h.nr j e.symm hp⟩)), fun k hk => Nat.lt_of_lt_of_le (h.fl k hk) k2.size, Nat.le_trans h.bs k2.size⟩, k2, ho1⟩
 rcases hat with hat | ⟨b, hb, hlb⟩
 ·exact h.nr r (hat ▸ hr) hfr
 ·have : b = r := by rw [hb] at hr; injection hr
  have := h.fl r hfr
  omega
end
theorem truncL {σ : Type} {J : σ → World → (Nat → Prop) → Prop} {base : Nat} {w : World} {bo bn bc bf n : Nat} {p0 p1 p2 : Addr} {A : Option Addr} {c : Nat} {o : List Int} {i : Int} {s : σ} {fp : Nat → Prop} (h : EInvL J base w bo bn bc bf n p0 p1 p2 (.slice A (o ++ [i]).length c) (o ++ [i]) s fp) (hJ : ∀ s w w' fp, J s w fp → KeepP fp w w' → J s w' fp) :
  EInvL J base (w.setCell ⟨bo, 0, none⟩ (.slice A o.length c)) bo bn bc bf n p0 p1 p2 (.slice A o.length c) o s fp ∧ KeepP (fun k => k ≠ bo ∧ some k ≠ (Value.slice A (o ++ [i]).length c).ownBlock) w (w.setCell ⟨bo, 0, none⟩ (.slice A o.length c)) := by
 have ht := hand_take (m := o.length) h.row (by simp)
 rw [show (nums .i64 (o ++ [i])).take (o.length * 1) = nums .i64 o by rw [nums_append, Nat.mul_one, List.take_left' (nums_length _ _)]] at ht
 have := h.put hJ ht (World.grownBy.refl _ _) (Or.inl (by cases A <;> rfl))
 exact ⟨this.1, this.2.1⟩
/-- What one call, or the walk from an order on, leaves. -/
def EPostL {σ : Type} (J : σ → World → (Nat → Prop) → Prop) (base : Nat) (w : World) (bo bn bc bf n : Nat) (p0 p1 p2 : Addr) (vo : Value) (o : List Int) (s' : σ) (fp : Nat → Prop) (e : Ending) (w' : World) : Prop :=
 e = .returned (.tuple #[]) ∧ ∃ vo' fp', EInvL J base w' bo bn bc bf n p0 p1 p2 vo' o s' fp' ∧ (∀ k, fp' k → fp k ∨ w.heap.size ≤ k) ∧ (vo'.ownBlock = vo.ownBlock ∨ ∃ b, vo'.ownBlock = some b ∧ w.heap.size ≤ b) ∧ KeepP (fun k => ¬ fp k ∧ k ≠ bo ∧ some k ≠ vo.ownBlock) w w'
/-- What the call does. -/
def ECallL {σ : Type} (J : σ → World → (Nat → Prop) → Prop) (step : σ → List Int → Option σ) (p0 p1 p2 : Addr) : Prop :=
 ∀ (s s' : σ) (o : List Int) (w : World) (fp : Nat → Prop) (A : Option Addr) (no c : Nat), no = o.length → J s w fp → (∀ k, fp k → k < w.heap.size) → Kd.C (Kd.int .i64) w A o.length o → o.length ≤ c → o.length ≤ 7 → step s o = some s' →
  Calls Try.prog 79 #[.slice A no c, .pointer (some p0), .pointer (some p1), .pointer (some p2)] w fun e w' => e = .returned (.tuple #[]) ∧ ∃ fp', J s' w' fp' ∧ (∀ k, fp' k → k < w'.heap.size) ∧ (∀ k, fp' k → fp k ∨ w.heap.size ≤ k) ∧ KeepP (fun k => ¬ fp k) w w'

set_option maxRecDepth 100000 in
set_option maxHeartbeats 8000000 in
theorem eachL_fill {σ : Type} (J : σ → World → (Nat → Prop) → Prop) (step : σ → List Int → Option σ) (base : Nat) (bo bn bc bf n : Nat) (hn7 : n ≤ 7) (p0 p1 p2 : Addr) (hJ : ∀ s w w' fp, J s w fp → KeepP fp w w' → J s w' fp) (hC : ECallL J step p0 p1 p2) (m : Nat) : ∀ (w : World) (vo : Value) (o : List Int) (s s' : σ) (fp : Nat → Prop), EInvL J base w bo bn bc bf n p0 p1 p2 vo o s fp → o.length + m = n → (ordersFrom n m o).foldlM step s = some s' →
  Calls Try.prog 90 #[.pointer (some ⟨bo, 0, none⟩), .pointer (some ⟨bn, 0, none⟩), .pointer (some ⟨bc, 0, none⟩), .pointer (some ⟨bf, 0, none⟩)] w (EPostL J base w bo bn bc bf n p0 p1 p2 vo o s' fp) := by
 induction m with
 | zero =>
  intro w vo o s s' fp h he hr
  have eg : ∀ args w, (callFunc 79 args).run Try.prog w = .ok (.enter 79 args) w := enters_of Try.func79 (by kernel_rfl) rfl
  obtain ⟨A, c, rfl⟩ := own_slice h.row
  have c0 := h.c0
  have c1 := h.c1
  have c2 := h.c2
  have hb : ((o.length : Int) == (n : Int)) = true := by simp; omega
  have hs : step s o = some s' := by
   rw [ordersFrom, List.foldlM_cons] at hr
   obtain ⟨q, h1, h2⟩ := Option.bind_eq_some_iff.mp hr
   rw [List.foldlM_nil] at h2
   rw [h1]; exact h2
  have HI := Aside0.mk h
  have HS := Aside0.mk hs
  have HO7 : Aside0 (o.length ≤ 7) := ⟨by omega⟩
  clear h hs hr
  go_enter Try.func90, Try.ntmps90
  go_wp2_with (go_at_call 79; refine (hC s s' o w fp A _ c rfl HI.out.j HI.out.fl (C_of_nums HI.out.row) (own_cap HI.out.row) HO7.out HS.out).mono ?_; rintro e w1 ⟨rfl, fp1, hj1, hl1, hf1, hk1⟩; have HP : Aside0 (EPostL J base w bo bn bc bf n p0 p1 p2 (.slice A o.length c) o s' fp (.returned (.tuple #[])) w1) := ⟨(by { have h := HI.out; have nn : ∀ k, k < w.heap.size → ¬ fp k → ¬ fp1 k := (fun k hk hn hf => (hf1 k hf).elim hn (fun h2 => by omega)); exact ⟨rfl, .slice A o.length c, fp1, ⟨hk1.blk h.ho h.nb.1, hk1.blk h.hn h.nb.2.1, hk1.blk h.hc h.nb.2.2.1, hk1.blk h.hf h.nb.2.2.2, hk1.own h.row (fun k hk => h.nr k hk), ⟨nn _ (blk_lt h.ho) h.nb.1, nn _ (blk_lt h.hn) h.nb.2.1, nn _ (blk_lt h.hc) h.nb.2.2.1, nn _ (blk_lt h.hf) h.nb.2.2.2⟩, (fun r hr => nn r (own_lt h.row r hr) (h.nr r hr)), hj1, hl1, Nat.le_trans h.bs hk1.size⟩, hf1, Or.inl rfl, hk1.imp (fun j _ hp => hp.1)⟩ })⟩; clear hj1 hl1 hf1 hk1 HI)
  first | go_end0 | refine bodyPost_ret (results_none rfl _ _ _) rfl ?_
  exact HP.out
 | succ m ih =>
  intro w vo o s s' fp h he hr
  have eg : ∀ args w, (callFunc 90 args).run Try.prog w = .ok (.enter 90 args) w := enters_of Try.func90 (by kernel_rfl) rfl
  obtain ⟨A, c, rfl⟩ := own_slice h.row
  have c0 := h.c0
  have c1 := h.c1
  have hb : ((o.length : Int) == (n : Int)) = false := by simp; omega
  have HE := Aside0.mk he
  have HI := Aside0.mk h
  have HR : Aside0 ((ordersAt n m o 0).foldlM step s = some s') := ⟨by rw [← ordersFrom_eq]; exact hr⟩
  have hol : o.length ≤ 7 := by omega
  clear h hr
  go_enter Try.func90, Try.ntmps90
  go_wp2_with fail
  clear c0 c1 hb
  go_loopg [5] n (fun gg v5 wr => ∃ i : Nat, v5 = .int .i64 (i : Int) ∧ Aside0 (i ≤ n ∧ n - i ≤ gg) ∧ Aside0 (∃ A' c' s1 fp1, EInvL J base wr bo bn bc bf n p0 p1 p2 (.slice A' o.length c') o s1 fp1 ∧ (ordersAt n m o i).foldlM step s1 = some s' ∧ (∀ k, fp1 k → fp k ∨ w.heap.size ≤ k) ∧ ((Value.slice A' o.length c').ownBlock = (Value.slice A o.length c).ownBlock ∨ ∃ b, (Value.slice A' o.length c').ownBlock = some b ∧ w.heap.size ≤ b) ∧ KeepP (fun k => ¬ fp k ∧ k ≠ bo ∧ some k ≠ (Value.slice A o.length c).ownBlock) w wr))
  case atStart => exact ⟨0, rfl, ⟨Nat.zero_le _, by omega⟩, ⟨_, _, _, _, HI.out, HR.out, fun k hk => Or.inl hk, Or.inl rfl, KeepP.refl _ _⟩⟩
  case round =>
   clear HR
   obtain ⟨i, rfl, HJ, HI'⟩ := hrel
   obtain ⟨A', c', s1, fp1, hI, hR, hf1, hat1, hk1⟩ := HI'.out
   clear HI'
   have c0 := hI.c0
   have c1 := hI.c1
   by_cases hlt : i < n
   ·have hltb : decide (i < n) = true := decide_eq_true hlt
    rw [ordersAt_step _ _ _ _ hlt] at hR
    obtain ⟨q, h1, h2⟩ := foldlM_split hR
    have HFR := Aside0.mk (And.intro hf1 (And.intro hat1 hk1))
    by_cases hm : (i : Int) ∈ o
    ·rw [if_pos hm] at h1
     obtain rfl : s1 = q := Option.some.inj h1
     have HH : Aside0 (slices_Contains_int64_int64.f (o.length + 1) o (i : Int) = some true) := ⟨by rw [contains_f _ _ (by omega), decide_eq_true hm]⟩
     have HI1 := Aside0.mk hI
     have H2 := Aside0.mk h2
     clear hI hR h1 h2 hm hf1 hat1 hk1
     go_wp2_with (go_at_call 91; refine (slices_Contains_int64_int64.calls (o.length + 1) A' c' o (i : Int) true wr (C_of_nums HI1.out.row) (own_cap HI1.out.row) HH.out).mono ?_; rintro e w2 ⟨rfl, hb2⟩; have HB2 := Aside0.mk hb2.below; clear hb2)
     go_roundg (n - (i + 1))
     case measure => have := HJ.out; omega
     case rel => exact ⟨i + 1, by go_num, ⟨by omega, by omega⟩, ⟨_, _, _, _, HI1.out.step hJ HB2.out, H2.out, HFR.out.1, HFR.out.2.1, HFR.out.2.2.trans (KeepP.of_below (P := fun _ => True) HB2.out) (fun _ _ h => h) (fun _ _ _ => trivial)⟩⟩
    ·rw [if_neg hm] at h1
     have HH : Aside0 (slices_Contains_int64_int64.f (o.length + 1) o (i : Int) = some false) := ⟨by rw [contains_f _ _ (by omega), decide_eq_false hm]⟩
     have HI1 := Aside0.mk hI
     have H1 := Aside0.mk h1
     have H2 := Aside0.mk h2
     clear hI hR h1 h2 hm hf1 hat1 hk1
     go_wp2_with (first
      | (go_at_call 91; refine (slices_Contains_int64_int64.calls (o.length + 1) A' c' o (i : Int) false wr (C_of_nums HI1.out.row) (own_cap HI1.out.row) HH.out).mono ?_; rintro e w2 ⟨rfl, hb2⟩; have hI2 := HI1.out.step hJ hb2.below; have c02 := hI2.c0; have HI2 := Aside0.mk hI2; have HB2 := Aside0.mk hb2.below; clear hb2 hI2 c0)
      | (at_builtin; refine print_append_num (w0 := w2) base rfl (.tmp 23) (.tmp 25) 37 2 .i64 8 rfl Try.underlying37 info2e (by decide) (.slice A' o.length c') o (i : Int) rfl rfl HI2.out.row (Below.refl _ _) HI2.out.bs (by omega) ?_; intro v3 w3 hown hbel hgr hat; obtain ⟨A3, n3, e3⟩ := own_slice hown; rw [e3]; rw [e3] at hown hat; have hp := HI2.out.put hJ hown hgr hat; have d0 := (blk_cell hp.2.2 0).trans rfl; have f0 := blk_frozen hp.2.2 0; have HP3 := Aside0.mk hp; have HAT3 := Aside0.mk hat; clear hown hbel hgr hat hp e3 c02)
      | (refine hand_store (fun w' => EInvL J base w' bo bn bc bf n p0 p1 p2 (.slice A3 (o ++ [(i : Int)]).length n3) (o ++ [(i : Int)]) s1 fp1 ∧ KeepP (fun k => k ≠ bo ∧ some k ≠ (Value.slice A' o.length c').ownBlock) w2 w') (t := 37) (p := 0) (v := .tmp 26) (w1 := w3.setCell ⟨bo, 0, none⟩ (.slice A3 (o ++ [(i : Int)]).length n3)) ?hg rfl ?hN ?hr ?hF ?_; (case hg => rfl); (case hN => rfl); (case hr => first | (go_simp; done) | (go_simp; rfl)); (case hF => exact ⟨HP3.out.1, HP3.out.2.1⟩); clear d0 f0 HP3; rintro w4 ⟨hI4, hk4⟩; have n3c := hI4.c3; have HI4 := Aside0.mk hI4; have HK4 := Aside0.mk hk4; clear hI4 hk4)
      | (go_at_call 90; refine (ih w4 _ (o ++ [(i : Int)]) s1 q fp1 HI4.out (by rw [List.length_append]; show o.length + 1 + m = _; have := HE.out; omega) H1.out).mono ?_; rintro e w5 ⟨rfl, vo5, fp5, hI5, hf5, hat5, hk5⟩; obtain ⟨A5, n5, e5⟩ := own_slice hI5.row; rw [e5] at hI5 hat5; clear e5; have hle5 := own_cap hI5.row; have hle6 : o.length ≤ n5 := (by rw [List.length_append] at hle5; exact Nat.le_trans (Nat.le_add_right _ _) hle5); have c05 := hI5.c0; have f05 := hI5.f0; have HI5 := Aside0.mk hI5; have HF5 := Aside0.mk (And.intro hf5 (And.intro hat5 hk5)); clear hI5 hf5 hat5 hk5 hle5 n3c)
      | (refine hand_store (fun w' => EInvL J base w' bo bn bc bf n p0 p1 p2 (.slice A5 o.length n5) o q fp5 ∧ KeepP (fun k => k ≠ bo ∧ some k ≠ (Value.slice A5 (o ++ [(i : Int)]).length n5).ownBlock) w5 w') (t := 37) (p := 0) (v := .tmp 31) (w1 := w5.setCell ⟨bo, 0, none⟩ (.slice A5 o.length n5)) ?hg6 rfl ?hN6 ?hr6 ?hF6 ?_; (case hg6 => rfl); (case hN6 => rfl); (case hr6 => first | (go_simp; done) | (go_simp; rfl)); (case hF6 => exact truncL HI5.out hJ); clear c05 f05 hle6; rintro w6 ⟨hI6, hk6⟩; have HI6 := Aside0.mk hI6; have HK6 := Aside0.mk hk6; clear hI6 hk6))
     have HEND : Aside0 ((∀ k, fp5 k → fp k ∨ w.heap.size ≤ k) ∧ ((Value.slice A5 o.length n5).ownBlock = (Value.slice A o.length c).ownBlock ∨ ∃ b, (Value.slice A5 o.length n5).ownBlock = some b ∧ w.heap.size ≤ b) ∧ KeepP (fun k => ¬ fp k ∧ k ≠ bo ∧ some k ≠ (Value.slice A o.length c).ownBlock) w w6) := ⟨by
      obtain ⟨hf1, hat1, hk1⟩ := HFR.out
      obtain ⟨hf5, hat5, hk5⟩ := HF5.out
      have s1 := hk1.size
      have s2 := HB2.out.size
      have s4 := HK4.out.size
      have s5 := hk5.size
      refine ⟨fun k hk => ?_, ?_, ?_⟩
      ·rcases hf5 k hk with h5 | h5
       ·exact hf1 k h5
       ·exact Or.inr (by omega)
      ·exact ends_at hat1 HAT3.out hat5 (by omega) (by omega)
      ·have q1 := hk1.trans (KeepP.of_below (P := fun _ => True) HB2.out) (P := fun k => ¬ fp k ∧ k ≠ bo ∧ some k ≠ (Value.slice A o.length c).ownBlock) (fun _ _ h => h) (fun _ _ _ => trivial)
       have n1 : ∀ j, j < w.heap.size → some j ≠ (Value.slice A o.length c).ownBlock → some j ≠ (Value.slice A' o.length c').ownBlock := fun j hj hp e => by
        rcases hat1 with h | ⟨b, h, hb⟩
        ·exact hp (by rw [e, h])
        ·rw [h] at e; injection e with e; omega
       have n3 : ∀ j, j < w.heap.size → some j ≠ (Value.slice A o.length c).ownBlock → some j ≠ (Value.slice A3 (o ++ [(i : Int)]).length n3).ownBlock := fun j hj hp e => by
        rcases HAT3.out with h | ⟨b, h, hb⟩
        ·exact n1 j hj hp (by rw [e, h])
        ·rw [h] at e; injection e with e; omega
       have n5' : ∀ j, j < w.heap.size → some j ≠ (Value.slice A o.length c).ownBlock → some j ≠ (Value.slice A5 (o ++ [(i : Int)]).length n5).ownBlock := fun j hj hp e => by
        rcases hat5 with h | ⟨b, h, hb⟩
        ·exact n3 j hj hp (by rw [e, h])
        ·rw [h] at e; injection e with e; omega
       have nf1 : ∀ j, j < w.heap.size → ¬ fp j → ¬ fp1 j := fun j hj hp e => (hf1 j e).elim hp (fun h => by omega)
       have q2 := q1.trans HK4.out (P := fun k => ¬ fp k ∧ k ≠ bo ∧ some k ≠ (Value.slice A o.length c).ownBlock) (fun _ _ h => h) (fun j hj h => ⟨h.2.1, n1 j hj h.2.2⟩)
       have q3 := q2.trans hk5 (P := fun k => ¬ fp k ∧ k ≠ bo ∧ some k ≠ (Value.slice A o.length c).ownBlock) (fun _ _ h => h) (fun j hj h => ⟨nf1 j hj h.1, h.2.1, n3 j hj h.2.2⟩)
       exact q3.trans HK6.out (fun _ _ h => h) (fun j hj h => ⟨h.2.1, n5' j hj h.2.2⟩)⟩
     go_roundg (n - (i + 1))
     case measure => have := HJ.out; omega
     case rel => exact ⟨i + 1, by go_num, ⟨by omega, by omega⟩, ⟨_, _, _, _, HI6.out, H2.out, HEND.out.1, HEND.out.2.1, HEND.out.2.2⟩⟩
   ·have hltb : decide (i < n) = false := decide_eq_false hlt
    rw [ordersAt_end _ _ _ _ (by omega)] at hR
    obtain rfl : s1 = s' := Option.some.inj hR
    have HP : Aside0 (EPostL J base w bo bn bc bf n p0 p1 p2 (.slice A o.length c) o s1 fp (.returned (.tuple #[])) wr) := ⟨⟨rfl, _, _, hI, hf1, hat1, hk1⟩⟩
    clear hI hR hf1 hat1 hk1
    go_wp2_with fail
    first | go_end0 | refine bodyPost_ret (results_none rfl _ _ _) rfl ?_
    exact HP.out
set_option maxRecDepth 100000 in
set_option maxHeartbeats 8000000 in
theorem eachL_calls {σ : Type} (J : σ → World → (Nat → Prop) → Prop) (step : σ → List Int → Option σ) (n : Nat) (hn7 : n ≤ 7) (p0 p1 p2 : Addr) (hJ : ∀ s w w' fp, J s w fp → KeepP fp w w' → J s w' fp) (hC : ECallL J step p0 p1 p2) (w : World) (s s' : σ) (fp : Nat → Prop) (hj : J s w fp) (hfl : ∀ k, fp k → k < w.heap.size) (hr : (ordersFrom n n []).foldlM step s = some s') :
  Calls Try.prog 64 #[.int .i64 (n : Int), .func (.func 79) #[] #[.pointer (some p0), .pointer (some p1), .pointer (some p2)]] w fun e w' => e = .returned (.tuple #[]) ∧ ∃ fp', J s' w' fp' ∧ (∀ k, fp' k → k < w'.heap.size) ∧ (∀ k, fp' k → fp k ∨ w.heap.size ≤ k) ∧ KeepP (fun k => ¬ fp k) w w' := by
 have eg : ∀ args w, (callFunc 90 args).run Try.prog w = .ok (.enter 90 args) w := enters_of Try.func90 (by kernel_rfl) rfl
 have hmf : ∀ (fn : Fn) (first cap : Array Value) (w : World), (Instr.makeFunc fn first cap).run Try.prog w = .ok (.func fn first cap) w := fun _ _ _ _ => rfl
 have HJ := Aside0.mk hj
 have HFL := Aside0.mk hfl
 have HR := Aside0.mk hr
 clear hj hfl hr
 go_enter Try.func64, Try.ntmps64
 go_wp2_with (first
  | ((with_reducible refine gate_dst (N := 2) rfl ?_); refine hand_box (fun g w1 => w1.heap[g]? = some (.cells #[.int .i64 (n : Int)] 3 (0, 0)) ∧ Below w.heap.size w w1 ∧ w.heap.size ≤ g) ?hg1 (N := 2) ?hd1 (cs := #[.int .i64 (n : Int)]) (t := 3) ?hr1 ?hF1 ?_; (case hd1 => rfl); (case hg1 => rfl); (case hr1 => first | (go_simp; done) | (go_simp; rfl)); (case hF1 => exact ⟨heap_alloc_new _ _, below_alloc (Below.refl _ _) _, Nat.le_refl _⟩); intro bn w1 h1; have H1 := Aside0.mk h1; clear h1)
  | ((with_reducible refine gate_dst (N := 3) rfl ?_); refine hand_box (fun g w2 => w2.heap[g]? = some (.cells #[.func (.func 79) #[] #[.pointer (some p0), .pointer (some p1), .pointer (some p2)]] 76 (0, 0)) ∧ w.heap.size ≤ g ∧ w2.heap[bn]? = some (.cells #[.int .i64 (n : Int)] 3 (0, 0)) ∧ Below w.heap.size w w2 ∧ w.heap.size ≤ bn) ?hg2 (N := 3) ?hd2 (cs := #[.func (.func 79) #[] #[.pointer (some p0), .pointer (some p1), .pointer (some p2)]]) (t := 76) ?hr2 ?hF2 ?_; (case hd2 => rfl); (case hg2 => rfl); (case hr2 => first | (go_simp; done) | (go_simp; rfl)); (case hF2 => exact ⟨heap_alloc_new _ _, H1.out.2.1.size, blk_alloc H1.out.1 _, below_then H1.out.2.1 H1.out.2.1.size (below_alloc (Below.refl _ _) _), H1.out.2.2⟩); intro bc w2 h2; have H2 := Aside0.mk h2; clear h2 H1)
  | ((with_reducible refine gate_dst (N := 6) rfl ?_); refine Kd.R_lit (Kd.int .i64) w.heap.size 2 ?hg3 (w0 := w) (N := 6) ?hd3 (xs := ([] : List Int)) (inner := []) (ok := fun _ => True) (okp := fun _ => True) ?hr3 ?hp3 (fun _ hk => hk) trivial H2.out.2.2.2.1 H2.out.2.2.2.1.size (by simp) ?_; (case hd3 => rfl); (case hg3 => rfl); (case hr3 => first | (go_simp; done) | (go_simp; rfl)); (case hp3 => exact (Reps.none _ _)); intro v3 w3 ho3 hb3 hg3 _; have ho4 := nums_of_R ho3; obtain ⟨A3, n3, e3⟩ := own_slice ho4; rw [e3] at ho4; rw [e3]; have H3 := Aside0.mk (show w3.heap[bc]? = some (.cells #[.func (.func 79) #[] #[.pointer (some p0), .pointer (some p1), .pointer (some p2)]] 76 (0, 0)) ∧ w.heap.size ≤ bc ∧ w3.heap[bn]? = some (.cells #[.int .i64 (n : Int)] 3 (0, 0)) ∧ Below w.heap.size w w3 ∧ w.heap.size ≤ bn ∧ w3.ownsRow w.heap.size 2 1 (.slice A3 ([] : List Int).length n3) ([] : List Int).length (nums .i64 []) from ⟨blk_grown H2.out.1 hg3 (by simp), H2.out.2.1, blk_grown H2.out.2.2.1 hg3 (by simp), hb3, H2.out.2.2.2.2, ho4⟩); clear ho3 ho4 hb3 hg3 e3 H2)
  | ((with_reducible refine gate_dst (N := 4) rfl ?_); refine hand_box (fun g w4 => w4.heap[g]? = some (.cells #[.slice none 0 0] 37 (0, 0)) ∧ w.heap.size ≤ g ∧ w4.heap[bc]? = some (.cells #[.func (.func 79) #[] #[.pointer (some p0), .pointer (some p1), .pointer (some p2)]] 76 (0, 0)) ∧ w.heap.size ≤ bc ∧ w4.heap[bn]? = some (.cells #[.int .i64 (n : Int)] 3 (0, 0)) ∧ Below w.heap.size w w4 ∧ w.heap.size ≤ bn ∧ w4.ownsRow w.heap.size 2 1 (.slice A3 ([] : List Int).length n3) ([] : List Int).length (nums .i64 [])) ?hg4 (N := 4) ?hd4 (cs := #[.slice none 0 0]) (t := 37) ?hr4 ?hF4 ?_; (case hd4 => rfl); (case hg4 => rfl); (case hr4 => first | (go_simp; done) | (go_simp; rfl)); (case hF4 => exact ⟨heap_alloc_new _ _, H3.out.2.2.2.1.size, blk_alloc H3.out.1 _, H3.out.2.1, blk_alloc H3.out.2.2.1 _, below_then H3.out.2.2.2.1 H3.out.2.2.2.1.size (below_alloc (Below.refl _ _) _), H3.out.2.2.2.2.1, H3.out.2.2.2.2.2.alloc _⟩); intro bo w4 h4; have e0 : w4.cell? ⟨bo, 0, none⟩ = some (.slice none 0 0) := (blk_cell h4.1 0).trans rfl; have e1 := blk_frozen h4.1 0; have H4 := Aside0.mk h4; clear h4 H3)
  | (refine hand_store (fun w5 => w5.heap[bo]? = some (.cells #[.slice A3 ([] : List Int).length n3] 37 (0, 0)) ∧ w.heap.size ≤ bo ∧ w5.heap[bc]? = some (.cells #[.func (.func 79) #[] #[.pointer (some p0), .pointer (some p1), .pointer (some p2)]] 76 (0, 0)) ∧ w.heap.size ≤ bc ∧ w5.heap[bn]? = some (.cells #[.int .i64 (n : Int)] 3 (0, 0)) ∧ Below w.heap.size w w5 ∧ w.heap.size ≤ bn ∧ w5.ownsRow w.heap.size 2 1 (.slice A3 ([] : List Int).length n3) ([] : List Int).length (nums .i64 [])) (t := 37) (p := 4) (v := .tmp 6) (w1 := w4.setCell ⟨bo, 0, none⟩ (.slice A3 ([] : List Int).length n3)) ?hg5 rfl ?hN5 ?hr5 ?hF5 ?_; (case hg5 => rfl); (case hN5 => rfl); (case hr5 => first | (go_simp; done) | (go_simp; rfl)); (case hF5 => exact ⟨blk_set H4.out.1 0 _, H4.out.2.1, blk_far H4.out.2.2.1 (blk_ne H4.out.2.2.1 H4.out.1 (by decide)) _, H4.out.2.2.2.1, blk_far H4.out.2.2.2.2.1 (blk_ne H4.out.2.2.2.2.1 H4.out.1 (by decide)) _, H4.out.2.2.2.2.2.1.setCell H4.out.2.1 _, H4.out.2.2.2.2.2.2.1, own_setCell H4.out.2.2.2.2.2.2.2 (own_ne H4.out.2.2.2.2.2.2.2 H4.out.1 (by decide)) _⟩); clear e0 e1 H4; intro w5 h5; have H5 := Aside0.mk h5; clear h5)
  | ((with_reducible refine gate_dst (N := 5) rfl ?_); refine hand_box (fun g w6 => w6.heap[g]? = some (.cells #[.nilFunc] 1 (0, 0)) ∧ w.heap.size ≤ g ∧ w6.heap[bo]? = some (.cells #[.slice A3 ([] : List Int).length n3] 37 (0, 0)) ∧ w.heap.size ≤ bo ∧ w6.heap[bc]? = some (.cells #[.func (.func 79) #[] #[.pointer (some p0), .pointer (some p1), .pointer (some p2)]] 76 (0, 0)) ∧ w.heap.size ≤ bc ∧ w6.heap[bn]? = some (.cells #[.int .i64 (n : Int)] 3 (0, 0)) ∧ Below w.heap.size w w6 ∧ w.heap.size ≤ bn ∧ w6.ownsRow w.heap.size 2 1 (.slice A3 ([] : List Int).length n3) ([] : List Int).length (nums .i64 [])) ?hg6 (N := 5) ?hd6 (cs := #[.nilFunc]) (t := 1) ?hr6 ?hF6 ?_; (case hd6 => rfl); (case hg6 => rfl); (case hr6 => first | (go_simp; done) | (go_simp; rfl)); (case hF6 => exact ⟨heap_alloc_new _ _, H5.out.2.2.2.2.2.1.size, blk_alloc H5.out.1 _, H5.out.2.1, blk_alloc H5.out.2.2.1 _, H5.out.2.2.2.1, blk_alloc H5.out.2.2.2.2.1 _, below_then H5.out.2.2.2.2.2.1 H5.out.2.2.2.2.2.1.size (below_alloc (Below.refl _ _) _), H5.out.2.2.2.2.2.2.1, H5.out.2.2.2.2.2.2.2.alloc _⟩); intro bf w6 h6; have HBO : Aside0 (w.heap.size ≤ bo) := ⟨h6.2.2.2.1⟩; have e0 : w6.cell? ⟨bf, 0, none⟩ = some .nilFunc := (blk_cell h6.1 0).trans rfl; have e1 := blk_frozen h6.1 0; have H6 := Aside0.mk h6; clear h6 H5)
  | (refine hand_store (fun w7 => EInvL J w.heap.size w7 bo bn bc bf n p0 p1 p2 (.slice A3 ([] : List Int).length n3) [] s fp ∧ Below w.heap.size w w7) (t := 1) (p := 5) (v := .tmp 7) (w1 := w6.setCell ⟨bf, 0, none⟩ (.func (.func 90) #[] #[.pointer (some ⟨bo, 0, none⟩), .pointer (some ⟨bn, 0, none⟩), .pointer (some ⟨bc, 0, none⟩), .pointer (some ⟨bf, 0, none⟩)])) ?hg7 rfl ?hN7 ?hr7 ?hF7 ?_; (case hg7 => rfl); (case hN7 => rfl); (case hr7 => first | (go_simp; done) | (go_simp; rfl)); (case hF7 => obtain ⟨q1, q2, q3, q4, q5, q6, q7, q8, q9, q10⟩ := H6.out; have hb := q8.setCell (p := ⟨bf, 0, none⟩) q2 (.func (.func 90) #[] #[.pointer (some ⟨bo, 0, none⟩), .pointer (some ⟨bn, 0, none⟩), .pointer (some ⟨bc, 0, none⟩), .pointer (some ⟨bf, 0, none⟩)]); exact ⟨⟨blk_far q3 (blk_ne q3 q1 (by decide)) _, blk_far q7 (blk_ne q7 q1 (by decide)) _, blk_far q5 (blk_ne q5 q1 (by decide)) _, blk_set q1 0 _, own_setCell q10 (own_ne q10 q1 (by decide)) _, ⟨fun h => absurd (HFL.out _ h) (by omega), fun h => absurd (HFL.out _ h) (by omega), fun h => absurd (HFL.out _ h) (by omega), fun h => absurd (HFL.out _ h) (by omega)⟩, fun r hr h => absurd (HFL.out _ h) (by have := own_base q10 r hr; omega), hJ _ _ _ _ HJ.out (KeepP.of_below hb), fun k hk => Nat.lt_of_lt_of_le (HFL.out k hk) hb.size, hb.size⟩, hb⟩); clear e0 e1 H6; rintro w7 ⟨hI, hb7⟩; have HOB : Aside0 (w.heap.size ≤ bo) := ⟨HBO.out⟩; have n0 := hI.c3; have HI := Aside0.mk hI; have HB7 := Aside0.mk hb7; clear hI hb7)
  | (go_at_call 90; refine (eachL_fill J step w.heap.size bo bn bc bf n hn7 p0 p1 p2 hJ hC n w7 _ [] s s' fp HI.out (by simp) HR.out).mono ?_; rintro e w8 ⟨rfl, vo8, fp8, hI8, hf8, hat8, hk8⟩; have HP : Aside0 (∃ fp', J s' w8 fp' ∧ (∀ k, fp' k → k < w8.heap.size) ∧ (∀ k, fp' k → fp k ∨ w.heap.size ≤ k) ∧ KeepP (fun k => ¬ fp k) w w8) := ⟨⟨fp8, hI8.j, hI8.fl, (fun k hk => (hf8 k hk).elim Or.inl (fun h => Or.inr (Nat.le_trans HB7.out.size h))), (KeepP.of_below (P := fun _ => True) HB7.out).trans hk8 (fun _ _ _ => trivial) (fun j hj hp => ⟨hp, fun e => by { have := HB7.out.block j hj; rw [e, HI.out.ho] at this; have h2 := (HOB.out : w.heap.size ≤ bo); omega }, fun e => by { have := own_base HI.out.row j e.symm; omega }⟩)⟩⟩; clear hI8 hf8 hat8 hk8 HI n0))
 first | go_end0 | refine bodyPost_ret (results_none rfl _ _ _) rfl ?_
 exact ⟨rfl, HP.out⟩
def leafI (k : Nat) (l : List S55) (st : List Int × Int) (o : List Int) : Option (List Int × Int) :=
 (impl_harmOf.f k l o).bind fun n => some (if st.2 < 0 ∨ n < st.2 then (o, n) else st)
/-- What LeastHarm keeps: its list at bl, 'least' at bq, 'best' at bb. -/
structure JL (w0 : World) (bl bq bb : Nat) (Al : Option Addr) (cl : Nat) (l : List S55) (st : List Int × Int) (w : World) (fp : Nat → Prop) : Prop where
 hl : w.heap[bl]? = some (.cells #[.slice Al l.length cl] 31 (0, 0))
 hq : w.heap[bq]? = some (.cells #[.int .i64 st.2] 2 (0, 0))
 row : ∃ vb, w.heap[bb]? = some (.cells #[vb] 37 (0, 0)) ∧ w.ownsRow w0.heap.size 2 1 vb st.1.length (nums .i64 st.1) ∧ vb.ownBlock ≠ some bq ∧ ∀ k, fp k ↔ (k < w0.heap.size ∨ k = bl ∨ k = bq ∨ k = bb ∨ vb.ownBlock = some k)
 list : Kd.C k55 w0 Al l.length l
 cap : l.length ≤ cl
 below : Below w0.heap.size w0 w
 ge : w0.heap.size ≤ bl ∧ w0.heap.size ≤ bq ∧ w0.heap.size ≤ bb
theorem JL.move {w0 : World} {bl bq bb : Nat} {Al : Option Addr} {cl : Nat} {l : List S55} : ∀ (s : List Int × Int) (w w' : World) (fp : Nat → Prop), JL w0 bl bq bb Al cl l s w fp → KeepP fp w w' → JL w0 bl bq bb Al cl l s w' fp := by
 intro s w w' fp h hk
 obtain ⟨vb, h1, h2, h3, h4⟩ := h.row
 exact ⟨hk.blk h.hl ((h4 _).2 (Or.inr (Or.inl rfl))), hk.blk h.hq ((h4 _).2 (Or.inr (Or.inr (Or.inl rfl)))), ⟨vb, hk.blk h1 ((h4 _).2 (Or.inr (Or.inr (Or.inr (Or.inl rfl))))), hk.own h2 (fun k hk => (h4 _).2 (Or.inr (Or.inr (Or.inr (Or.inr hk))))), h3, h4⟩, h.list, h.cap, h.below.trans (hk.below h.below.size (fun k hk => (h4 _).2 (Or.inl hk))), h.ge⟩
theorem JL.fl {w0 w : World} {bl bq bb : Nat} {Al : Option Addr} {cl : Nat} {l : List S55} {s : List Int × Int} {fp : Nat → Prop} (h : JL w0 bl bq bb Al cl l s w fp) : ∀ k, fp k → k < w.heap.size := by
 intro k hk
 obtain ⟨vb, h1, h2, h3, h4⟩ := h.row
 rcases (h4 k).1 hk with hk | rfl | rfl | rfl | hk
 ·exact Nat.lt_of_lt_of_le hk h.below.size
 ·exact blk_lt h.hl
 ·exact blk_lt h.hq
 ·exact blk_lt h1
 ·exact own_lt h2 k hk
set_option maxRecDepth 100000 in
set_option maxHeartbeats 8000000 in
theorem leastHarm_call (k : Nat) (w0 : World) (bl bq bb : Nat) (Al : Option Addr) (cl : Nat) (l : List S55) : ECallL (JL w0 bl bq bb Al cl l) (leafI k l) ⟨bl, 0, none⟩ ⟨bq, 0, none⟩ ⟨bb, 0, none⟩ := by
 intro s s' o w fp A no c hno hj hfl hC hc hol hs
 subst hno
 obtain ⟨best, least⟩ := s
 unfold leafI at hs
 obtain ⟨n, hn1, hs⟩ := Option.bind_eq_some_iff.mp hs
 replace hs := Option.some.inj hs
 obtain ⟨vb, g1, g2, g3, g4⟩ := hj.row
 have HJ := Aside0.mk hj
 have HV := Aside0.mk (And.intro g1 (And.intro g2 (And.intro g3 g4)))
 have HC := Aside0.mk hC
 have HN := Aside0.mk hn1
 have HS := Aside0.mk hs
 have c0 : w.cell? ⟨bl, 0, none⟩ = some (.slice Al l.length cl) := (blk_cell hj.hl 0).trans rfl
 have c1 : w.cell? ⟨bq, 0, none⟩ = some (.int .i64 least) := (blk_cell hj.hq 0).trans rfl
 clear hj hfl hC hn1 hs g1 g2 g3 g4
 by_cases hcond : least < 0 ∨ n < least
 ·have HSE : Aside0 ((o, n) = s') := ⟨by rw [← HS.out]; exact (if_pos hcond).symm⟩
  have HCO := Aside0.mk hcond
  clear hcond
  go_enter Try.func79, Try.ntmps79
  go_upto_region 1 with (go_at_call 77; refine (impl_harmOf.calls k Al cl l A c o n w (Kd.C_below HJ.out.list HJ.out.below) HJ.out.cap HC.out hc HN.out).mono ?_; rintro e w1 ⟨rfl, hb1⟩; have d0 := pw_cell_below hb1 c0; have d1 := pw_cell_below hb1 c1; have HB1 := Aside0.mk hb1; clear hb1 c0 c1)
  obtain ⟨wx, hwx⟩ : ∃ wx, wx = w1 := ⟨_, rfl⟩
  subst hwx
  go_cut [15] (fun q wy => q = .bool true ∧ Aside0 (wy = wx))
  case first =>
   by_cases hl1 : least < 0
   ·have z1 : decide (least < 0) = true := decide_eq_true hl1
    go_wp2_with fail
    go_meet
    exact ⟨rfl, ⟨rfl⟩⟩
   ·have z1 : decide (least < 0) = false := decide_eq_false hl1
    have z2 : decide (n < least) = true := decide_eq_true (by have := HCO.out; omega)
    go_wp2_with fail
    go_meet
    exact ⟨rfl, ⟨rfl⟩⟩
  case rest =>
   obtain ⟨rfl, hwy⟩ := hcut
   have hwy' := hwy.out
   subst hwy'
   clear hwy
   obtain ⟨w2, hw2⟩ : ∃ w2, w2 = wc := ⟨_, rfl⟩
   subst hw2
   go_wp2_with (first
    | ((with_reducible refine gate_dst (N := 16) rfl ?_); refine Kd.R_lit (Kd.int .i64) w2.heap.size 2 ?hg3 (w0 := w2) (N := 16) ?hd3 (xs := ([] : List Int)) (inner := []) (ok := fun _ => True) (okp := fun _ => True) ?hr3 ?hp3 (fun _ hk => hk) trivial (Below.refl _ _) (Nat.le_refl _) (by simp) ?_; (case hd3 => rfl); (case hg3 => rfl); (case hr3 => first | (go_simp; done) | (go_simp; rfl)); (case hp3 => exact (Reps.none _ _)); intro v3 w3 ho3 hb3 hg3 _; have HO3 := Aside0.mk ho3; have HB3 := Aside0.mk hb3; clear ho3 hb3 hg3)
    | ((with_reducible refine gate_builtin (b := .append) (xs := #[.tmp 16, .tmp 17]) rfl ?_); at_builtin; refine Kd.R_append_rows (Kd.int .i64) (w0 := w2) w2.heap.size rfl (.tmp 16) (.tmp 17) 37 2 (.int .i64 0) 8 rfl Try.underlying37 info2 rfl (by decide) (by omega) v3 [] o _ _ _ (fun _ => True) (fun _ => False) rfl rfl ?aO ?aR (fun _ _ h => h) (fun _ h => h.elim) ?aF ?aB ?aS ?aL ?_; (case aR => exact Kd.C_below (Kd.C_below HC.out HB1.out) HB3.out); (case aB => exact HB3.out); (case aF => exact (fun _ _ => trivial)); (case aO => exact HO3.out); (case aS => exact HB3.out.size); (case aL => rw [List.length_nil]; omega); intro v4 w4 ho4 hb4 _ _; rw [List.nil_append] at ho4; have ho5 := nums_of_R ho4; obtain ⟨A5, n5, e5⟩ := own_slice ho5; rw [e5] at ho5; rw [e5]; have HO5 := Aside0.mk ho5; have HB5 := Aside0.mk (HB1.out.trans (hb4.mono HB1.out.size)); have hj5 := JL.move _ _ _ _ HJ.out (KeepP.of_below HB5.out); obtain ⟨vb5, g1, g2, g3, g4⟩ := hj5.row; have e0 : w4.cell? ⟨bb, 0, none⟩ = some vb5 := (blk_cell g1 0).trans rfl; have e1 := blk_frozen g1 0; have HJ5 := Aside0.mk hj5; have HG5 := Aside0.mk (And.intro g1 (And.intro g2 (And.intro g3 g4))); clear ho4 ho5 hb4 e5 hj5 g1 g2 g3 g4 HO3 HB3 d0 d1)
    | (refine hand_store (fun w6 => w6.heap[bb]? = some (.cells #[.slice A5 o.length n5] 37 (0, 0)) ∧ w6.ownsRow w2.heap.size 2 1 (.slice A5 o.length n5) o.length (nums .i64 o) ∧ w6.heap[bl]? = some (.cells #[.slice Al l.length cl] 31 (0, 0)) ∧ w6.heap[bq]? = some (.cells #[.int .i64 least] 2 (0, 0)) ∧ Below w0.heap.size w0 w6 ∧ KeepP (fun k => ¬ fp k) w w6) (t := 37) (p := 3) (v := .tmp 18) (w1 := w4.setCell ⟨bb, 0, none⟩ (.slice A5 o.length n5)) ?hg6 rfl ?hN6 ?hr6 ?hF6 ?_; (case hg6 => rfl); (case hN6 => rfl); (case hr6 => first | (go_simp; done) | (go_simp; rfl)); (case hF6 => exact ⟨blk_set HG5.out.1 0 _, own_setCell HO5.out (own_ne HO5.out HG5.out.1 (by decide)) _, blk_far HJ5.out.hl (blk_ne HJ5.out.hl HG5.out.1 (by decide)) _, blk_far HJ5.out.hq (blk_ne HJ5.out.hq HG5.out.1 (by decide)) _, HJ5.out.below.setCell HJ5.out.ge.2.2 _, (KeepP.of_below (P := fun _ => True) HB5.out).trans (KeepP.of_set w4 ⟨bb, 0, none⟩ _) (fun _ _ _ => trivial) (fun j _ hp e => hp ((HV.out.2.2.2 j).2 (Or.inr (Or.inr (Or.inr (Or.inl e))))))⟩); clear e0 e1; intro w6 h6; have d1 : w6.cell? ⟨bq, 0, none⟩ = some (.int .i64 least) := (blk_cell h6.2.2.2.1 0).trans rfl; have e1 := blk_frozen h6.2.2.2.1 0; have H6 := Aside0.mk h6; clear h6)
    | (refine hand_store (fun w7 => JL w0 bl bq bb Al cl l (o, n) w7 (fun k => k < w0.heap.size ∨ k = bl ∨ k = bq ∨ k = bb ∨ (Value.slice A5 o.length n5).ownBlock = some k) ∧ KeepP (fun k => ¬ fp k) w w7) (t := 2) (p := 2) (v := .tmp 19) (w1 := w6.setCell ⟨bq, 0, none⟩ (.int .i64 n)) ?hg7 rfl ?hN7 ?hr7 ?hF7 ?_; (case hg7 => rfl); (case hN7 => rfl); (case hr7 => first | (go_simp; done) | (go_simp; rfl)); (case hF7 => obtain ⟨q1, q2, q3, q4, q5, q6⟩ := H6.out; have hnq : (Value.slice A5 o.length n5).ownBlock ≠ some bq := (fun e => by { have h1 := own_base q2 bq e; have h2 := blk_lt HJ.out.hq; have h3 := HB1.out.size; omega }); exact ⟨⟨blk_far q3 (blk_ne q3 q4 (by decide)) _, blk_set q4 0 _, ⟨_, blk_far q1 (blk_ne q1 q4 (by decide)) _, own_setCell (own_weaken q2 (Nat.le_trans HJ.out.below.size HB1.out.size)) (fun e => hnq e.symm) _, hnq, fun _ => Iff.rfl⟩, HJ.out.list, HJ.out.cap, q5.setCell HJ.out.ge.2.1 _, HJ.out.ge⟩, q6.trans (KeepP.of_set w6 ⟨bq, 0, none⟩ _) (fun _ _ h => h) (fun j _ hp e => hp ((HV.out.2.2.2 j).2 (Or.inr (Or.inr (Or.inl e)))))⟩); clear d1 e1; rintro w7 ⟨hj7, hk7⟩; have HP : Aside0 (∃ fp', JL w0 bl bq bb Al cl l s' w7 fp' ∧ (∀ k, fp' k → k < w7.heap.size) ∧ (∀ k, fp' k → fp k ∨ w.heap.size ≤ k) ∧ KeepP (fun k => ¬ fp k) w w7) := ⟨⟨_, HSE.out ▸ hj7, hj7.fl, (fun k hk => by { rcases hk with hk | rfl | rfl | rfl | hk; exact Or.inl ((HV.out.2.2.2 _).2 (Or.inl hk)); exact Or.inl ((HV.out.2.2.2 _).2 (Or.inr (Or.inl rfl))); exact Or.inl ((HV.out.2.2.2 _).2 (Or.inr (Or.inr (Or.inl rfl)))); exact Or.inl ((HV.out.2.2.2 _).2 (Or.inr (Or.inr (Or.inr (Or.inl rfl))))); exact Or.inr (Nat.le_trans HB1.out.size (own_base HO5.out k hk)) }), hk7⟩⟩; clear hj7 hk7))
   first | go_end0 | refine bodyPost_ret (results_none rfl _ _ _) rfl ?_
   exact ⟨rfl, HP.out⟩
 ·have HSE : Aside0 ((best, least) = s') := ⟨by rw [← HS.out]; exact (if_neg hcond).symm⟩
  have z1 : decide (least < 0) = false := decide_eq_false (by omega)
  have z2 : decide (n < least) = false := decide_eq_false (by omega)
  clear hcond
  go_enter Try.func79, Try.ntmps79
  go_wp2_with (go_at_call 77; refine (impl_harmOf.calls k Al cl l A c o n w (Kd.C_below HJ.out.list HJ.out.below) HJ.out.cap HC.out hc HN.out).mono ?_; rintro e w1 ⟨rfl, hb1⟩; have d0 := pw_cell_below hb1 c0; have d1 := pw_cell_below hb1 c1; have HB1 := Aside0.mk hb1; clear hb1 c0 c1)
  first | go_end0 | refine bodyPost_ret (results_none rfl _ _ _) rfl ?_
  have hj1 := JL.move _ _ _ _ HJ.out (KeepP.of_below HB1.out)
  exact ⟨rfl, fp, HSE.out ▸ hj1, hj1.fl, fun k hk => Or.inl hk, KeepP.of_below HB1.out⟩
def impl_LeastHarm.T6 : Bool × List (List Nat × List Nat) := (true, [([], []), ([], []), ([0, 0], [0]), ([1, 2, 0, 1, 2], [1]), ([3, 0, 1, 2, 3], [])])
def impl_LeastHarm.B6 : List Nat := [0, 0, 1, 7, 15]
theorem impl_LeastHarm.tab6 : rtab .any (opsOf Try.f43 6) = impl_LeastHarm.T6 := by kernel_rfl
theorem impl_LeastHarm.bits6 : waitsOk impl_LeastHarm.T6.2 impl_LeastHarm.B6 = true := by kernel_rfl

def impl_LeastHarm.f (k : Nat) (l0 : List S55) : Option (List Int × Int × Int) := (impl_ValidRenewals.f k l0).bind fun b => if b = true then (if l0.length ≤ 7 then ((ordersFrom l0.length l0.length []).foldlM (leafI k l0) ([], -1)).bind fun st => some (st.1, st.2, 0) else none) else some ([], 0, 1)
set_option maxHeartbeats 8000000 in
theorem impl_LeastHarm.calls (k : Nat) (A0 : Option Addr) (c0 : Nat) (l0 : List S55) (r1 : List Int) (r2 r3 : Int) (w : World) (hr0 : Kd.C k55 w A0 l0.length l0) (hc0 : l0.length ≤ c0) (h : impl_LeastHarm.f k l0 = some (r1, r2, r3)) :
  Calls Try.prog 43 #[.slice A0 l0.length c0] w fun e w' => ∃ v0_ : Value, e = .returned (.tuple #[v0_, .int .i64 r2, .int .i64 r3]) ∧ Kd.R (Kd.int .i64) 2 w' w.heap.size (fun _ => True) v0_ r1 ∧ Below w.heap.size w w' := by
 have hmf : ∀ (fn : Fn) (first cap : Array Value) (w : World), (Instr.makeFunc fn first cap).run Try.prog w = .ok (.func fn first cap) w := fun _ _ _ _ => rfl
 unfold impl_LeastHarm.f at h
 have HR0 := Aside0.mk hr0
 have HC0 := Aside0.mk hc0
 clear hr0 hc0
 replace h := Option.bind_eq_some_iff.mp h
 obtain ⟨b, hv, h⟩ := h
 have HV := Aside0.mk hv
 clear hv
 cases b with
 | false =>
  rw [if_neg (by decide)] at h
  simp only [Option.some.injEq, Prod.mk.injEq] at h
  obtain ⟨rfl, rfl, rfl⟩ := h
  go_enter Try.func43, Try.ntmps43
  go_wp2_with (first
   | ((with_reducible refine gate_dst (N := 1) rfl ?_); refine hand_box (fun g w1 => w1.heap[g]? = some (.cells #[.slice A0 l0.length c0] 31 (0, 0)) ∧ Below w.heap.size w w1 ∧ w.heap.size ≤ g) ?hg1 (N := 1) ?hd1 (cs := #[.slice A0 l0.length c0]) (t := 31) ?hr1 ?hF1 ?_; (case hd1 => rfl); (case hg1 => rfl); (case hr1 => first | (go_simp; done) | (go_simp; rfl)); (case hF1 => exact ⟨heap_alloc_new _ _, below_alloc (Below.refl _ _) _, Nat.le_refl _⟩); intro bl w1 h1; have d0 : w1.cell? ⟨bl, 0, none⟩ = some (.slice A0 l0.length c0) := (blk_cell h1.1 0).trans rfl; have H1 := Aside0.mk h1; clear h1)
   | (go_at_call 23; refine (impl_ValidRenewals.calls k A0 c0 l0 false w1 (Kd.C_below HR0.out H1.out.2.1) HC0.out HV.out).mono ?_; rintro e w2 ⟨rfl, hb2⟩; have d1 := pw_cell_below hb2 d0; have H2 := Aside0.mk (show w2.heap[bl]? = some (.cells #[.slice A0 l0.length c0] 31 (0, 0)) ∧ Below w.heap.size w w2 ∧ w.heap.size ≤ bl from ⟨(hb2.block bl (blk_lt H1.out.1)).trans H1.out.1, below_step H1.out.2.1 hb2, H1.out.2.2⟩); clear hb2 d0 H1))
  go_ret3
  exact ⟨_, rfl, Kd.R_nil _ _ _ _ _, H2.out.2.1⟩
 | true =>
  rw [if_pos rfl] at h
  by_cases hn : l0.length ≤ 7
  ·rw [if_pos hn] at h
   replace h := Option.bind_eq_some_iff.mp h
   obtain ⟨st, hst, h⟩ := h
   simp only [Option.some.injEq, Prod.mk.injEq] at h
   obtain ⟨rfl, rfl, rfl⟩ := h
   have HST := Aside0.mk hst
   have HN := Aside0.mk hn
   clear hst hn
   go_enter Try.func43, Try.ntmps43
   go_wp2_with (first
    | ((with_reducible refine gate_dst (N := 1) rfl ?_); refine hand_box (fun g w1 => w1.heap[g]? = some (.cells #[.slice A0 l0.length c0] 31 (0, 0)) ∧ Below w.heap.size w w1 ∧ w.heap.size ≤ g) ?hg1 (N := 1) ?hd1 (cs := #[.slice A0 l0.length c0]) (t := 31) ?hr1 ?hF1 ?_; (case hd1 => rfl); (case hg1 => rfl); (case hr1 => first | (go_simp; done) | (go_simp; rfl)); (case hF1 => exact ⟨heap_alloc_new _ _, below_alloc (Below.refl _ _) _, Nat.le_refl _⟩); intro bl w1 h1; have d0 : w1.cell? ⟨bl, 0, none⟩ = some (.slice A0 l0.length c0) := (blk_cell h1.1 0).trans rfl; have H1 := Aside0.mk h1; clear h1)
    | (go_at_call 23; refine (impl_ValidRenewals.calls k A0 c0 l0 true w1 (Kd.C_below HR0.out H1.out.2.1) HC0.out HV.out).mono ?_; rintro e w2 ⟨rfl, hb2⟩; have d1 := pw_cell_below hb2 d0; have H2 := Aside0.mk (show w2.heap[bl]? = some (.cells #[.slice A0 l0.length c0] 31 (0, 0)) ∧ Below w.heap.size w w2 ∧ w.heap.size ≤ bl from ⟨(hb2.block bl (blk_lt H1.out.1)).trans H1.out.1, below_step H1.out.2.1 hb2, H1.out.2.2⟩); clear hb2 d0 H1)
    | ((with_reducible refine gate_dst (N := 10) rfl ?_); refine Kd.R_lit (Kd.int .i64) w.heap.size 2 ?hg3 (w0 := w) (N := 10) ?hd3 (xs := ([] : List Int)) (inner := []) (ok := fun _ => True) (okp := fun _ => True) ?hr3 ?hp3 (fun _ hk => hk) trivial H2.out.2.1 H2.out.2.1.size (by simp) ?_; (case hd3 => rfl); (case hg3 => rfl); (case hr3 => first | (go_simp; done) | (go_simp; rfl)); (case hp3 => exact (Reps.none _ _)); intro v3 w3 ho3 hb3 hg3 _; have ho4 := nums_of_R ho3; obtain ⟨A3, n3, e3⟩ := own_slice ho4; rw [e3] at ho4; rw [e3]; have H3 := Aside0.mk (show w3.heap[bl]? = some (.cells #[.slice A0 l0.length c0] 31 (0, 0)) ∧ Below w.heap.size w w3 ∧ w.heap.size ≤ bl ∧ w3.ownsRow w.heap.size 2 1 (.slice A3 ([] : List Int).length n3) ([] : List Int).length (nums .i64 []) from ⟨blk_grown H2.out.1 hg3 (by simp), hb3, H2.out.2.2, ho4⟩); clear ho3 ho4 hb3 hg3 e3 H2 d1)
    | ((with_reducible refine gate_dst (N := 5) rfl ?_); refine hand_box (fun g w4 => w4.heap[g]? = some (.cells #[.slice none 0 0] 37 (0, 0)) ∧ w.heap.size ≤ g ∧ w4.heap[bl]? = some (.cells #[.slice A0 l0.length c0] 31 (0, 0)) ∧ Below w.heap.size w w4 ∧ w.heap.size ≤ bl ∧ w4.ownsRow w.heap.size 2 1 (.slice A3 ([] : List Int).length n3) ([] : List Int).length (nums .i64 [])) ?hg4 (N := 5) ?hd4 (cs := #[.slice none 0 0]) (t := 37) ?hr4 ?hF4 ?_; (case hd4 => rfl); (case hg4 => rfl); (case hr4 => first | (go_simp; done) | (go_simp; rfl)); (case hF4 => exact ⟨heap_alloc_new _ _, H3.out.2.1.size, blk_alloc H3.out.1 _, below_then H3.out.2.1 H3.out.2.1.size (below_alloc (Below.refl _ _) _), H3.out.2.2.1, H3.out.2.2.2.alloc _⟩); intro bb w4 h4; have e0 : w4.cell? ⟨bb, 0, none⟩ = some (.slice none 0 0) := (blk_cell h4.1 0).trans rfl; have e1 := blk_frozen h4.1 0; have H4 := Aside0.mk h4; clear h4 H3)
    | (refine hand_store (fun w5 => w5.heap[bb]? = some (.cells #[.slice A3 ([] : List Int).length n3] 37 (0, 0)) ∧ w.heap.size ≤ bb ∧ w5.heap[bl]? = some (.cells #[.slice A0 l0.length c0] 31 (0, 0)) ∧ Below w.heap.size w w5 ∧ w.heap.size ≤ bl ∧ w5.ownsRow w.heap.size 2 1 (.slice A3 ([] : List Int).length n3) ([] : List Int).length (nums .i64 [])) (t := 37) (p := 5) (v := .tmp 10) (w1 := w4.setCell ⟨bb, 0, none⟩ (.slice A3 ([] : List Int).length n3)) ?hg5 rfl ?hN5 ?hr5 ?hF5 ?_; (case hg5 => rfl); (case hN5 => rfl); (case hr5 => first | (go_simp; done) | (go_simp; rfl)); (case hF5 => exact ⟨blk_set H4.out.1 0 _, H4.out.2.1, blk_far H4.out.2.2.1 (blk_ne H4.out.2.2.1 H4.out.1 (by decide)) _, H4.out.2.2.2.1.setCell H4.out.2.1 _, H4.out.2.2.2.2.1, own_setCell H4.out.2.2.2.2.2 (own_ne H4.out.2.2.2.2.2 H4.out.1 (by decide)) _⟩); clear e0 e1 H4; intro w5 h5; have H5 := Aside0.mk h5; clear h5)
    | ((with_reducible refine gate_dst (N := 6) rfl ?_); refine hand_box (fun g w6 => w6.heap[g]? = some (.cells #[.int .i64 0] 2 (0, 0)) ∧ w.heap.size ≤ g ∧ w6.heap[bb]? = some (.cells #[.slice A3 ([] : List Int).length n3] 37 (0, 0)) ∧ w.heap.size ≤ bb ∧ w6.heap[bl]? = some (.cells #[.slice A0 l0.length c0] 31 (0, 0)) ∧ Below w.heap.size w w6 ∧ w.heap.size ≤ bl ∧ w6.ownsRow w.heap.size 2 1 (.slice A3 ([] : List Int).length n3) ([] : List Int).length (nums .i64 []) ∧ (Value.slice A3 ([] : List Int).length n3).ownBlock ≠ some g) ?hg6 (N := 6) ?hd6 (cs := #[.int .i64 0]) (t := 2) ?hr6 ?hF6 ?_; (case hd6 => rfl); (case hg6 => rfl); (case hr6 => first | (go_simp; done) | (go_simp; rfl)); (case hF6 => exact ⟨heap_alloc_new _ _, H5.out.2.2.2.1.size, blk_alloc H5.out.1 _, H5.out.2.1, blk_alloc H5.out.2.2.1 _, below_then H5.out.2.2.2.1 H5.out.2.2.2.1.size (below_alloc (Below.refl _ _) _), H5.out.2.2.2.2.1, H5.out.2.2.2.2.2.alloc _, fun e => absurd (own_lt H5.out.2.2.2.2.2 _ e) (by omega)⟩); intro bq w6 h6; have e0 : w6.cell? ⟨bq, 0, none⟩ = some (.int .i64 0) := (blk_cell h6.1 0).trans rfl; have e1 := blk_frozen h6.1 0; have H6 := Aside0.mk h6; clear h6 H5)
    | (refine hand_store (fun w7 => JL w bl bq bb A0 c0 l0 ([], -1) w7 (fun k => k < w.heap.size ∨ k = bl ∨ k = bq ∨ k = bb ∨ (Value.slice A3 ([] : List Int).length n3).ownBlock = some k)) (t := 2) (p := 6) (v := .const (.int .i64 (-1))) (w1 := w6.setCell ⟨bq, 0, none⟩ (.int .i64 (-1))) ?hg7 rfl ?hN7 ?hr7 ?hF7 ?_; (case hg7 => rfl); (case hN7 => rfl); (case hr7 => first | (go_simp; done) | (go_simp; rfl)); (case hF7 => obtain ⟨q1, q2, q3, q4, q5, q6, q7, q8, q9⟩ := H6.out; exact ⟨blk_far q5 (blk_ne q5 q1 (by decide)) _, blk_set q1 0 _, ⟨_, blk_far q3 (blk_ne q3 q1 (by decide)) _, own_setCell q8 (fun e => q9 e.symm) _, q9, fun _ => Iff.rfl⟩, HR0.out, HC0.out, q6.setCell q2 _, ⟨q7, q2, q4⟩⟩); clear e0 e1 H6; intro w7 hJ; have d2 : w7.cell? ⟨bl, 0, none⟩ = some (.slice A0 l0.length c0) := (blk_cell hJ.hl 0).trans rfl; have HJ := Aside0.mk hJ; clear hJ)
    | (go_at_call 64; refine (eachL_calls (JL w bl bq bb A0 c0 l0) (leafI k l0) l0.length HN.out ⟨bl, 0, none⟩ ⟨bq, 0, none⟩ ⟨bb, 0, none⟩ JL.move (leastHarm_call k w bl bq bb A0 c0 l0) w7 ([], -1) st _ HJ.out HJ.out.fl HST.out).mono ?_; rintro e w8 ⟨rfl, fp5, hJ5, _, _, _⟩; obtain ⟨vb9, g1, g2, g3, g4⟩ := hJ5.row; obtain ⟨A9, n9, e9⟩ := own_slice g2; rw [e9] at g1 g2; have d3 : w8.cell? ⟨bb, 0, none⟩ = some (.slice A9 st.1.length n9) := (blk_cell g1 0).trans rfl; have d4 : w8.cell? ⟨bq, 0, none⟩ = some (.int .i64 st.2) := (blk_cell hJ5.hq 0).trans rfl; have HB8 := Aside0.mk hJ5.below; have HO8 := Aside0.mk g2; clear hJ5 d2 g1 g2 g3 g4 e9))
   refine start_ (n := 5) (S := fun w' => w'.cell? ⟨bb, 0, none⟩ = some (.slice A9 st.1.length n9) ∧ w'.cell? ⟨bq, 0, none⟩ = some (.int .i64 st.2)) (ds := [99]) #[F_,F_,F_,F_,F_] (by kernel_rfl) rfl rfl ⟨d3, d4⟩ (fun hHeld => ?_); refine with_tabW impl_LeastHarm.tab6 impl_LeastHarm.bits6 (fun HT_ HW_ => ?_)
   refine take_ (i := 0) (N := some 15) (v := ?_) (a' := ?_) #[T_,F_,F_,F_,F_] rfl rfl (take_ofW HT_.out HW_.out (by kernel_rfl)) (fun _ _ _ h => h) (Or.inl ⟨by rfl, ?_⟩) hHeld ?_ ?_
   rotate_left
   ·rintro w' ⟨s0, s1⟩
    go_simp
    with_reducible rfl
   rotate_left
   ·simp only [Act.put, sT_, s0_, sS_, i64_w, i32_w]
    rfl
   refine pu (i := 2) (N := some 2) #[T_,F_,T_,F_,F_] HT_ ?_
   refine take_ (i := 1) (N := some 16) (v := ?_) (a' := ?_) #[T_,T_,T_,F_,F_] rfl rfl (take_ofW HT_.out HW_.out (by kernel_rfl)) (fun _ _ _ h => h) (Or.inl ⟨by rfl, ?_⟩) hHeld ?_ ?_
   rotate_left
   ·rintro w' ⟨s0, s1⟩
    go_simp
    with_reducible rfl
   rotate_left
   ·simp only [Act.put, sT_, s0_, sS_, i64_w, i32_w]
    rfl
   refine pu (i := 3) (N := some 3) #[T_,T_,T_,T_,F_] HT_ ?_
   refine pu (i := 4) (N := some 4) #[T_,T_,T_,T_,T_] HT_ ?_
   refine done_ (done_of HT_.out (by kernel_rfl)) ?_
   go_wp2_with fail
   go_ret3
   exact ⟨_, rfl, R_of_nums (pw_own_below HO8.out (below_drew (Below.refl _ _))), below_drew HB8.out⟩
  ·rw [if_neg hn] at h
   exact absurd h (by simp)


end Go.Proofs.Ytkegmjebkikniaa.P
end

section
-- Written by gprint.py (own program, over the printer of the kit) out of the translation. Lean checks it.
namespace Go.Proofs.Ytkegmjebkikniaa.P
open Go.RowKit Go.Proofs.YtkegmjebkikniaaW.PrintWords Go.Proofs.YtkegmjebkikniaaW.PrintLast Go.Proofs.YtkegmjebkikniaaW.PrintMore Go.Proofs.YtkegmjebkikniaaW.Pk
open Bool renaming true → T_, false → F_
open List renaming setIfInBounds_toArray → sT_, set_cons_zero → s0_, set_cons_succ → sS_
attribute [local go_sem] max2_int min2_int max_two min_two max_three min_three max_four min_four   -- for this text's walks alone
set_option linter.unusedVariables false
set_option linter.unusedSimpArgs false

/-! ### slices_Max_int64_int64: function 74 -/
-- (by hand)
open Go.Proofs.YtkegmjebkikniaaW.Hand
theorem own_some {w : World} {base n size : Nat} {e : TypeId} {v : Value} {xs : List Value} (h : w.ownsRow base e size v n xs) (hn : 0 < n) : ∃ g c, v = .slice (some ⟨g, 0, none⟩) n c := by
 rcases h.2 with ⟨_, h0⟩ | ⟨g, cap, cur, e, _⟩
 ·omega
 ·exact ⟨g, cap, e⟩
section
attribute [local go_sem] max2_int min2_int max_two min_two max_three min_three max_four min_four
end


/-! ### impl_ShareRenewals: function 32 -/
-- (by hand)
open Go.Proofs.YtkegmjebkikniaaW.Hand
/-- The variables of the program's walk: 'share' at bs, 'list' at bl, 'sums' at bu, 'least' at bq, 'best' at bb, 'crews' at bc, 'fill' at bf; the sums' row lies in the block gs. -/
structure FInv (w0 w : World) (bs bl bu bq bb bc bf : Nat) (Al : Option Addr) (cl : Nat) (l : List S55) (gs cs : Nat) (sums : List Int) (vo : Value) (o : List Int) (vb : Value) (best : List Int) (least : Int) : Prop where
 hs : w.heap[bs]? = some (.cells #[vo] 37 (0, 0))
 hl : w.heap[bl]? = some (.cells #[.slice Al l.length cl] 31 (0, 0))
 hu : w.heap[bu]? = some (.cells #[.slice (some ⟨gs, 0, none⟩) sums.length cs] 37 (0, 0))
 hq : w.heap[bq]? = some (.cells #[.int .i64 least] 2 (0, 0))
 hb : w.heap[bb]? = some (.cells #[vb] 37 (0, 0))
 hc : w.heap[bc]? = some (.cells #[.int .i64 (sums.length : Int)] 2 (0, 0))
 hf : w.heap[bf]? = some (.cells #[.func (.func 73) #[] #[.pointer (some ⟨bs, 0, none⟩), .pointer (some ⟨bl, 0, none⟩), .pointer (some ⟨bu, 0, none⟩), .pointer (some ⟨bq, 0, none⟩), .pointer (some ⟨bb, 0, none⟩), .pointer (some ⟨bc, 0, none⟩), .pointer (some ⟨bf, 0, none⟩)]] 1 (0, 0))
 row : w.ownsRow w0.heap.size 2 1 vo o.length (nums .i64 o)
 srow : w.ownsRow w0.heap.size 2 1 (.slice (some ⟨gs, 0, none⟩) sums.length cs) sums.length (nums .i64 sums)
 brow : w.ownsRow w0.heap.size 2 1 vb best.length (nums .i64 best)
 d37 : bs ≠ bu ∧ bs ≠ bb ∧ bu ≠ bb
 d2 : bq ≠ bc ∧ gs ≠ bq ∧ gs ≠ bc
 dv : ∀ r, vo.ownBlock = some r → r ≠ bq ∧ r ≠ bc ∧ r ≠ gs ∧ vb.ownBlock ≠ some r
 db : ∀ r, vb.ownBlock = some r → r ≠ bq ∧ r ≠ bc ∧ r ≠ gs
 list : Kd.C k55 w0 Al l.length l
 below : Below w0.heap.size w0 w
 ge : w0.heap.size ≤ bs ∧ w0.heap.size ≤ bq ∧ w0.heap.size ≤ bb
section
variable {w0 w w1 : World} {bs bl bu bq bb bc bf : Nat} {Al : Option Addr} {cl : Nat} {l : List S55} {gs cs : Nat} {sums : List Int} {vo : Value} {o : List Int} {vb : Value} {best : List Int} {least : Int}
theorem FInv.step (h : FInv w0 w bs bl bu bq bb bc bf Al cl l gs cs sums vo o vb best least) (hb : Below w.heap.size w w1) : FInv w0 w1 bs bl bu bq bb bc bf Al cl l gs cs sums vo o vb best least :=
 ⟨(hb.block _ (blk_lt h.hs)).trans h.hs, (hb.block _ (blk_lt h.hl)).trans h.hl, (hb.block _ (blk_lt h.hu)).trans h.hu, (hb.block _ (blk_lt h.hq)).trans h.hq, (hb.block _ (blk_lt h.hb)).trans h.hb, (hb.block _ (blk_lt h.hc)).trans h.hc, (hb.block _ (blk_lt h.hf)).trans h.hf, pw_own_below h.row hb, pw_own_below h.srow hb, pw_own_below h.brow hb, h.d37, h.d2, h.dv, h.db, h.list, below_then h.below h.below.size hb, h.ge⟩
theorem FInv.cc (h : FInv w0 w bs bl bu bq bb bc bf Al cl l gs cs sums vo o vb best least) : w.cell? ⟨bc, 0, none⟩ = some (.int .i64 (sums.length : Int)) := (blk_cell h.hc 0).trans rfl
theorem FInv.at_ (h : FInv w0 w bs bl bu bq bb bc bf Al cl l gs cs sums vo o vb best least) (i : Nat) (hi : i < sums.length) : w.cell? ⟨gs, i, none⟩ = some (.int .i64 (rd sums (i : Int))) := by
 have := (own_at h.srow (i : Int) (by omega) (by omega)).1
 rwa [Int.toNat_natCast] at this
/-- The row of the shares has been written or grown, and its variable is stored. -/
theorem FInv.put (h : FInv w0 w bs bl bu bq bb bc bf Al cl l gs cs sums vo o vb best least) {v1 : Value} {o1 : List Int} (ho : w1.ownsRow w0.heap.size 2 1 v1 o1.length (nums .i64 o1)) (hB : Below w0.heap.size w0 w1) (hg : w.grownBy w1 vo.ownBlock) (hat : v1.ownBlock = vo.ownBlock ∨ ∃ b, v1.ownBlock = some b ∧ w.heap.size ≤ b) : FInv w0 (w1.setCell ⟨bs, 0, none⟩ v1) bs bl bu bq bb bc bf Al cl l gs cs sums v1 o1 vb best least ∧ w1.heap[bs]? = some (.cells #[vo] 37 (0, 0)) := by
 have kp := KeepP.of_grown hg
 have n2 : ∀ {b : Nat} {cs : Array Value} {t : Nat}, w.heap[b]? = some (.cells cs t (0, 0)) → 2 ≠ t → w1.heap[b]? = some (.cells cs t (0, 0)) := fun hb ht => kp.blk hb (own_ne h.row hb ht)
 have nv : ∀ {b : Nat} {ob : Obj}, w.heap[b]? = some ob → (∀ r, vo.ownBlock = some r → r ≠ b) → w1.heap[b]? = some ob := fun hb hn => kp.blk hb (fun e => hn _ e.symm rfl)
 have e1 := n2 h.hs (by decide)
 have e2 := n2 h.hl (by decide)
 have e3 := n2 h.hu (by decide)
 have e4 := nv h.hq (fun r hr => (h.dv r hr).1)
 have e5 := n2 h.hb (by decide)
 have e6 := nv h.hc (fun r hr => (h.dv r hr).2.1)
 have e7 := n2 h.hf (by decide)
 have r2 := kp.own h.srow (fun k hk e => (h.dv k e.symm).2.2.1 (by have : some gs = some k := hk; injection this with this; exact this.symm))
 have r3 := kp.own h.brow (fun k hk e => (h.dv k e.symm).2.2.2 hk)
 refine ⟨⟨blk_set e1 0 _, blk_far e2 (blk_ne e2 e1 (by decide)) _, blk_far e3 (fun e => h.d37.1 e.symm) _, blk_far e4 (blk_ne e4 e1 (by decide)) _, blk_far e5 (fun e => h.d37.2.1 e.symm) _, blk_far e6 (blk_ne e6 e1 (by decide)) _, blk_far e7 (blk_ne e7 e1 (by decide)) _, own_setCell ho (own_ne ho e1 (by decide)) _, own_setCell r2 (own_ne r2 e1 (by decide)) _, own_setCell r3 (own_ne r3 e1 (by decide)) _, h.d37, h.d2, fun r hr => ?_, h.db, h.list, hB.setCell h.ge.1 _, h.ge⟩, e1⟩
 rcases hat with hat | ⟨b, hb, hsz⟩
 ·exact h.dv r (by rw [← hat]; exact hr)
 ·rw [hb] at hr
  injection hr with hr
  subst hr
  have q1 := blk_lt h.hq
  have q2 := blk_lt h.hc
  have q3 := own_lt h.srow gs rfl
  refine ⟨by omega, by omega, by omega, fun e => ?_⟩
  have := own_lt h.brow b e
  omega
end
end Go.Proofs.Ytkegmjebkikniaa.P
end
