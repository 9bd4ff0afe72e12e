/- Texts of this claim, packed: PureFnDeckStates, WSized, LawFnDeckStates. -/
import Derived.SizedLaws
import Derived.ChangeSlices
import Derived.Test.YtfkiamccipoioaaRows
import Derived.WalkKit
import Derived.ProofKit
import Derived.OpenShut
import Derived.ShutString
import Derived.ChangeOld
import Derived.Below
import Derived.Test.YtfkiamccipoioaaZFnDeckStates13
section
/- FnDeckStates: its plain statement: a line may be changed just where the line that it needs is fast and all yards stay held; stuck lines never may; there are not more states than lines allow. -/
namespace Go.Proofs.Ytfkiamccipoioaa.Pure
open Go.RowKit Go.Proofs.Ytfkiamccipoioaa.P Go.Proofs.YtfkiamccipoioaaW.PrintWords Go.Proofs.YtfkiamccipoioaaW.PrintLast Go.Proofs.YtfkiamccipoioaaB

theorem ws {i : Int} (h0 : -9223372036854775808 ≤ i) (h1 : i ≤ 9223372036854775807) : wrap64 i = i := Go.Proofs.YtfkiamccipoioaaB.wrap_small h0 h1
/-! ### what holds a yard when a line is changed -/
theorem rise_gt (m : Int) : ∀ (xs : List Int) (y : Int), riseB m (some y) xs = true → ∀ x ∈ xs, y < x
  | [], _, _ => by simp
  | x :: xs, y, h => by
    rw [riseB, Bool.and_eq_true, lineB, Bool.and_eq_true] at h
    have h1 : y < x := of_decide_eq_true h.1.2
    intro z hz
    rcases List.mem_cons.1 hz with rfl | hz
    · exact h1
    · have := rise_gt m xs x h.2 z hz
      omega
theorem fasts_cons (l : List Int) (x : Int) (xs : List Int) : fastsL l (x :: xs) = (if rd l x = 70 then 1 else 0) + fastsL l xs := by
  unfold fastsL
  rw [List.filter_cons]
  by_cases h : rd l x = 70
  · rw [if_pos (by rw [decide_eq_true h]), if_pos h, List.length_cons]; omega
  · rw [if_neg (by rw [decide_eq_false h]; simp), if_neg h]; omega
theorem rd_flip (l : List Int) (i x : Int) (h0 : 0 ≤ i) (h1 : i < (l.length : Int)) (x0 : 0 ≤ x) : rd (flipL l i) x = if x = i then (if rd l i = 70 then 76 else 70) else rd l x := by
  unfold rd flipL rd
  rw [List.getD_eq_getElem?_getD]
  by_cases h : x = i
  · subst h
    rw [if_pos rfl, List.getElem?_set_self (by omega)]; rfl
  · rw [if_neg h, List.getElem?_set_ne (by omega), ← List.getD_eq_getElem?_getD]
theorem fasts_same (l : List Int) (i : Int) (h0 : 0 ≤ i) (h1 : i < (l.length : Int)) : ∀ xs : List Int, (∀ x ∈ xs, 0 ≤ x ∧ x ≠ i) → fastsL (flipL l i) xs = fastsL l xs
  | [], _ => rfl
  | x :: xs, h => by
    have hx := h x List.mem_cons_self
    rw [fasts_cons, fasts_cons, fasts_same l i h0 h1 xs (fun y hy => h y (List.mem_cons_of_mem _ hy)), rd_flip l i x h0 h1 hx.1, if_neg hx.2]
theorem fasts_flip (l : List Int) (m i : Int) (h0 : 0 ≤ i) (h1 : i < (l.length : Int)) : ∀ (xs : List Int) (pv : Option Int), riseB m pv xs = true → fastsL (flipL l i) xs = fastsL l xs + (if xs.contains i = true then (if rd l i = 70 then -1 else 1) else 0)
  | [], _, _ => by simp [fastsL]
  | x :: xs, pv, h => by
    have hin := rise_of m (x :: xs) pv h
    rw [riseB, Bool.and_eq_true] at h
    have hx := hin x List.mem_cons_self
    rw [fasts_cons, fasts_cons, List.contains_cons, rd_flip l i x h0 h1 hx.1]
    by_cases he : x = i
    · subst he
      have hgt := rise_gt m xs x h.2
      rw [fasts_same l x h0 h1 xs (fun y hy => ⟨(hin y (List.mem_cons_of_mem _ hy)).1, by have := hgt y hy; omega⟩), if_pos rfl]
      simp only [beq_self_eq_true, Bool.true_or, if_true]
      by_cases h7 : rd l x = 70
      · rw [if_pos h7, if_pos h7, if_neg (by decide), if_pos h7]; omega
      · rw [if_neg h7, if_neg h7, if_pos rfl, if_neg h7]; omega
    · have e : (i == x) = false := by simp; omega
      rw [if_neg he, e, Bool.false_or, fasts_flip l m i h0 h1 xs (some x) h.2]
      omega
section
variable {n : List Int} {ys : List (List Int)} (hg : GoodDeck n ys) (hd : deckB n ys = true) {l : List Int} (ok : DeckOk n ys l)
/-- Whether a yard stays held. -/
def keepB (l : List Int) (i : Int) (r : List Int) : Bool := decide (fastsL (flipL l i) r > 0)
theorem keep_all (l : List Int) (i : Int) (ys : List (List Int)) : ys.all (keepB l i) = !((heldL (flipL l i) ys).contains 0) := by
  induction ys with
  | nil => rfl
  | cons r ys ih =>
    have := fastsL_le (flipL l i) r
    unfold heldL at ih ⊢
    rw [List.all_cons, List.map_cons, List.contains_cons, ih, keepB, Bool.not_or]
    by_cases h : fastsL (flipL l i) r > 0
    · rw [decide_eq_true h]
      have e : ((0 : Int) == fastsL (flipL l i) r) = false := by simp; omega
      rw [e]; rfl
    · rw [decide_eq_false h]
      have e : ((0 : Int) == fastsL (flipL l i) r) = true := by simp; omega
      rw [e]; rfl
include hg hd ok
omit hg ok in
theorem yards_rise : ∀ r ∈ ys, riseB (n.length : Int) none r = true := by
  intro r hr
  simp only [deckB, Bool.and_eq_true, decide_eq_true_eq] at hd
  have hy := List.all_eq_true.1 hd.2.2.2 r hr
  rw [yardB, Bool.and_eq_true] at hy
  exact hy.2
theorem keeps_loop (i : Int) (h0 : 0 ≤ i) (h1 : i < (n.length : Int)) (can stuck : List Int) (free : Bool) {r : Bool}
    (hend : Ev (fun k => laws_FnDeckStates.l1 k (strOfNums l) (n.length : Int) (heldL l ys) can stuck i free (ys.all (keepB l i)) (ys.length : Int) n ys) r) :
    ∀ (xs p : List (List Int)), ys = p ++ xs → Ev (fun k => laws_FnDeckStates.l1 k (strOfNums l) (n.length : Int) (heldL l ys) can stuck i free (p.all (keepB l i)) (p.length : Int) n ys) r := by
  intro xs
  have hyl := hg.2.1
  have hln := ok.len
  have hsl := sizeL ok
  have hrise := yards_rise hd
  have hhl : (heldL l ys).length = ys.length := List.length_map ..
  induction xs with
  | nil =>
    intro p hp
    rw [List.append_nil] at hp
    rw [← hp]
    exact hend
  | cons x xs ih =>
    intro p hp
    have hpl : (p.length : Int) + (xs.length + 1) = ys.length := by rw [hp]; simp
    have hxm : x ∈ ys := by rw [hp]; simp
    have hx : rd_L1 ys (p.length : Int) = x := by rw [hp]; exact rdL_mid p x xs
    have hxh : rd (heldL l ys) (p.length : Int) = fastsL l x := by
      have e : heldL l ys = heldL l p ++ fastsL l x :: heldL l xs := by rw [hp]; unfold heldL; rw [List.map_append]; rfl
      have e2 : (heldL l p).length = p.length := List.length_map ..
      rw [e, ← e2]
      exact rd_mid _ _ _
    have hxl := (hg.2.2 x hxm).1
    have hw : wrap64 ((p.length : Int) + 1) = ((p ++ [x]).length : Int) := wrap_next p x (by omega)
    have hi := ih (p ++ [x]) (by rw [hp]; simp)
    have hle := fastsL_le l x
    have hfl := fasts_flip l (n.length : Int) i h0 (by omega) x none (hrise x hxm)
    rw [List.all_append, List.all_cons, List.all_nil, Bool.and_true] at hi
    refine Ev.step (fun k => by rw [laws_FnDeckStates.l1]) (ev_pos (by omega) (ev_pos (by omega) (ev_pos (by omega) ?_)))
    rw [hx, hw, hxh]
    refine Ev.bind (a2has_ev i x (by omega)) ?_
    cases hc : x.contains i with
    | true =>
      rw [hc, if_pos rfl] at hfl
      refine ev_pos rfl (ev_pos h0 (ev_pos (by omega) ?_))
      rw [bt_rd, strOf_bytes ok.fast]
      by_cases h7 : rd l i = 70
      · rw [if_pos h7] at hfl
        refine ev_pos h7 ?_
        cases hk : p.all (keepB l i) with
        | true =>
          rw [hk, Bool.true_and, keepB, hfl] at hi
          refine ev_pos rfl ?_
          rw [ws (i := fastsL l x - 1) (by omega) (by omega)]
          exact hi
        | false => rw [hk, Bool.false_and] at hi; exact ev_neg (by simp) hi
      · rw [if_neg h7] at hfl
        refine ev_neg h7 ?_
        cases hk : p.all (keepB l i) with
        | true =>
          rw [hk, Bool.true_and, keepB, hfl] at hi
          refine ev_pos rfl ?_
          rw [ws (i := fastsL l x + 1) (by omega) (by omega)]
          exact hi
        | false => rw [hk, Bool.false_and] at hi; exact ev_neg (by simp) hi
    | false =>
      rw [hc, if_neg (by simp), Int.add_zero] at hfl
      refine ev_neg (by simp) ?_
      cases hk : p.all (keepB l i) with
      | true =>
        rw [hk, Bool.true_and, keepB, hfl] at hi
        exact ev_pos rfl hi
      | false => rw [hk, Bool.false_and] at hi; exact ev_neg (by simp) hi
theorem lines_loop (can stuck : List Int) (hcl : can.length ≤ 1048576) (hsl2 : stuck.length ≤ 1048576) (hcan : ∀ i : Int, 0 ≤ i → i < (n.length : Int) → can.contains i = decide (changeC n ys l i = 0)) (hst : ∀ i : Int, can.contains i = true → stuck.contains i = false) :
    ∀ (d j : Nat), j + d = n.length → Ev (fun k => laws_FnDeckStates.l0 k (strOfNums l) (n.length : Int) (heldL l ys) can stuck (j : Int) n ys) true := by
  intro d
  have h8 := ok.few
  have hln := ok.len
  have hsl := sizeL ok
  induction d with
  | zero =>
    intro j hj
    refine Ev.step (fun k => by rw [laws_FnDeckStates.l0]) ?_
    exact ev_neg (by omega) (Ev.now _)
  | succ d ih =>
    intro j hj
    have hw : wrap64 ((j : Int) + 1) = ((j + 1 : Nat) : Int) := (ws (by omega) (by omega)).trans (by omega)
    have hnext := ih (j + 1) (by omega)
    rw [← hw] at hnext
    have hneed := ok.needs j (by omega)
    have hch := change_val hg hd ok (j : Int) (by omega) (by omega)
    have hcj := hcan (j : Int) (by omega) (by omega)
    have hka := keep_all l (j : Int) ys
    have main : ∀ free : Bool, (free = true ↔ ¬ (0 ≤ rd n (j : Int) ∧ ¬ rd l (rd n (j : Int)) = 70)) → Ev (fun k => laws_FnDeckStates.j2 k (strOfNums l) (n.length : Int) (heldL l ys) can stuck (j : Int) free n ys) true := by
      intro free hfree
      refine Ev.step (fun k => by rw [laws_FnDeckStates.j2]) ?_
      refine keeps_loop hg hd ok (j : Int) (by omega) (by omega) can stuck free ?_ ys [] rfl
      refine Ev.step (fun k => by rw [laws_FnDeckStates.l1]) (ev_neg (by omega) (Ev.bind (a2has_ev (j : Int) can hcl) (Ev.bind hch ?_)))
      have hstj := hst (j : Int)
      have hsv := a2has_ev (j : Int) stuck hsl2
      cases free with
      | true =>
        have hf := hfree.1 rfl
        cases hk : ys.all (keepB l (j : Int)) with
        | true =>
          rw [hk] at hka
          have h6 : (heldL (flipL l (j : Int)) ys).contains 0 = false := by simpa using hka.symm
          have hc0 : changeC n ys l (j : Int) = 0 := by unfold changeC; rw [if_neg hf, if_neg (by rw [h6]; simp)]
          rw [decide_eq_true hc0] at hcj
          rw [hcj, if_pos hc0]
          rw [hstj hcj] at hsv
          refine ev_pos rfl (ev_neg (by simp) (ev_neg (by simp) (ev_pos rfl (ev_pos rfl (Ev.bind hsv (ev_neg (by simp) hnext))))))
        | false =>
          rw [hk] at hka
          have h6 : (heldL (flipL l (j : Int)) ys).contains 0 = true := by simpa using hka.symm
          have hc0 : changeC n ys l (j : Int) = 10 := by unfold changeC; rw [if_neg hf, if_pos h6]
          have hcn : ¬ changeC n ys l (j : Int) = 0 := by rw [hc0]; decide
          rw [decide_eq_false hcn] at hcj
          rw [hcj, if_neg hcn, hc0]
          exact ev_pos rfl (ev_neg (by simp) (ev_neg (by simp) (ev_neg (by simp) (ev_pos rfl (ev_neg (by simp) hnext)))))
      | false =>
        have hf : 0 ≤ rd n (j : Int) ∧ ¬ rd l (rd n (j : Int)) = 70 := Decidable.byContradiction (fun h => by have := hfree.2 h; simp at this)
        have hc0 : changeC n ys l (j : Int) = 6 := by unfold changeC; rw [if_pos hf]
        have hcn : ¬ changeC n ys l (j : Int) = 0 := by rw [hc0]; decide
        rw [decide_eq_false hcn] at hcj
        rw [hcj, if_neg hcn, hc0]
        exact ev_neg (by simp) (ev_neg (by simp) (ev_neg (by simp) (ev_pos rfl (ev_neg (by simp) hnext))))
    refine Ev.step (fun k => by rw [laws_FnDeckStates.l0]) (ev_pos (by omega) (ev_pos (by omega) (ev_pos (by omega) ?_)))
    by_cases hneg : rd n (j : Int) < 0
    · exact ev_pos hneg (main true ⟨fun _ h => by omega, fun _ => rfl⟩)
    · refine ev_neg hneg (ev_pos (by omega) (ev_pos (by omega) ?_))
      rw [bt_rd, strOf_bytes ok.fast]
      refine main _ ⟨fun h h2 => h2.2 (by simpa using h), fun h => ?_⟩
      have : rd l (rd n (j : Int)) = 70 := Decidable.byContradiction (fun h3 => h ⟨by omega, h3⟩)
      simpa using this
omit hg hd ok
/-! ### the stuck lines -/
def skF (n : List Int) (ys : List (List Int)) (L : List (List Int)) : Nat → Nat → List Int
  | 0, _ => []
  | d + 1, j => if L.any (fun m => decide (changeC n ys m (j : Int) = 0)) = true then skF n ys L d (j + 1) else (j : Int) :: skF n ys L d (j + 1)
theorem skF_len (L : List (List Int)) : ∀ d j, (skF n ys L d j).length ≤ d
  | 0, _ => Nat.le_refl _
  | d + 1, j => by
    have := skF_len L d (j + 1)
    rw [skF]
    split
    · omega
    · rw [List.length_cons]; omega
theorem skF_mem (L : List (List Int)) : ∀ (d j : Nat) (x : Int), x ∈ skF n ys L d j → L.any (fun m => decide (changeC n ys m x = 0)) = false
  | 0, _, x, h => by simp [skF] at h
  | d + 1, j, x, h => by
    rw [skF] at h
    split at h
    · exact skF_mem L d (j + 1) x h
    · rename_i hn
      rcases List.mem_cons.1 h with rfl | h
      · exact Bool.eq_false_iff.2 hn
      · exact skF_mem L d (j + 1) x h
theorem skF_rise (L : List (List Int)) (m : Int) : ∀ (d i : Nat) (pv : Option Int), ((i + d : Nat) : Int) ≤ m → (∀ y, pv = some y → y < (i : Int)) → riseB m pv (skF n ys L d i) = true
  | 0, _, _, _, _ => by simp [skF, riseB]
  | d + 1, i, pv, hm, hp => by
    rw [skF]
    split
    · exact skF_rise L m d (i + 1) pv (by omega) (fun y hy => by have := hp y hy; omega)
    · rw [riseB, skF_rise L m d (i + 1) (some (i : Int)) (by omega) (fun y hy => by injection hy with hy; omega), Bool.and_true, lineB, Bool.and_eq_true, Bool.and_eq_true]
      refine ⟨⟨decide_eq_true (by omega), decide_eq_true (by omega)⟩, ?_⟩
      cases pv with
      | none => rfl
      | some y => rw [ltO]; exact decide_eq_true (hp y rfl)
theorem go_val (j : Nat) (hj : j < n.length) : ∀ (L : List (List Int)) (i : Int), (∀ m ∈ L, DeckOk n ys m) → 0 ≤ i → ∃ q, Ev (fun k => stuckGo k n ys (j : Int) (eX L) i) q ∧ (0 ≤ q ↔ L.any (fun m => decide (changeC n ys m (j : Int) = 0)) = true)
  | [], i, _, _ => ⟨-1, Ev.now _, by simp⟩
  | m :: L, i, h, h0 => by
    have okm := h m List.mem_cons_self
    have himp := impl_change okm (j : Int) (by omega) (by omega)
    have hex : eX (m :: L) = ((setN m : Nat) : Int) :: eX L := rfl
    rw [hex, List.any_cons]
    by_cases hc : changeC n ys m (j : Int) = 0
    · exact ⟨i, Ev.bind himp (ev_pos hc (Ev.now _)), by rw [decide_eq_true hc]; simp [h0]⟩
    · obtain ⟨q, h1, h2⟩ := go_val j hj L (i + 1) (fun x hx => h x (List.mem_cons_of_mem _ hx)) (by omega)
      exact ⟨q, Ev.bind himp (ev_neg hc h1), by rw [decide_eq_false hc, Bool.false_or]; exact h2⟩
theorem stuckAll_val (L : List (List Int)) (h : ∀ m ∈ L, DeckOk n ys m) : ∀ (d j : Nat) (acc : List Int), j + d = n.length → Ev (fun k => stuckAll k n ys (eX L) d j acc) (acc ++ skF n ys L d j)
  | 0, j, acc, _ => by rw [skF, List.append_nil]; exact Ev.now _
  | d + 1, j, acc, hj => by
    obtain ⟨q, h1, h2⟩ := go_val (ys := ys) j (by omega) L 0 h (by omega)
    refine Ev.bind h1 ?_
    rw [skF]
    by_cases hq : 0 ≤ q
    · rw [if_pos (h2.1 hq)]
      exact ev_pos hq (stuckAll_val L h d (j + 1) acc (by omega))
    · rw [if_neg (fun hh => hq (h2.2 hh))]
      have := stuckAll_val L h d (j + 1) (acc ++ [(j : Int)]) (by omega)
      rw [List.append_assoc, List.singleton_append] at this
      exact ev_neg hq this
end
theorem shl1 (m : Nat) (h : m ≤ 8) : shl .i64 1 (IntKind.u64.wrap (m : Int)) = ((2 ^ m : Nat) : Int) := by
  have e : IntKind.u64.wrap (m : Int) = (m : Int) := wraps_u64 _ (by omega) (by omega)
  rw [e, shl_one (m : Int) (by omega) (by omega), Int.toNat_natCast]
theorem FnDeckStates : laws_FnDeckStates.Pure := by
  intro l0 _ h1 hc
  unfold maxLen at *
  refine Ev.rounds (?_ : Ev (fun k => laws_FnDeckStates.f k l0) true)
  unfold laws_FnDeckStates.f
  by_cases hl : (l0.length : Int) > 3000
  · refine ev_bind0 (a := true) ?_ (ev_pos rfl (Ev.now _))
    unfold laws_a2Long.f
    rw [if_pos hl]
  · refine ev_bind0 (a := false) ?_ (ev_neg (by simp) ?_)
    · unfold laws_a2Long.f
      rw [if_neg hl]; rfl
    · obtain ⟨n, ys, s, hE, h6, hco, hd, hg, hok⟩ := draw_a2 (code_of hc)
      refine Ev.bind hE ?_
      dsimp only
      obtain ⟨l, rfl⟩ : ∃ l, bytesOf s = l := ⟨_, rfl⟩
      have hs : s = strOfNums (bytesOf s) := (bytes_strOf s hok.fast).symm
      generalize bytesOf s = l at hs hok
      subst hs
      have h8 := hok.few
      have hsl := sizeL hok
      have hhl : (heldL l ys).length = ys.length := List.length_map ..
      obtain ⟨L, P, W, i, hI, hi, hB, hX, hL0⟩ := all_bfs (strOfNums l) (okS hok)
      rw [strOf_bytes hok.fast] at hB hX hL0
      have hfew := hI.few
      have hxl : (eX L).length = L.length := List.length_map ..
      have hset := set_ev (strOfNums l) (by omega)
      rw [strOf_bytes hok.fast] at hset
      have hL1 := (List.getElem?_eq_some_iff.1 hL0).1
      have hcl := chF_length n ys l n.length 0
      have hkl := skF_len (n := n) (ys := ys) L n.length 0
      have hmany : L.length ≤ 2 ^ n.length := by
        have := nodup_bound (2 ^ n.length) (L.map numN) hI.nd (fun x hx => by
          obtain ⟨m, hm, rfl⟩ := List.mem_map.1 hx
          have h3 := numN_lt m
          rwa [(hI.ok m hm).len] at h3)
        rwa [List.length_map] at this
      have hone : (L.length = 1) ↔ (chF n ys l n.length 0).length = 0 := by
        constructor
        · intro h3
          cases hx : chF n ys l n.length 0 with
          | nil => rfl
          | cons x xs =>
            exfalso
            have hm : x ∈ chF n ys l n.length 0 := by rw [hx]; exact List.mem_cons_self
            obtain ⟨x0, x1, x2⟩ := (chF_mem l n.length 0 x).1 hm
            obtain ⟨u, hu, _⟩ := hB.done 0 l x.toNat hL0 (by omega) (.inl (by omega)) (by rw [Int.toNat_of_nonneg (by omega)]; exact x2)
            have hul := (List.getElem?_eq_some_iff.1 hu).1
            have e : u = 0 := by omega
            subst e
            have e2 := Option.some.inj (hL0.symm.trans hu)
            rw [Int.toNat_of_nonneg (by omega)] at e2
            have e3 := rd_flip l x x (by omega) (by have := hok.len; omega) (by omega)
            rw [if_pos rfl, ← e2] at e3
            split at e3
            · omega
            · omega
        · intro h3
          have h4 := List.length_eq_zero_iff.1 h3
          by_cases h5 : L.length = 1
          · exact h5
          · exfalso
            obtain ⟨m, hm⟩ : ∃ m, L[1]? = some m := ⟨_, List.getElem?_eq_getElem (by omega)⟩
            obtain ⟨b, q, hb, _, x, hx, hcx, hb1⟩ := hB.only 1 m (by omega) hm
            have e : b = 0 := by omega
            subst e
            have e2 := Option.some.inj (hL0.symm.trans hb)
            subst e2
            have : (x : Int) ∈ chF n ys l n.length 0 := (chF_mem l n.length 0 (x : Int)).2 ⟨by omega, by omega, hcx⟩
            rw [h4] at this
            simp at this
      have hStuck : Ev (fun k => impl_StuckLines.f k n ys (strOfNums l)) (skF n ys L n.length 0, 0) := by
        unfold impl_StuckLines.f
        refine Ev.bind (code_val hg hd hok) (ev_pos rfl (Ev.bind hset (Ev.bind hX (ev_pos ⟨by show (eX L).length ≤ 1048576; omega, by omega⟩ (Ev.bind (stuckAll_val L hI.ok n.length 0 [] (by omega)) (Ev.now _))))))
      have hReach : Ev (fun k => impl_ReachedStates.f k n ys (strOfNums l)) ((L.length : Int), 0) := by
        unfold impl_ReachedStates.f
        refine Ev.bind (code_val hg hd hok) (ev_pos rfl (Ev.bind hset (Ev.bind hX (ev_of (Ev.now _) ?_))))
        show (((eX L).length : Int), (0 : Int)) = _
        rw [hxl]
      have hrise := a2rises_ev (n.length : Int) (skF n ys L n.length 0) (by omega)
      rw [skF_rise L (n.length : Int) n.length 0 none (by omega) (by simp)] at hrise
      refine Ev.bind (held_val hg hd hok) (Ev.bind (changes_val hg hd hok) (Ev.bind hStuck (Ev.bind hReach ?_)))
      dsimp only
      rw [hsl]
      refine ev_pos rfl (ev_pos (by omega) (ev_pos rfl (ev_pos rfl (Ev.bind hrise (ev_pos rfl (ev_pos rfl (ev_neg (by omega) ?_)))))))
      have hu : IntKind.u64.wrap (n.length : Int) = (n.length : Int) := wraps_u64 _ (by omega) (by omega)
      refine ev_pos (by omega) (ev_neg ?_ ?_)
      · rw [shl1 n.length (by omega)]
        omega
      · have hb : (((L.length : Int) == 1) != (((chF n ys l n.length 0).length : Int) == 0)) = false := by
          by_cases h3 : L.length = 1
          · have h4 := hone.1 h3
            rw [h3, h4]; rfl
          · have h4 : ¬ (chF n ys l n.length 0).length = 0 := fun h => h3 (hone.2 h)
            have e1 : ((L.length : Int) == 1) = false := by simp; omega
            have e2 : (((chF n ys l n.length 0).length : Int) == 0) = false := by
              rw [beq_eq_false_iff_ne]; omega
            rw [e1, e2]; rfl
        rw [hb]
        refine Ev.step (fun k => by rw [laws_FnDeckStates.j0]) (ev_neg (by simp) ?_)
        refine lines_loop hg hd hok _ _ (by omega) (by omega) (fun i i0 i1 => ?_) (fun i hci => ?_) n.length 0 (by omega)
        · rw [Bool.eq_iff_iff, List.contains_iff_mem, decide_eq_true_iff, chF_mem]
          constructor
          · exact fun h => h.2.2
          · exact fun h => ⟨by omega, by omega, h⟩
        · have hm := List.contains_iff_mem.1 hci
          have h3 := ((chF_mem l n.length 0 i).1 hm).2.2
          rw [Bool.eq_false_iff]
          intro h4
          have h5 := skF_mem L n.length 0 i (List.contains_iff_mem.1 h4)
          rw [List.any_eq_false] at h5
          exact h5 l (List.mem_of_getElem? hL0) (decide_eq_true h3)
end Go.Proofs.Ytfkiamccipoioaa.Pure
end

section
namespace Go.Proofs.YtfkiamccipoioaaW.PrintWords
open Go.ChangeShapes Go.WideShapes
/-- A row's slice of whole numbers is no longer than its weight allows. -/
theorem sized_ints {H : Type} {enc : TypeId × Value → H} {P : Program} {W : World} {base : Nat} {spare : Nat → Bool} {held : Bool} {t e : TypeId} {k : IntKind} {a : Option Addr} {len cap : Nat} {d : DataW H} {ps : List MemPlace} {ts : List TypeId} {ds : List (DataW H)} {j : Nat}
    (hsz : (DataW.weightsEach P ts ds).all (· ≤ reachBytes) = true) (ht : ts[j]? = some t) (hd : ds[j]? = some d) (hu : P.underlying t = some (.slice e)) (he : P.underlying e = some (.int k)) (hc : P.cellsOf e = 1) {B : Nat} (hB : P.bytesOf e = B)
    (h : DataW.Trod enc P W base spare held t (.slice a len cap) d ps) : len * B ≤ 140737488351232 := by
  obtain ⟨fuel, hf⟩ := h
  rcases open_ints hu he hc hf with ⟨hcs, _⟩ | ⟨x, l, c, zs, hcs, _, hl, _, hz, hx, _, _⟩
  · simp [Value.cells] at hcs
    obtain ⟨rfl, rfl, rfl⟩ := hcs
    simp
  · simp [Value.cells] at hcs
    obtain ⟨rfl, rfl, rfl⟩ := hcs
    obtain ⟨hx, _⟩ := Prod.mk.inj hx
    subst hx
    have z := sized_slice hsz ht hd hu
    rw [hB] at z
    have hl2 : len ≤ zs.length := by
      rw [hz]
      split
      · exact hl
      · exact Nat.le_refl _
    have h1 : (lits (H := H) k (zs.take len)).length + (lits (H := H) k (zs.drop len)).length = zs.length := by
      simp [lits]
      omega
    rw [h1] at z
    exact Nat.le_trans (Nat.mul_le_mul_right _ hl2) z
end Go.Proofs.YtfkiamccipoioaaW.PrintWords
end

section
namespace Go.Proofs.Ytfkiamccipoioaa.fnDeckStates
open Go.ChangeShapes Go.WideShapes Go.ChangeAt Go.RowKit
open Go.ChangeMaps (open_string shut_string)
set_option linter.unusedVariables false
theorem own : ownKnob Try.prog.godebug = none := by kernel_rfl
theorem laidOut : laidOutB Try.prog = true := by kernel_rfl
def IsRow (k : IntKind) (w : World) (a : Option Addr) (len cap : Nat) (zs : List Int) : Prop :=
  (a = none ∧ len = 0 ∧ cap = 0 ∧ zs = []) ∨
  ∃ x, a = some x ∧ len ≤ cap ∧ cap ≤ maxLen ∧ zs.length = cap ∧ (∀ i, i < zs.length → w.cell? (x.add i) = some (.int k (zs.getD i 0))) ∧ ∀ n ∈ zs, (Lit.int k n).wf = true
set_option maxRecDepth 100000 in
theorem lifted (os : Os) (started : os.Started) (H : Type) (enc : TypeId × Value → H) :
    ReturnsInHanded {} Try.checked os 14 .any (Rows.fnDeckStatesSpec.pre6 enc Try.prog Try.f14 Rows.fnDeckStatesRow.domain false) (Rows.fnDeckStatesSpec.post enc Try.prog Try.f14 false true false false) := by
  refine returnsInHanded_of_change_sized (C := Try.checked) own started (by kernel_rfl) Try.func14
    (ChangeSpec.witness6 (enc := enc) (C := Try.checked) false ⟨#[], #[.slice none 0 0], []⟩ 8 (by kernel_rfl) (by kernel_rfl) (by kernel_rfl) (by kernel_rfl)) ?_
  intro W base args ds gs before hval0 hW hcnd hsz0 _
  have hsz : (DataW.weightsEach Try.prog (Try.f14.params.toList ++ Rows.fnDeckStatesSpec.plain.varTypes Try.prog) (ds ++ gs)).all (· ≤ reachBytes) = true := hsz0
  have hval : ∀ (j : Nat) t v, Try.f14.params[j]? = some t → args[j]? = some v → Value.okWide Try.prog W .any base t v := hval0
  have hW' := hW
  obtain ⟨p, q, hA0, hV, rfl, hfz, hnd⟩ := hW
  have hA : DataW.TrodAll enc Try.prog W 0 (fun _ => true) true Try.f14.params.toList args.toList ds p := hA0
  rw [Try.params14] at hA hval hsz
  obtain ⟨v0, vs0, d0, ds0, p0, q0, hargs, rfl, rfl, h0, r0⟩ := trodAll_cons hA
  obtain ⟨rfl, rfl, rfl⟩ := trodAll_nil r0
  obtain rfl : args = #[v0] := by cases args; simp_all
  obtain ⟨rfl, rfl⟩ := trodVars_none hV
  obtain ⟨a0, len0, cap0, rfl⟩ := okWide_slice Try.underlying49 (hval 0 49 v0 rfl rfl)
  have k0 := h0
  have lt0 : ∀ x ∈ p0, x.block < W.heap.size := by obtain ⟨m, hm⟩ := k0; exact DataW.trod_lt m _ _ _ hm
  obtain ⟨z0, w0⟩ : ∃ zs, IsRow .u8 W a0 len0 cap0 zs := by
    obtain ⟨fuel, hf⟩ := h0
    rcases open_ints Try.underlying49 Try.underlying5 (by kernel_rfl) hf with ⟨hcs, _⟩ | ⟨x, l, c, zs, hcs, _, hl, hm, hz, _, hcell, hwz⟩
    · simp [Value.cells] at hcs
      obtain ⟨rfl, rfl, rfl⟩ := hcs
      exact ⟨[], .inl ⟨rfl, rfl, rfl, rfl⟩⟩
    · simp [Value.cells] at hcs
      obtain ⟨rfl, rfl, rfl⟩ := hcs
      exact ⟨zs, .inr ⟨_, rfl, hl, hm, by simpa using hz, hcell, hwz⟩⟩
  have y0 : len0 * 1 ≤ 140737488351232 := Go.Proofs.YtfkiamccipoioaaW.PrintWords.sized_ints hsz (j := 0) (t := 49) rfl rfl Try.underlying49 Try.underlying5 (by kernel_rfl) (by kernel_rfl) h0
  clear hA0 hval0 hsz0 hsz
  refine (P.laws_FnDeckStates.walk Pure.FnDeckStates a0 len0 cap0 z0 W w0 y0).mono fun e W' ⟨he, bel⟩ => ?_
  subst he
  exact ⟨_, rfl, _, _, _, [], _, [], hW', trodAll_mk1 (shut_bool Try.underlying4 _), (trodAll_cons_mk (Below.trod laidOut (by kernel_rfl) (of_decide_eq_true (by kernel_rfl)) k0 bel lt0) trodAll_mk0), rfl, bel.frame _, fun h => by cases h⟩
theorem over : Rows.fnDeckStatesRow.holds Try.pinned (OpenSpec.ofChange Rows.fnDeckStatesSpec) :=
  OpenClaim.holds_of_wide 14 Try.f14 rfl rfl rfl rfl rfl rfl rfl ⟨rfl, rfl, rfl, rfl, rfl⟩ rfl rfl rfl rfl rfl (by kernel_rfl) Try.func14 (by kernel_rfl)
    (of_decide_eq_true (by kernel_rfl)) (by unfold Func.isWrapper; first | (rw [if_pos (by decide +kernel)]; kernel_rfl) | (rw [if_neg (by decide +kernel)]; exact ⟨rfl, rfl⟩))
    (fun os started H enc _ => lifted os started H enc)
theorem proved : Rows.FnDeckStatesSaid := over
#print axioms proved
end Go.Proofs.Ytfkiamccipoioaa.fnDeckStates
namespace Go.Proofs.Ytfkiamccipoioaa
/-- The row, under a short name, for the claim. -/
theorem fnDeckStates_holds : Rows.FnDeckStatesSaid := fnDeckStates.proved
end Go.Proofs.Ytfkiamccipoioaa
end
