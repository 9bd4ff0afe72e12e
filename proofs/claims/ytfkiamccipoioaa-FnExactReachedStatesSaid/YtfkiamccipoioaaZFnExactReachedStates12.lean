/- Texts of this claim, packed: DeckV, DeckS, DeckM, DeckA. -/
import Derived.Laws.BitsLemmas
import Derived.Test.YtfkiamccipoioaaZFnExactReachedStates11
section
/- Decks and states: whether they are valid: of both. -/
namespace Go.Proofs.YtfkiamccipoioaaB
open Go.RowKit Go.Proofs.YtfkiamccipoioaaW.PrintWords Go.Proofs.YtfkiamccipoioaaW.PrintLast Go.Proofs.Ytfkiamccipoioaa.P

theorem in_some (a lo hi : Int) : spec_l00In.f a lo hi = some (decide (lo ≤ a) && decide (a ≤ hi)) := by
  unfold spec_l00In.f
  by_cases h : a ≥ lo
  · rw [if_pos h, decide_eq_true (show lo ≤ a from h)]; rfl
  · rw [if_neg h, decide_eq_false (show ¬ lo ≤ a from h)]; rfl
theorem within_some (a lo hi : Int) : impl_within.f a lo hi = some (decide (lo ≤ a) && decide (a ≤ hi)) := by
  unfold impl_within.f
  by_cases h : a ≥ lo
  · rw [if_pos h, decide_eq_true (show lo ≤ a from h)]; rfl
  · rw [if_neg h, decide_eq_false (show ¬ lo ≤ a from h)]; rfl
def needB (m i x : Int) : Bool := (decide (-1 ≤ x) && decide (x ≤ m - 1)) && !(decide (x = i))
def needsB (m : Int) : Int → List Int → Bool
  | _, [] => true
  | i, x :: xs => needB m i x && needsB m (i + 1) xs
def ltO : Option Int → Int → Bool
  | none, _ => true
  | some y, x => decide (y < x)
def lineB (m : Int) (pv : Option Int) (x : Int) : Bool := (decide (0 ≤ x) && decide (x ≤ m - 1)) && ltO pv x
def riseB (m : Int) : Option Int → List Int → Bool
  | _, [] => true
  | pv, x :: xs => lineB m pv x && riseB m (some x) xs
def yardB (m : Int) (r : List Int) : Bool := !(decide (r.length = 0)) && riseB m none r
def deckB (n : List Int) (ys : List (List Int)) : Bool := (decide (1 ≤ (n.length : Int)) && decide ((n.length : Int) ≤ 8)) && (decide ((ys.length : Int) ≤ 5) && (needsB (n.length : Int) 0 n && ys.all (yardB (n.length : Int))))
def lastO (p : List Int) : Option Int := p.getLast?
theorem lastO_snoc (p : List Int) (x : Int) : lastO (p ++ [x]) = some x := by simp [lastO]
theorem lastO_split (p : List Int) : p = [] ∨ ∃ q y, p = q ++ [y] := by
  by_cases h : p = []
  · exact .inl h
  · exact .inr ⟨p.dropLast, p.getLast h, (List.dropLast_concat_getLast h).symm⟩
theorem spec_rise_loop (m : Int) (r : List Int) (hr : r.length ≤ 1048576) : ∀ (xs p : List Int), r = p ++ xs → Ev (fun k => spec_l00Rises.l0 k r 0 (m - 1) (p.length : Int)) (riseB m (lastO p) xs) := by
  intro xs
  induction xs with
  | nil =>
    intro p hp
    refine Ev.step (fun k => by rw [spec_l00Rises.l0]) ?_
    exact ev_neg (by rw [hp, List.append_nil]; omega) (Ev.now _)
  | cons x xs ih =>
    intro p hp
    have hpl : (p.length : Int) + (xs.length + 1) = r.length := by rw [hp]; simp
    have hx : rd r (p.length : Int) = x := by rw [hp]; exact rd_mid p x xs
    have hw : wrap64 ((p.length : Int) + 1) = ((p ++ [x]).length : Int) := wrap_next p x (by omega)
    have hi := ih (p ++ [x]) (by rw [hp]; simp)
    rw [lastO_snoc] at hi
    refine Ev.step (fun k => by rw [spec_l00Rises.l0]) ?_
    refine ev_pos (by omega) (ev_pos (by omega) ?_)
    rw [hx, hw]
    refine ev_bind0 (in_some _ _ _) (ev_ite (fun h => ?_) (fun h => ?_))
    · rcases lastO_split p with rfl | ⟨q, y, rfl⟩
      · refine ev_neg (by simp) (ev_of hi ?_)
        rw [riseB, lineB, h]
        rfl
      · have hw2 : wrap64 (((q ++ [y]).length : Int) - 1) = (q.length : Int) := (wrap_small (by omega) (by omega)).trans (by simp)
        have hy : rd r (q.length : Int) = y := by rw [hp, List.append_assoc]; exact rd_mid q y (x :: xs)
        have hql : ((q ++ [y]).length : Int) = q.length + 1 := by simp
        rw [hw2, hy]
        refine ev_pos (by omega) (ev_pos (by omega) (ev_pos (by omega) (ev_ite (fun h2 => ?_) (fun h2 => ?_))))
        · refine ev_of (Ev.now _) ?_
          have : decide (y < x) = false := decide_eq_false (by omega)
          rw [lastO_snoc, riseB, lineB, h]
          simp [this, ltO]
        · refine ev_of hi ?_
          rw [lastO_snoc, riseB, lineB, h]
          have : decide (y < x) = true := decide_eq_true (by omega)
          simp [this, ltO]
    · refine ev_of (Ev.now _) ?_
      simp only [Bool.not_eq_true] at h
      rw [riseB, lineB, h]
      rfl
theorem impl_rise_loop (m : Int) (hm : m ≤ 1048576) (hm0 : 0 ≤ m) (ys : List (List Int)) (j : Nat) (r : List Int) (hr : r.length ≤ 1048576) {b : Bool} (hj : j ≤ 1048576) (hnext : Ev (fun k => impl_ValidDeck.l1 k m ys (ys.length : Int) ((j : Int) + 1)) b) : ∀ (xs p : List Int), r = p ++ xs → Ev (fun k => impl_ValidDeck.l2 k m r ys (ys.length : Int) (j : Int) r (r.length : Int) (p.length : Int)) (riseB m (lastO p) xs && b) := by
  intro xs
  induction xs with
  | nil =>
    intro p hp
    refine Ev.step (fun k => by rw [impl_ValidDeck.l2]) ?_
    refine ev_neg (by rw [hp, List.append_nil]; omega) ?_
    rw [wrap_small (i := (j : Int) + 1) (by omega) (by omega)]
    refine ev_of hnext ?_
    rw [riseB, Bool.true_and]
  | cons x xs ih =>
    intro p hp
    have hpl : (p.length : Int) + (xs.length + 1) = r.length := by rw [hp]; simp
    have hx : rd r (p.length : Int) = x := by rw [hp]; exact rd_mid p x xs
    have hw : wrap64 ((p.length : Int) + 1) = ((p ++ [x]).length : Int) := wrap_next p x (by omega)
    have hwm : wrap64 (m - 1) = m - 1 := wrap_small (by omega) (by omega)
    have hi := ih (p ++ [x]) (by rw [hp]; simp)
    rw [lastO_snoc] at hi
    refine Ev.step (fun k => by rw [impl_ValidDeck.l2]) ?_
    refine ev_pos (by omega) (ev_pos (by omega) (ev_pos (by omega) ?_))
    rw [hx, hw, hwm]
    refine ev_bind0 (within_some _ _ _) (ev_ite (fun h => ?_) (fun h => ?_))
    · rcases lastO_split p with rfl | ⟨q, y, rfl⟩
      · refine ev_neg (by simp) (ev_of hi ?_)
        rw [riseB, lineB, h]
        rfl
      · have hw2 : wrap64 (((q ++ [y]).length : Int) - 1) = (q.length : Int) := (wrap_small (by omega) (by omega)).trans (by simp)
        have hy : rd r (q.length : Int) = y := by rw [hp, List.append_assoc]; exact rd_mid q y (x :: xs)
        have hql : ((q ++ [y]).length : Int) = q.length + 1 := by simp
        rw [hw2, hy]
        refine ev_pos (by omega) (ev_pos (by omega) (ev_pos (by omega) (ev_ite (fun h2 => ?_) (fun h2 => ?_))))
        · refine ev_of (Ev.now _) ?_
          have : decide (y < x) = false := decide_eq_false (by omega)
          rw [lastO_snoc, riseB, lineB, h]
          simp [this, ltO]
        · refine ev_of hi ?_
          have : decide (y < x) = true := decide_eq_true (by omega)
          rw [lastO_snoc, riseB, lineB, h]
          simp [this, ltO]
    · refine ev_of (Ev.now _) ?_
      simp only [Bool.not_eq_true] at h
      rw [riseB, lineB, h]
      rfl
theorem spec_yards (m : Int) (hm : m ≤ 1048576) (hm0 : 0 ≤ m) (n : List Int) (ys : List (List Int)) (hl : ys.length ≤ 1048576) (hs : ∀ r ∈ ys, r.length ≤ 1048576) : ∀ (xs p : List (List Int)), ys = p ++ xs → Ev (fun k => spec_l20Ok.l1 k m (p.length : Int) n ys) (xs.all (yardB m)) := by
  intro xs
  induction xs with
  | nil =>
    intro p hp
    refine Ev.step (fun k => by rw [spec_l20Ok.l1]) ?_
    exact ev_neg (by rw [hp, List.append_nil]; omega) (Ev.now _)
  | cons x xs ih =>
    intro p hp
    have hpl : (p.length : Int) + (xs.length + 1) = ys.length := by rw [hp]; simp
    have hx : rd_L1 ys (p.length : Int) = x := by rw [hp]; exact rdL_mid p x xs
    have hw : wrap64 ((p.length : Int) + 1) = ((p ++ [x]).length : Int) := wrap_next p x (by omega)
    have hwm : wrap64 (m - 1) = m - 1 := wrap_small (by omega) (by omega)
    have hi := ih (p ++ [x]) (by rw [hp]; simp)
    refine Ev.step (fun k => by rw [spec_l20Ok.l1]) ?_
    refine ev_pos (by omega) (ev_pos (by omega) ?_)
    rw [hx, hw, hwm, List.all_cons]
    refine ev_ite (fun h => ?_) (fun h => ?_)
    · refine ev_of (Ev.now _) ?_
      rw [yardB, decide_eq_true (by omega)]
      rfl
    · have hr : Ev (fun k => spec_l00Rises.f k x 0 (m - 1)) (riseB m none x) := by
        unfold spec_l00Rises.f
        exact spec_rise_loop m x (hs x (by rw [hp]; simp)) x [] rfl
      refine Ev.bind hr (ev_ite (fun h2 => ?_) (fun h2 => ?_))
      · refine ev_of hi ?_
        rw [yardB, decide_eq_false (by omega), h2]
        rfl
      · refine ev_of (Ev.now _) ?_
        simp only [Bool.not_eq_true] at h2
        rw [yardB, h2, Bool.and_false, Bool.false_and]
theorem impl_yards (m : Int) (hm : m ≤ 1048576) (hm0 : 0 ≤ m) (ys : List (List Int)) (hl : ys.length ≤ 1048576) (hs : ∀ r ∈ ys, r.length ≤ 1048576) : ∀ (xs p : List (List Int)), ys = p ++ xs → Ev (fun k => impl_ValidDeck.l1 k m ys (ys.length : Int) (p.length : Int)) (xs.all (yardB m)) := by
  intro xs
  induction xs with
  | nil =>
    intro p hp
    refine Ev.step (fun k => by rw [impl_ValidDeck.l1]) ?_
    exact ev_neg (by rw [hp, List.append_nil]; omega) (Ev.now _)
  | cons x xs ih =>
    intro p hp
    have hpl : (p.length : Int) + (xs.length + 1) = ys.length := by rw [hp]; simp
    have hx : rd_L1 ys (p.length : Int) = x := by rw [hp]; exact rdL_mid p x xs
    have hi := ih (p ++ [x]) (by rw [hp]; simp)
    have hz : ((p ++ [x]).length : Int) = (p.length : Int) + 1 := by simp
    rw [hz] at hi
    refine Ev.step (fun k => by rw [impl_ValidDeck.l1]) ?_
    refine ev_pos (by omega) (ev_pos (by omega) (ev_pos (by omega) ?_))
    rw [hx, List.all_cons]
    refine ev_ite (fun h => ?_) (fun h => ?_)
    · refine ev_of (Ev.now _) ?_
      rw [yardB, decide_eq_true (by omega)]
      rfl
    · refine ev_of (impl_rise_loop m hm hm0 ys p.length x (hs x (by rw [hp]; simp)) (by omega) hi x [] rfl) ?_
      rw [yardB, decide_eq_false (by omega)]
      rfl
theorem spec_needs (n : List Int) (ys : List (List Int)) (hn : n.length ≤ 1048576) {b : Bool} (hnext : Ev (fun k => spec_l20Ok.l1 k (n.length : Int) 0 n ys) b) : ∀ (xs p : List Int), n = p ++ xs → Ev (fun k => spec_l20Ok.l0 k (n.length : Int) (p.length : Int) n ys) (needsB (n.length : Int) (p.length : Int) xs && b) := by
  intro xs
  induction xs with
  | nil =>
    intro p hp
    refine Ev.step (fun k => by rw [spec_l20Ok.l0]) ?_
    refine ev_neg (by rw [hp, List.append_nil]; omega) (ev_of hnext ?_)
    rw [needsB, Bool.true_and]
  | cons x xs ih =>
    intro p hp
    have hpl : (p.length : Int) + (xs.length + 1) = n.length := by rw [hp]; simp
    have hx : rd n (p.length : Int) = x := by rw [hp]; exact rd_mid p x xs
    have hw : wrap64 ((p.length : Int) + 1) = ((p ++ [x]).length : Int) := wrap_next p x (by omega)
    have hwm : wrap64 ((n.length : Int) - 1) = (n.length : Int) - 1 := wrap_small (by omega) (by omega)
    have hz : ((p ++ [x]).length : Int) = (p.length : Int) + 1 := by simp
    have hi := ih (p ++ [x]) (by rw [hp]; simp)
    refine Ev.step (fun k => by rw [spec_l20Ok.l0]) ?_
    refine ev_pos (by omega) (ev_pos (by omega) (ev_pos (by omega) ?_))
    rw [hx, hw, hwm, needsB, needB]
    refine ev_bind0 (in_some _ _ _) (ev_ite (fun h => ?_) (fun h => ?_))
    · refine ev_ite (fun h2 => ?_) (fun h2 => ?_)
      · refine ev_of (Ev.now _) ?_
        rw [h, decide_eq_true h2]
        rfl
      · refine ev_of hi ?_
        rw [h, decide_eq_false h2, hz]
        rfl
    · refine ev_of (Ev.now _) ?_
      simp only [Bool.not_eq_true] at h
      rw [h]
      rfl
theorem impl_needs (n : List Int) (ys : List (List Int)) (hn : n.length ≤ 1048576) {b : Bool} (hnext : Ev (fun k => impl_ValidDeck.l1 k (n.length : Int) ys (ys.length : Int) 0) b) : ∀ (xs p : List Int), n = p ++ xs → Ev (fun k => impl_ValidDeck.l0 k (n.length : Int) n (n.length : Int) (p.length : Int) n ys) (needsB (n.length : Int) (p.length : Int) xs && b) := by
  intro xs
  induction xs with
  | nil =>
    intro p hp
    refine Ev.step (fun k => by rw [impl_ValidDeck.l0]) ?_
    refine ev_neg (by rw [hp, List.append_nil]; omega) (ev_of hnext ?_)
    rw [needsB, Bool.true_and]
  | cons x xs ih =>
    intro p hp
    have hpl : (p.length : Int) + (xs.length + 1) = n.length := by rw [hp]; simp
    have hx : rd n (p.length : Int) = x := by rw [hp]; exact rd_mid p x xs
    have hw : wrap64 ((p.length : Int) + 1) = ((p ++ [x]).length : Int) := wrap_next p x (by omega)
    have hwm : wrap64 ((n.length : Int) - 1) = (n.length : Int) - 1 := wrap_small (by omega) (by omega)
    have hz : ((p ++ [x]).length : Int) = (p.length : Int) + 1 := by simp
    have hi := ih (p ++ [x]) (by rw [hp]; simp)
    refine Ev.step (fun k => by rw [impl_ValidDeck.l0]) ?_
    refine ev_pos (by omega) (ev_pos (by omega) (ev_pos (by omega) ?_))
    rw [hx, hw, hwm, needsB, needB]
    refine ev_bind0 (within_some _ _ _) (ev_ite (fun h => ?_) (fun h => ?_))
    · refine ev_ite (fun h2 => ?_) (fun h2 => ?_)
      · refine ev_of (Ev.now _) ?_
        rw [h, decide_eq_true h2]
        rfl
      · refine ev_of hi ?_
        rw [h, decide_eq_false h2, hz]
        rfl
    · refine ev_of (Ev.now _) ?_
      simp only [Bool.not_eq_true] at h
      rw [h]
      rfl
section
variable (n : List Int) (ys : List (List Int)) (hg : GoodDeck n ys)
include hg
theorem spec_deck : Ev (fun k => spec_l20Ok.f k n ys) (deckB n ys) := by
  have hn := hg.1.1
  have hj : ∀ b : Bool, b = true ∨ b = false → ∀ c : Bool, Ev (fun k => spec_l20Ok.j0 k (n.length : Int) true n ys) false := fun _ _ _ => Ev.step (fun k => by rw [spec_l20Ok.j0]) (ev_pos rfl (Ev.now _))
  unfold spec_l20Ok.f deckB
  refine ev_bind0 (in_some _ _ _) (ev_ite (fun h => ?_) (fun h => ?_))
  · rw [h, Bool.true_and]
    by_cases h5 : (ys.length : Int) > 5
    · rw [decide_eq_true h5, decide_eq_false (by omega : ¬ (ys.length : Int) ≤ 5)]
      exact ev_of (hj true (.inl rfl) true) rfl
    · rw [decide_eq_false h5, decide_eq_true (by omega : (ys.length : Int) ≤ 5), Bool.true_and]
      refine Ev.step (fun k => by rw [spec_l20Ok.j0]) (ev_neg (by simp) ?_)
      exact spec_needs n ys hn (spec_yards (n.length : Int) (by omega) (by omega) n ys hg.2.1 (fun r hr => (hg.2.2 r hr).1) ys [] rfl) n [] rfl
  · simp only [Bool.not_eq_true] at h
    rw [h, Bool.false_and]
    exact hj true (.inl rfl) true
theorem impl_deck : Ev (fun k => impl_ValidDeck.f k n ys) (deckB n ys) := by
  have hn := hg.1.1
  have hj : Ev (fun k => impl_ValidDeck.j0 k (n.length : Int) true n ys) false := Ev.step (fun k => by rw [impl_ValidDeck.j0]) (ev_pos rfl (Ev.now _))
  unfold impl_ValidDeck.f deckB
  refine ev_ite (fun h => ?_) (fun h => ?_)
  · rw [decide_eq_false (by omega : ¬ 1 ≤ (n.length : Int))]
    exact hj
  · rw [decide_eq_true (by omega : 1 ≤ (n.length : Int)), Bool.true_and]
    refine ev_ite (fun h2 => ?_) (fun h2 => ?_)
    · rw [decide_eq_false (by omega : ¬ (n.length : Int) ≤ 8)]
      exact hj
    · rw [decide_eq_true (by omega : (n.length : Int) ≤ 8), Bool.true_and]
      by_cases h5 : (ys.length : Int) > 5
      · rw [decide_eq_true h5, decide_eq_false (by omega : ¬ (ys.length : Int) ≤ 5)]
        exact hj
      · rw [decide_eq_false h5, decide_eq_true (by omega : (ys.length : Int) ≤ 5), Bool.true_and]
        refine Ev.step (fun k => by rw [impl_ValidDeck.j0]) (ev_neg (by simp) ?_)
        exact impl_needs n ys hn (impl_yards (n.length : Int) (by omega) (by omega) ys hg.2.1 (fun r hr => (hg.2.2 r hr).1) ys [] rfl) n [] rfl
end
/-! ### states -/
def fastB (c : Int) : Bool := decide (c = 70) || decide (c = 76)
def stateB (n : List Int) (s : ByteArray) : Bool := decide ((s.size : Int) = (n.length : Int)) && (bytesOf s).all fastB
theorem spec_state_loop (n : List Int) (ys : List (List Int)) (s : ByteArray) (hs : s.size ≤ 1048576) : ∀ (xs p : List Int), bytesOf s = p ++ xs → Ev (fun k => spec_l20State.l0 k s (p.length : Int) n ys) (decide ((s.size : Int) = (n.length : Int)) && xs.all fastB) := by
  intro xs
  have hb := bytes_length s
  induction xs with
  | nil =>
    intro p hp
    rw [hp, List.append_nil] at hb
    refine Ev.step (fun k => by rw [spec_l20State.l0]) ?_
    refine ev_neg (by omega) (ev_of (Ev.now _) ?_)
    rw [List.all_nil, Bool.and_true]
    rfl
  | cons x xs ih =>
    intro p hp
    have hpl : (p.length : Int) + (xs.length + 1) = s.size := by rw [← hb, hp]; simp
    have hx : bt s (p.length : Int) = x := by rw [bt_rd, hp]; exact rd_mid p x xs
    have hw : wrap64 ((p.length : Int) + 1) = ((p ++ [x]).length : Int) := wrap_next p x (by omega)
    have hi := ih (p ++ [x]) (by rw [hp]; simp)
    refine Ev.step (fun k => by rw [spec_l20State.l0]) ?_
    refine ev_pos (by omega) (ev_pos (by omega) ?_)
    rw [hx, hw, List.all_cons]
    refine ev_ite (fun h => ?_) (fun h => ev_ite (fun h2 => ?_) (fun h2 => ?_))
    · refine ev_of hi ?_
      rw [fastB, decide_eq_true h]
      rfl
    · refine ev_of hi ?_
      rw [fastB, decide_eq_true h2, Bool.or_true, Bool.true_and]
    · refine ev_of (Ev.now _) ?_
      rw [fastB, decide_eq_false h, decide_eq_false h2]
      simp
theorem impl_state_loop (s : ByteArray) (hs : s.size ≤ 1048576) : ∀ (xs p : List Int), bytesOf s = p ++ xs → Ev (fun k => impl_isState.l0 k s (p.length : Int)) (xs.all fastB) := by
  intro xs
  have hb := bytes_length s
  induction xs with
  | nil =>
    intro p hp
    rw [hp, List.append_nil] at hb
    refine Ev.step (fun k => by rw [impl_isState.l0]) ?_
    exact ev_neg (by omega) (Ev.now _)
  | cons x xs ih =>
    intro p hp
    have hpl : (p.length : Int) + (xs.length + 1) = s.size := by rw [← hb, hp]; simp
    have hx : bt s (p.length : Int) = x := by rw [bt_rd, hp]; exact rd_mid p x xs
    have hw : wrap64 ((p.length : Int) + 1) = ((p ++ [x]).length : Int) := wrap_next p x (by omega)
    have hi := ih (p ++ [x]) (by rw [hp]; simp)
    refine Ev.step (fun k => by rw [impl_isState.l0]) ?_
    refine ev_pos (by omega) (ev_pos (by omega) ?_)
    rw [hx, hw, List.all_cons]
    refine ev_ite (fun h => ?_) (fun h => ev_ite (fun h2 => ?_) (fun h2 => ?_))
    · refine ev_of hi ?_
      rw [fastB, decide_eq_true h]
      rfl
    · refine ev_of hi ?_
      rw [fastB, decide_eq_true h2, Bool.or_true, Bool.true_and]
    · refine ev_of (Ev.now _) ?_
      rw [fastB, decide_eq_false h, decide_eq_false h2]
      simp
theorem spec_state (n : List Int) (ys : List (List Int)) (s : ByteArray) (hs : s.size ≤ 1048576) : Ev (fun k => spec_l20State.f k n ys s) (stateB n s) := by
  unfold spec_l20State.f stateB
  exact spec_state_loop n ys s hs (bytesOf s) [] rfl
theorem impl_state (n : List Int) (ys : List (List Int)) (s : ByteArray) (hs : s.size ≤ 1048576) : Ev (fun k => impl_isState.f k n ys s) (stateB n s) := by
  unfold impl_isState.f stateB
  refine ev_ite (fun h => ?_) (fun h => ?_)
  · rw [decide_eq_true h, Bool.true_and]
    exact impl_state_loop s hs (bytesOf s) [] rfl
  · rw [decide_eq_false h]
    exact Ev.now _
def codeD (n : List Int) (ys : List (List Int)) (s : ByteArray) : Int := if deckB n ys = true then (if stateB n s = true then 0 else 2) else 1
theorem spec_codeD (n : List Int) (ys : List (List Int)) (s : ByteArray) (hg : GoodDeck n ys) (hs : s.size ≤ 1048576) : Ev (fun k => spec_l20Code.f k n ys s) (codeD n ys s) := by
  unfold spec_l20Code.f codeD
  refine Ev.bind (spec_deck n ys hg) (ev_ite (fun h => ?_) (fun h => ?_))
  · rw [if_pos h]
    refine Ev.bind (spec_state n ys s hs) (ev_ite (fun h2 => ?_) (fun h2 => ?_))
    · rw [if_pos h2]; exact Ev.now _
    · rw [if_neg h2]; exact Ev.now _
  · rw [if_neg h]; exact Ev.now _
theorem impl_codeD (n : List Int) (ys : List (List Int)) (s : ByteArray) (hg : GoodDeck n ys) (hs : s.size ≤ 1048576) : Ev (fun k => impl_deckCode.f k n ys [s]) (codeD n ys s) := by
  unfold impl_deckCode.f codeD
  refine Ev.bind (impl_deck n ys hg) (ev_ite (fun h => ?_) (fun h => ?_))
  · rw [if_pos h]
    refine Ev.step (fun k => by rw [impl_deckCode.l0]) (ev_pos (by simp) (ev_pos (by omega) (ev_pos (by simp) ?_)))
    have e : rdOf ByteArray.empty [s] 0 = s := rfl
    rw [e]
    refine Ev.bind (impl_state n ys s hs) (ev_ite (fun h2 => ?_) (fun h2 => ?_))
    · rw [if_pos h2]
      exact Ev.step (fun k => by rw [impl_deckCode.l0]) (ev_neg (by simp [wrap64]) (Ev.now _))
    · rw [if_neg h2]; exact Ev.now _
  · rw [if_neg h]; exact Ev.now _
end Go.Proofs.YtfkiamccipoioaaB
end

section
/- States as lists of bytes and as sets of bits; what holds the yards; whether a line may be changed: of both. -/
namespace Go.Proofs.YtfkiamccipoioaaB
open Go.RowKit Go.Proofs.YtfkiamccipoioaaW.PrintWords Go.Proofs.YtfkiamccipoioaaW.PrintLast Go.Proofs.YtfkiamccipoioaaW.PrintMore Go.Proofs.Ytfkiamccipoioaa.P

/-! ### bits -/
theorem wraps_i64 (n : Int) (h0 : 0 ≤ n) (h1 : n < 2 ^ 62) : IntKind.i64.wrap n = n := by
  rw [IntKind.wrap_i64]
  omega
theorem bits_or64 (a b : Nat) (ha : a < 2 ^ 62) (hb : b < 2 ^ 62) : bits .or .i64 (a : Int) (b : Int) = ((a ||| b : Nat) : Int) := (bits_nat .i64 62 (by decide) wraps_i64 a b ha hb).2
theorem bits_and64 (a b : Nat) (ha : a < 2 ^ 62) (hb : b < 2 ^ 62) : bits .and .i64 (a : Int) (b : Int) = ((a &&& b : Nat) : Int) := (bits_nat .i64 62 (by decide) wraps_i64 a b ha hb).1
theorem bits_xor64 (a b : Nat) (ha : a < 2 ^ 62) (hb : b < 2 ^ 62) : bits .xor .i64 (a : Int) (b : Int) = ((a ^^^ b : Nat) : Int) := by
  have ha' : a % 2 ^ IntKind.i64.bits = a := Nat.mod_eq_of_lt (Nat.lt_of_lt_of_le ha (by decide))
  have hb' : b % 2 ^ IntKind.i64.bits = b := Nat.mod_eq_of_lt (Nat.lt_of_lt_of_le hb (by decide))
  simp only [bits, BitVec.ofInt_natCast, BitVec.toNat_xor, BitVec.toNat_ofNat, ha', hb']
  exact wraps_i64 _ (Int.natCast_nonneg _) (by exact_mod_cast Nat.xor_lt_two_pow ha hb)
theorem shl_one (i : Int) (_h0 : 0 ≤ i) (h1 : i < 62) : shl .i64 1 i = ((2 ^ i.toNat : Nat) : Int) := by
  have hb : IntKind.i64.bits = 64 := rfl
  unfold shl
  rw [Nat.min_eq_left (by omega), Int.one_mul]
  have e : (2 : Int) ^ i.toNat = ((2 ^ i.toNat : Nat) : Int) := by simp
  rw [e]
  refine wraps_i64 _ (Int.natCast_nonneg _) ?_
  have : 2 ^ i.toNat < 2 ^ 62 := Nat.pow_lt_pow_right (by decide) (by omega)
  exact_mod_cast this
theorem bit_of (a : Nat) (ha : a < 2 ^ 62) (i : Int) (_h0 : 0 ≤ i) (h1 : i < 62) : bits .and .i64 (shr .i64 (a : Int) i) 1 = if a.testBit i.toNat then 1 else 0 := by
  have hb : IntKind.i64.bits = 64 := rfl
  unfold shr
  rw [Nat.min_eq_left (by omega)]
  have e : (a : Int) / 2 ^ i.toNat = ((a / 2 ^ i.toNat : Nat) : Int) := by simp
  have e1 : (1 : Int) = ((1 : Nat) : Int) := rfl
  rw [e, e1, bits_and64 _ 1 (Nat.lt_of_le_of_lt (Nat.div_le_self _ _) ha) (by decide), Nat.and_one_is_mod, Nat.testBit_eq_decide_div_mod_eq]
  have := Nat.mod_lt (a / 2 ^ i.toNat) (by decide : 0 < 2)
  by_cases h : a / 2 ^ i.toNat % 2 = 1
  · rw [h]; simp
  · have : a / 2 ^ i.toNat % 2 = 0 := by omega
    rw [this]; simp
/-- A state's set: bit i is the line i. -/
def setN : List Int → Nat
  | [] => 0
  | c :: cs => 2 * setN cs + (if c = 70 then 1 else 0)
theorem setN_bit : ∀ (l : List Int) (i : Nat), (setN l).testBit i = decide (l.getD i 0 = 70) := by
  intro l
  induction l with
  | nil => intro i; simp [setN]
  | cons c cs ih =>
    intro i
    cases i with
    | zero =>
      rw [setN, Nat.testBit_zero, List.getD_cons_zero]
      by_cases h : c = 70
      · simp [h]
      · simp [h]
    | succ i =>
      rw [setN, Nat.testBit_succ, List.getD_cons_succ, ← ih i]
      congr 1
      split <;> omega
theorem setN_lt : ∀ l : List Int, setN l < 2 ^ l.length := by
  intro l
  induction l with
  | nil => decide
  | cons c cs ih =>
    rw [setN, List.length_cons, Nat.pow_succ]
    split <;> omega
theorem setN_small {l : List Int} (h : l.length ≤ 61) : setN l < 2 ^ 62 :=
  Nat.lt_of_lt_of_le (setN_lt l) (Nat.pow_le_pow_right (by decide) (by omega))
theorem setN_snoc (p : List Int) (c : Int) : setN (p ++ [c]) = setN p ||| (if c = 70 then 2 ^ p.length else 0) := by
  apply Nat.eq_of_testBit_eq
  intro i
  rw [setN_bit, Nat.testBit_or, setN_bit]
  by_cases hi : i < p.length
  · rw [List.getD_eq_getElem?_getD, List.getElem?_append_left hi, ← List.getD_eq_getElem?_getD]
    by_cases h : c = 70
    · rw [if_pos h, Nat.testBit_two_pow, decide_eq_false (show ¬ p.length = i by omega), Bool.or_false]
    · rw [if_neg h, Nat.zero_testBit, Bool.or_false]
  · have hp : (p.getD i 0) = 0 := by rw [List.getD_eq_getElem?_getD, List.getElem?_eq_none (by omega)]; rfl
    rw [hp, List.getD_eq_getElem?_getD, List.getElem?_append_right (by omega)]
    by_cases he : i = p.length
    · subst he
      by_cases h : c = 70
      · simp [h]
      · simp [h]
    · have : ([c] : List Int)[i - p.length]? = none := List.getElem?_eq_none (by simp; omega)
      rw [this]
      by_cases h : c = 70
      · rw [if_pos h, Nat.testBit_two_pow, decide_eq_false (show ¬ p.length = i by omega)]
        rfl
      · simp [h]
abbrev flipL (l : List Int) (i : Int) : List Int := l.set i.toNat (if rd l i = 70 then 76 else 70)
theorem setN_flip (l : List Int) (i : Int) (_h0 : 0 ≤ i) (h : i < (l.length : Int)) : setN (flipL l i) = setN l ^^^ 2 ^ i.toNat := by
  apply Nat.eq_of_testBit_eq
  intro j
  rw [setN_bit, Nat.testBit_xor, setN_bit, Nat.testBit_two_pow, List.getD_eq_getElem?_getD]
  have hr : rd l i = l.getD i.toNat 0 := rfl
  by_cases he : i.toNat = j
  · subst he
    rw [List.getElem?_set_self (by omega), Option.getD_some, hr]
    by_cases hc : l.getD i.toNat 0 = 70
    · rw [if_pos hc, decide_eq_true hc]; simp
    · rw [if_neg hc, decide_eq_false hc]; simp
  · rw [List.getElem?_set_ne he, ← List.getD_eq_getElem?_getD, decide_eq_false he, Bool.xor_false]
theorem bit_rd (l : List Int) (hl : l.length ≤ 61) (i : Int) (h0 : 0 ≤ i) (h1 : i < 62) : bits .and .i64 (shr .i64 ((setN l : Nat) : Int) i) 1 = if rd l i = 70 then 1 else 0 := by
  rw [bit_of _ (setN_small hl) i h0 h1, setN_bit]
  have hr : rd l i = l.getD i.toNat 0 := rfl
  rw [hr]
  by_cases h : l.getD i.toNat 0 = 70
  · rw [if_pos h, decide_eq_true h]; rfl
  · rw [if_neg h, decide_eq_false h]; rfl
theorem flip_bits (l : List Int) (hl : l.length ≤ 61) (i : Int) (h0 : 0 ≤ i) (h : i < (l.length : Int)) : bits .xor .i64 ((setN l : Nat) : Int) (shl .i64 1 i) = ((setN (flipL l i) : Nat) : Int) := by
  rw [shl_one i h0 (by omega), bits_xor64 _ _ (setN_small hl) (Nat.pow_lt_pow_right (by decide) (by omega)), setN_flip l i h0 h]
theorem set_loop (s : ByteArray) (hs : s.size ≤ 61) : ∀ (xs p : List Int), bytesOf s = p ++ xs → Ev (fun k => impl_setOf.l0 k s ((setN p : Nat) : Int) (p.length : Int)) ((setN (bytesOf s) : Nat) : Int) := by
  intro xs
  have hb := bytes_length s
  induction xs with
  | nil =>
    intro p hp
    rw [hp, List.append_nil] at hb
    refine Ev.step (fun k => by rw [impl_setOf.l0]) ?_
    refine ev_neg (by omega) (ev_of (Ev.now _) ?_)
    rw [hp, List.append_nil]
  | cons x xs ih =>
    intro p hp
    have hpl : (p.length : Int) + (xs.length + 1) = s.size := by rw [← hb, hp]; simp
    have hx : bt s (p.length : Int) = x := by rw [bt_rd, hp]; exact rd_mid p x xs
    have hw : wrap64 ((p.length : Int) + 1) = ((p ++ [x]).length : Int) := wrap_next p x (by omega)
    have hi := ih (p ++ [x]) (by rw [hp]; simp)
    rw [setN_snoc] at hi
    refine Ev.step (fun k => by rw [impl_setOf.l0]) ?_
    refine ev_pos (by omega) (ev_pos (by omega) ?_)
    rw [hx, hw]
    refine ev_ite (fun h => ?_) (fun h => ?_)
    · rw [if_pos h] at hi
      rw [shl_one _ (by omega) (by omega), Int.toNat_natCast, bits_or64 _ _ (setN_small (by omega)) (Nat.pow_lt_pow_right (by decide) (by omega))]
      exact hi
    · rw [if_neg h, Nat.or_zero] at hi
      exact hi
theorem set_ev (s : ByteArray) (hs : s.size ≤ 61) : Ev (fun k => impl_setOf.f k s) ((setN (bytesOf s) : Nat) : Int) := by
  unfold impl_setOf.f
  exact set_loop s hs (bytesOf s) [] rfl
/-! ### what holds the yards -/
def fastsL (l : List Int) (r : List Int) : Int := ((r.filter fun x => decide (rd l x = 70)).length : Int)
def heldL (l : List Int) (ys : List (List Int)) : List Int := ys.map (fastsL l)
theorem fastsL_snoc (l p : List Int) (x : Int) : fastsL l (p ++ [x]) = fastsL l p + if rd l x = 70 then 1 else 0 := by
  unfold fastsL
  rw [List.filter_append, List.length_append]
  by_cases h : rd l x = 70
  · rw [if_pos h, List.filter_cons, if_pos (decide_eq_true h)]; simp
  · rw [if_neg h, List.filter_cons, if_neg (by rw [decide_eq_false h]; simp)]; simp
theorem fastsL_le (l r : List Int) : 0 ≤ fastsL l r ∧ fastsL l r ≤ r.length := by
  unfold fastsL
  have := List.length_filter_le (fun x => decide (rd l x = 70)) r
  omega
def linesIn (m : Int) (ys : List (List Int)) : Prop := ys.length ≤ 1048576 ∧ ∀ r ∈ ys, r.length ≤ 1048576 ∧ ∀ x ∈ r, 0 ≤ x ∧ x < m
section
variable (n : List Int) (ys : List (List Int)) (l : List Int) (hl : l.length ≤ 61) (hy : linesIn (l.length : Int) ys)
include hl hy
theorem impl_row (j : Nat) (hj : j ≤ 1048576) (acc : List Int) (hacc : acc.length ≤ 1048576) (r : List Int) (hr : r ∈ ys) {b : List Int} (hnext : Ev (fun k => impl_heldBy.l0 k ((setN l : Nat) : Int) (acc ++ [fastsL l r]) ys (ys.length : Int) ((j : Int) + 1)) b) : ∀ (xs p : List Int), r = p ++ xs →
    Ev (fun k => impl_heldBy.l1 k ((setN l : Nat) : Int) acc (fastsL l p) ys (ys.length : Int) (j : Int) r (r.length : Int) (p.length : Int)) b := by
  intro xs
  obtain ⟨hrl, hrin⟩ := hy.2 r hr
  induction xs with
  | nil =>
    intro p hp
    have e : r = p := by rw [hp, List.append_nil]
    refine Ev.step (fun k => by rw [impl_heldBy.l1]) ?_
    refine ev_neg (by rw [e]; omega) (ev_pos (by omega) ?_)
    rw [wrap_small (i := (j : Int) + 1) (by omega) (by omega), ← e]
    exact hnext
  | cons x xs ih =>
    intro p hp
    have hpl : (p.length : Int) + (xs.length + 1) = r.length := by rw [hp]; simp
    have hx : rd r (p.length : Int) = x := by rw [hp]; exact rd_mid p x xs
    have hw : wrap64 ((p.length : Int) + 1) = ((p ++ [x]).length : Int) := wrap_next p x (by omega)
    have hxi := hrin x (by rw [hp]; simp)
    have hf := fastsL_le l p
    have hi := ih (p ++ [x]) (by rw [hp]; simp)
    rw [fastsL_snoc] at hi
    refine Ev.step (fun k => by rw [impl_heldBy.l1]) ?_
    refine ev_pos (by omega) (ev_pos (by omega) (ev_pos (by omega) ?_))
    rw [hx, hw]
    refine ev_pos hxi.1 ?_
    rw [bit_rd l hl x hxi.1 (by omega), wrap_small (i := fastsL l p + _) (by split <;> omega) (by split <;> omega)]
    exact hi
theorem impl_rows : ∀ (xs p : List (List Int)), ys = p ++ xs → Ev (fun k => impl_heldBy.l0 k ((setN l : Nat) : Int) (heldL l p) ys (ys.length : Int) (p.length : Int)) (heldL l ys) := by
  intro xs
  have hyl := hy.1
  induction xs with
  | nil =>
    intro p hp
    have e : ys = p := by rw [hp, List.append_nil]
    refine Ev.step (fun k => by rw [impl_heldBy.l0]) ?_
    refine ev_neg (by rw [e]; omega) (ev_of (Ev.now _) ?_)
    rw [e]
  | cons x xs ih =>
    intro p hp
    have hpl : (p.length : Int) + (xs.length + 1) = ys.length := by rw [hp]; simp
    have hx : rd_L1 ys (p.length : Int) = x := by rw [hp]; exact rdL_mid p x xs
    have hi := ih (p ++ [x]) (by rw [hp]; simp)
    have hz : ((p ++ [x]).length : Int) = (p.length : Int) + 1 := by simp
    have hh : heldL l (p ++ [x]) = heldL l p ++ [fastsL l x] := by unfold heldL; rw [List.map_append]; rfl
    have hhl : (heldL l p).length = p.length := List.length_map ..
    rw [hz, hh] at hi
    refine Ev.step (fun k => by rw [impl_heldBy.l0]) ?_
    refine ev_pos (by omega) (ev_pos (by omega) (ev_pos (by omega) ?_))
    rw [hx]
    exact impl_row ys l hl hy p.length (by omega) (heldL l p) (by omega) x (by rw [hp]; simp) hi x [] rfl
theorem impl_held : Ev (fun k => impl_heldBy.f k n ys ((setN l : Nat) : Int)) (heldL l ys) := by
  unfold impl_heldBy.f
  exact impl_rows ys l hl hy ys [] rfl
end
section
variable (n : List Int) (ys : List (List Int)) (s : ByteArray) (hy : linesIn (s.size : Int) ys)
include hy
theorem spec_row (j : Nat) (acc : List Int) (hacc : acc.length ≤ 1048576) (hj : j < ys.length) (r : List Int) (hr : rd_L1 ys (j : Int) = r) {b : List Int} (hnext : Ev (fun k => spec_l20Held.l0 k s (acc ++ [fastsL (bytesOf s) r]) ((j : Int) + 1) n ys) b) : ∀ (xs p : List Int), r = p ++ xs →
    Ev (fun k => spec_l20Held.l1 k s acc (j : Int) (fastsL (bytesOf s) p) (p.length : Int) n ys) b := by
  intro xs
  have hyl := hy.1
  obtain ⟨hrl, hrin⟩ := hy.2 r (by rw [← hr]; unfold rd_L1; rw [Int.toNat_natCast, List.getD_eq_getElem?_getD, List.getElem?_eq_getElem hj]; exact List.getElem_mem _)
  induction xs with
  | nil =>
    intro p hp
    have e : r = p := by rw [hp, List.append_nil]
    refine Ev.step (fun k => by rw [spec_l20Held.l1]) ?_
    refine ev_pos (by omega) (ev_pos (by omega) ?_)
    rw [hr]
    refine ev_neg (by rw [e]; omega) (ev_pos (by omega) ?_)
    rw [wrap_small (i := (j : Int) + 1) (by omega) (by omega), ← e]
    exact hnext
  | cons x xs ih =>
    intro p hp
    have hpl : (p.length : Int) + (xs.length + 1) = r.length := by rw [hp]; simp
    have hx : rd r (p.length : Int) = x := by rw [hp]; exact rd_mid p x xs
    have hw : wrap64 ((p.length : Int) + 1) = ((p ++ [x]).length : Int) := wrap_next p x (by omega)
    have hxi := hrin x (by rw [hp]; simp)
    have hf := fastsL_le (bytesOf s) p
    have hi := ih (p ++ [x]) (by rw [hp]; simp)
    rw [fastsL_snoc] at hi
    refine Ev.step (fun k => by rw [spec_l20Held.l1]) ?_
    refine ev_pos (by omega) (ev_pos (by omega) ?_)
    rw [hr]
    refine ev_pos (by omega) (ev_pos (by omega) ?_)
    rw [hx, hw]
    refine ev_pos hxi.1 (ev_pos hxi.2 ?_)
    rw [bt_rd]
    refine ev_ite (fun h => ?_) (fun h => ?_)
    · rw [if_pos h] at hi
      rw [wrap_small (i := fastsL (bytesOf s) p + 1) (by omega) (by omega)]
      exact hi
    · rw [if_neg h, Int.add_zero] at hi
      exact hi
theorem spec_rows : ∀ (xs p : List (List Int)), ys = p ++ xs → Ev (fun k => spec_l20Held.l0 k s (heldL (bytesOf s) p) (p.length : Int) n ys) (heldL (bytesOf s) ys) := by
  intro xs
  have hyl := hy.1
  induction xs with
  | nil =>
    intro p hp
    have e : ys = p := by rw [hp, List.append_nil]
    refine Ev.step (fun k => by rw [spec_l20Held.l0]) ?_
    refine ev_neg (by rw [e]; omega) (ev_of (Ev.now _) ?_)
    rw [e]
  | cons x xs ih =>
    intro p hp
    have hpl : (p.length : Int) + (xs.length + 1) = ys.length := by rw [hp]; simp
    have hx : rd_L1 ys (p.length : Int) = x := by rw [hp]; exact rdL_mid p x xs
    have hi := ih (p ++ [x]) (by rw [hp]; simp)
    have hz : ((p ++ [x]).length : Int) = (p.length : Int) + 1 := by simp
    have hh : heldL (bytesOf s) (p ++ [x]) = heldL (bytesOf s) p ++ [fastsL (bytesOf s) x] := by unfold heldL; rw [List.map_append]; rfl
    have hhl : (heldL (bytesOf s) p).length = p.length := List.length_map ..
    rw [hz, hh] at hi
    refine Ev.step (fun k => by rw [spec_l20Held.l0]) ?_
    refine ev_pos (by omega) ?_
    exact spec_row n ys s hy p.length (heldL (bytesOf s) p) (by omega) (by omega) x hx hi x [] rfl
theorem spec_held : Ev (fun k => spec_l20Held.f k n ys s) (heldL (bytesOf s) ys) := by
  unfold spec_l20Held.f
  exact spec_rows n ys s hy ys [] rfl
end
/-! ### loose yards -/
def looseF : Nat → List Int → List Int
  | _, [] => []
  | i, x :: xs => if x = 0 then (i : Int) :: looseF (i + 1) xs else looseF (i + 1) xs
theorem looseF_has : ∀ (xs : List Int) (i : Nat), decide (0 < (looseF i xs).length) = xs.contains 0 := by
  intro xs
  induction xs with
  | nil => intro i; rfl
  | cons x xs ih =>
    intro i
    rw [looseF]
    by_cases h : x = 0
    · rw [if_pos h, h]; simp
    · rw [if_neg h, ih (i + 1), List.contains_cons]
      have : ((0 : Int) == x) = false := by simp; omega
      rw [this, Bool.false_or]
theorem loose_loop (h : List Int) (hh : h.length ≤ 1048576) : ∀ (xs p acc : List Int), h = p ++ xs → acc.length ≤ p.length → Ev (fun k => spec_l20Loose.l0 k h acc (p.length : Int)) (acc ++ looseF p.length xs) := by
  intro xs
  induction xs with
  | nil =>
    intro p acc hp _
    refine Ev.step (fun k => by rw [spec_l20Loose.l0]) ?_
    refine ev_neg (by rw [hp, List.append_nil]; omega) (ev_of (Ev.now _) ?_)
    rw [looseF, List.append_nil]
  | cons x xs ih =>
    intro p acc hp ha
    have hpl : (p.length : Int) + (xs.length + 1) = h.length := by rw [hp]; simp
    have hx : rd h (p.length : Int) = x := by rw [hp]; exact rd_mid p x xs
    have hw : wrap64 ((p.length : Int) + 1) = ((p ++ [x]).length : Int) := wrap_next p x (by omega)
    have hz : (p ++ [x]).length = p.length + 1 := by simp
    refine Ev.step (fun k => by rw [spec_l20Loose.l0]) ?_
    refine ev_pos (by omega) (ev_pos (by omega) ?_)
    rw [hx, hw, looseF]
    refine ev_ite (fun h2 => ?_) (fun h2 => ?_)
    · have hi := ih (p ++ [x]) (acc ++ [(p.length : Int)]) (by rw [hp]; simp) (by rw [hz, List.length_append, List.length_singleton]; omega)
      rw [hz, List.append_assoc, List.singleton_append] at hi
      rw [hz] at hw ⊢
      rw [if_pos h2]
      exact ev_pos (by omega) hi
    · have hi := ih (p ++ [x]) acc (by rw [hp]; simp) (by rw [hz]; omega)
      rw [hz] at hi ⊢
      rw [if_neg h2]
      exact hi
theorem spec_loose (n : List Int) (ys : List (List Int)) (s : ByteArray) (hy : linesIn (s.size : Int) ys) : Ev (fun k => spec_l20Loose.f k n ys s) (looseF 0 (heldL (bytesOf s) ys)) := by
  unfold spec_l20Loose.f
  refine Ev.bind (spec_held n ys s hy) ?_
  have hl : (heldL (bytesOf s) ys).length = ys.length := List.length_map ..
  exact loose_loop (heldL (bytesOf s) ys) (by have := hy.1; omega) _ [] [] rfl (Nat.le_refl _)
/-! ### a line is changed -/
theorem hasD_loop (a : Int) : ∀ (xs p : List Int), p.length + xs.length ≤ 1048576 → ∃ r, Ev (fun k => slices_Index_int64_int64.l0 k (p ++ xs) a ((p ++ xs).length : Int) (p.length : Int)) r ∧ decide (r ≥ 0) = xs.contains a := by
  intro xs
  induction xs with
  | nil =>
    intro p _
    refine ⟨-1, Ev.step (fun k => by rw [slices_Index_int64_int64.l0]) ?_, rfl⟩
    exact ev_neg (not_lt_end p) (Ev.now _)
  | cons x xs ih =>
    intro p hl
    rw [List.length_cons] at hl
    have hw : wrap64 ((p.length : Int) + 1) = ((p ++ [x]).length : Int) := wrap_next p x (by omega)
    obtain ⟨r, h1, h2⟩ := ih (p ++ [x]) (by rw [List.length_append]; simp; omega)
    by_cases h : a = x
    · refine ⟨(p.length : Int), Ev.step (fun k => by rw [slices_Index_int64_int64.l0]) ?_, ?_⟩
      · refine ev_pos (lt_mid p x xs) (ev_pos (by omega) (ev_pos (lt_mid p x xs) ?_))
        rw [rd_mid]
        exact ev_pos h (Ev.now _)
      · rw [decide_eq_true (by omega), h]; simp
    · refine ⟨r, Ev.step (fun k => by rw [slices_Index_int64_int64.l0]) ?_, ?_⟩
      · refine ev_pos (lt_mid p x xs) (ev_pos (by omega) (ev_pos (lt_mid p x xs) ?_))
        rw [rd_mid, hw, push_mid p x xs]
        exact ev_neg h h1
      · rw [h2, List.contains_cons]
        have : (a == x) = false := by simp; omega
        rw [this, Bool.false_or]
theorem hasD_ev (l : List Int) (a : Int) (h : l.length ≤ 1048576) : Ev (fun k => slices_Contains_int64_int64.f k l a) (l.contains a) := by
  unfold slices_Contains_int64_int64.f slices_Index_int64_int64.f
  obtain ⟨r, h1, h2⟩ := hasD_loop a l [] (by simp; omega)
  exact Ev.bind h1 (ev_of (Ev.now _) h2)
def changeC (n : List Int) (ys : List (List Int)) (l : List Int) (i : Int) : Int :=
  if 0 ≤ rd n i ∧ ¬ rd l (rd n i) = 70 then 6 else if (heldL (flipL l i) ys).contains 0 = true then 10 else 0
/-- A deck with its lines, and a state of it. -/
structure DeckOk (n : List Int) (ys : List (List Int)) (l : List Int) : Prop where
  few : n.length ≤ 8
  len : l.length = n.length
  needs : ∀ i : Nat, i < n.length → -1 ≤ rd n (i : Int) ∧ rd n (i : Int) < (n.length : Int)
  lines : linesIn (n.length : Int) ys
  fast : ∀ c ∈ l, c = 70 ∨ c = 76
theorem flip_len (l : List Int) (i : Int) : (flipL l i).length = l.length := List.length_set ..
theorem DeckOk.flip {n : List Int} {ys : List (List Int)} {l : List Int} (h : DeckOk n ys l) (i : Int) : DeckOk n ys (flipL l i) :=
  ⟨h.few, by rw [flip_len]; exact h.len, h.needs, h.lines, fun c hc => by
    rcases List.mem_or_eq_of_mem_set hc with hc | rfl
    · exact h.fast c hc
    · split
      · exact .inr rfl
      · exact .inl rfl⟩
theorem strOf_bytes {l : List Int} (h : ∀ c ∈ l, c = 70 ∨ c = 76) : bytesOf (strOfNums l) = l := by
  unfold bytesOf
  rw [strOfNums_data, List.map_map]
  conv => rhs; rw [← List.map_id l]
  refine List.map_congr_left (fun c hc => ?_)
  rcases h c hc with rfl | rfl <;> rfl
theorem bytes_strOf (s : ByteArray) (h : ∀ c ∈ bytesOf s, c = 70 ∨ c = 76) : strOfNums (bytesOf s) = s := bytes_inj (strOf_bytes h)
section
variable {n : List Int} {ys : List (List Int)} {l : List Int} (h : DeckOk n ys l) (i : Int) (h0 : 0 ≤ i) (h1 : i < (n.length : Int))
include h h0 h1
theorem DeckOk.need_in : -1 ≤ rd n i ∧ rd n i < (n.length : Int) := by
  have := h.needs i.toNat (by omega)
  unfold rd at this ⊢
  rwa [Int.toNat_natCast] at this
theorem impl_change : Ev (fun k => impl_changeCode.f k n ys ((setN l : Nat) : Int) i) (changeC n ys l i) := by
  have hfew := h.few
  have hlen := h.len
  have hnd := h.need_in i h0 h1
  have hf := h.flip i
  have hfl := flip_len l i
  have hj : Ev (fun k => impl_changeCode.j0 k ((setN l : Nat) : Int) i false n ys) (if (heldL (flipL l i) ys).contains 0 = true then 10 else 0) := by
    refine Ev.step (fun k => by rw [impl_changeCode.j0]) (ev_neg (by simp) (ev_pos h0 ?_))
    rw [flip_bits l (by omega) i h0 (by omega)]
    have hh := impl_held n ys (flipL l i) (by omega) (by rw [hfl, hlen]; exact h.lines)
    have hhl : (heldL (flipL l i) ys).length = ys.length := List.length_map ..
    refine Ev.bind hh (Ev.bind (hasD_ev _ 0 (by have := h.lines.1; omega)) (ev_ite (fun h2 => ?_) (fun h2 => ?_)))
    · rw [if_pos h2]; exact Ev.now _
    · rw [if_neg h2]; exact Ev.now _
  unfold impl_changeCode.f changeC
  refine ev_pos h0 (ev_pos h1 (ev_ite (fun h2 => ?_) (fun h2 => ?_)))
  · rw [bit_rd l (by omega) (rd n i) (by omega) (by omega)]
    refine ev_pos (by omega) ?_
    by_cases h3 : rd l (rd n i) = 70
    · rw [if_pos h3, if_neg (by simp [h3])]
      exact hj
    · rw [if_neg h3, if_pos ⟨by omega, h3⟩]
      refine Ev.step (fun k => by rw [impl_changeCode.j0]) ?_
      exact ev_pos (by rfl) (Ev.now _)
  · rw [if_neg (by omega)]
    exact hj
theorem spec_change (s : ByteArray) (hs : bytesOf s = l) : Ev (fun k => spec_l20Change.f k n ys s i) (if changeC n ys l i = 0 then strOfNums (flipL l i) else (⟨#[]⟩ : ByteArray), changeC n ys l i) := by
  have hfew := h.few
  have hlen := h.len
  have hnd := h.need_in i h0 h1
  have hsz : s.size = l.length := by rw [← hs, bytes_length]
  have hfb : flipB s i = flipL l i := by unfold flipB; rw [bt_rd, hs]
  have hb2 : bytesOf (strOfNums (flipL l i)) = flipL l i := strOf_bytes (h.flip i).fast
  unfold spec_l20Change.f changeC
  rw [bt_rd, hs, hfb]
  refine ev_pos ⟨h0, h1, by omega, by omega, by omega⟩ (ev_ite (fun h2 => ?_) (fun h2 => ?_))
  · rw [if_pos h2, if_neg (by decide)]
    exact Ev.now _
  · rw [if_neg h2]
    have hlo := spec_loose n ys (strOfNums (flipL l i)) (by rw [strOfNums_size, flip_len, hlen]; exact h.lines)
    rw [hb2] at hlo
    have hhas := looseF_has (heldL (flipL l i) ys) 0
    refine Ev.bind hlo (ev_ite (fun h3 => ?_) (fun h3 => ?_))
    · rw [decide_eq_true h3] at hhas
      rw [if_pos hhas.symm, if_neg (by decide)]
      exact Ev.now _
    · rw [decide_eq_false h3] at hhas
      rw [← hhas, if_neg (show ¬ false = true by simp), if_pos rfl]
      exact Ev.now _
end
theorem needs_of {n : List Int} : ∀ (xs p : List Int) (m : Int), n = p ++ xs → needsB m (p.length : Int) xs = true → ∀ i : Nat, p.length ≤ i → i < n.length → -1 ≤ rd n (i : Int) ∧ rd n (i : Int) < m := by
  intro xs
  induction xs with
  | nil => intro p m hp _ i h1 h2; rw [hp, List.append_nil] at h2; omega
  | cons x xs ih =>
    intro p m hp h i h1 h2
    rw [needsB, Bool.and_eq_true] at h
    by_cases e : i = p.length
    · subst e
      have hx : rd n (p.length : Int) = x := by rw [hp]; exact rd_mid p x xs
      have h3 := h.1
      simp only [needB, Bool.and_eq_true, decide_eq_true_eq] at h3
      rw [hx]
      omega
    · exact ih (p ++ [x]) m (by rw [hp]; simp) (by
        have hz : ((p ++ [x]).length : Int) = (p.length : Int) + 1 := by simp
        rw [hz]
        exact h.2) i (by rw [List.length_append, List.length_singleton]; omega) h2
theorem rise_of (m : Int) : ∀ (xs : List Int) (pv : Option Int), riseB m pv xs = true → ∀ x ∈ xs, 0 ≤ x ∧ x < m := by
  intro xs
  induction xs with
  | nil => intro _ _ x hx; simp at hx
  | cons y xs ih =>
    intro pv h x hx
    rw [riseB, Bool.and_eq_true] at h
    rcases List.mem_cons.1 hx with rfl | hx
    · have h3 := h.1
      simp only [lineB, Bool.and_eq_true, decide_eq_true_eq] at h3
      omega
    · exact ih _ h.2 x hx
theorem deckOk_of (n : List Int) (ys : List (List Int)) (s : ByteArray) (hg : GoodDeck n ys) (h : codeD n ys s = 0) : DeckOk n ys (bytesOf s) := by
  unfold codeD at h
  split at h
  · rename_i hd
    split at h
    · rename_i hst
      simp only [deckB, Bool.and_eq_true, decide_eq_true_eq] at hd
      simp only [stateB, Bool.and_eq_true, decide_eq_true_eq, List.all_eq_true, fastB, Bool.or_eq_true] at hst
      have hbl := bytes_length s
      refine ⟨by omega, by omega, fun i hi => needs_of n [] _ rfl hd.2.2.1 i (by simp) hi, ⟨hg.2.1, fun r hr => ⟨(hg.2.2 r hr).1, ?_⟩⟩, hst.2⟩
      have hy := List.all_eq_true.1 hd.2.2.2 r hr
      rw [yardB, Bool.and_eq_true] at hy
      exact rise_of _ r none hy.2
    · simp at h
  · simp at h
end Go.Proofs.YtfkiamccipoioaaB
end

section
/- HeldBy, LooseYards, ChangesOf, of both; the marks of a deck. -/
namespace Go.Proofs.YtfkiamccipoioaaB
open Go.RowKit Go.Proofs.YtfkiamccipoioaaW.PrintWords Go.Proofs.YtfkiamccipoioaaW.PrintLast Go.Proofs.YtfkiamccipoioaaW.PrintMore Go.Proofs.Ytfkiamccipoioaa.P

section
variable {n : List Int} {ys : List (List Int)} {s : ByteArray} (hok : DeckOk n ys (bytesOf s))
include hok
theorem DeckOk.size : s.size = n.length := by rw [← hok.len]; exact (bytes_length s).symm
end
/-- The lines that may change. -/
def chF (n : List Int) (ys : List (List Int)) (l : List Int) : Nat → Nat → List Int
  | 0, _ => []
  | d + 1, i => if changeC n ys l (i : Int) = 0 then (i : Int) :: chF n ys l d (i + 1) else chF n ys l d (i + 1)
theorem chF_length (n : List Int) (ys : List (List Int)) (l : List Int) : ∀ (d i : Nat), (chF n ys l d i).length ≤ d := by
  intro d
  induction d with
  | zero => intro i; exact Nat.le_refl _
  | succ d ih =>
    intro i
    have := ih (i + 1)
    rw [chF]
    split
    · rw [List.length_cons]; omega
    · omega
section
variable {n : List Int} {ys : List (List Int)} {s : ByteArray} (hok : DeckOk n ys (bytesOf s))
include hok
theorem changes_spec : ∀ (d i : Nat) (acc : List Int), i + d = n.length → acc.length ≤ i → Ev (fun k => spec_l20Changes.l0 k s acc (i : Int) n ys) (acc ++ chF n ys (bytesOf s) d i) := by
  have hfew := hok.few
  have hsz := hok.size
  intro d
  induction d with
  | zero =>
    intro i acc hi _
    refine Ev.step (fun k => by rw [spec_l20Changes.l0]) (ev_neg (by omega) (ev_of (Ev.now _) ?_))
    rw [chF, List.append_nil]
  | succ d ih =>
    intro i acc hi ha
    have hw : wrap64 ((i : Int) + 1) = ((i + 1 : Nat) : Int) := by rw [wrap_small (by omega) (by omega)]; omega
    refine Ev.step (fun k => by rw [spec_l20Changes.l0]) (ev_pos (by omega) (Ev.bind (spec_change hok (i : Int) (by omega) (by omega) s rfl) ?_))
    rw [hw]
    by_cases h2 : changeC n ys (bytesOf s) (i : Int) = 0
    · have h3 := ih (i + 1) (acc ++ [(i : Int)]) (by omega) (by rw [List.length_append, List.length_singleton]; omega)
      rw [List.append_assoc, List.singleton_append] at h3
      rw [show chF n ys (bytesOf s) (d + 1) i = (i : Int) :: chF n ys (bytesOf s) d (i + 1) by rw [chF, if_pos h2]]
      exact ev_pos h2 (ev_pos (by omega) h3)
    · rw [show chF n ys (bytesOf s) (d + 1) i = chF n ys (bytesOf s) d (i + 1) by rw [chF, if_neg h2]]
      exact ev_neg h2 (ih (i + 1) acc (by omega) (by omega))
end
end Go.Proofs.YtfkiamccipoioaaB
end

section
/- All states that are reached, of both: the same states in the same order. -/
namespace Go.Proofs.YtfkiamccipoioaaB
open Go.RowKit Go.Proofs.YtfkiamccipoioaaW.PrintWords Go.Proofs.YtfkiamccipoioaaW.PrintLast Go.Proofs.YtfkiamccipoioaaW.PrintMore Go.Proofs.Ytfkiamccipoioaa.P

def Fast (l : List Int) : Prop := ∀ c ∈ l, c = 70 ∨ c = 76
theorem setN_inj : ∀ (a b : List Int), a.length = b.length → Fast a → Fast b → setN a = setN b → a = b := by
  intro a
  induction a with
  | nil => intro b hl _ _ _; exact (List.length_eq_zero_iff.1 hl.symm).symm
  | cons x a ih =>
    intro b hl ha hb h
    cases b with
    | nil => simp at hl
    | cons y b =>
      rw [List.length_cons, List.length_cons] at hl
      rw [setN, setN] at h
      have hx := ha x List.mem_cons_self
      have hy := hb y List.mem_cons_self
      have hxy : x = y ∧ setN a = setN b := by
        rcases hx with rfl | rfl <;> rcases hy with rfl | rfl <;> simp at h ⊢ <;> omega
      rw [hxy.1, ih b (by omega) (fun c hc => ha c (List.mem_cons_of_mem _ hc)) (fun c hc => hb c (List.mem_cons_of_mem _ hc)) hxy.2]
/-- The number of a state, as the reference tells it. -/
def numN (l : List Int) : Nat := setN l.reverse
theorem numN_snoc (p : List Int) (c : Int) : numN (p ++ [c]) = 2 * numN p + (if c = 70 then 1 else 0) := by
  unfold numN
  rw [List.reverse_append, List.reverse_cons, List.reverse_nil, List.nil_append, List.singleton_append, setN]
theorem numN_lt (l : List Int) : numN l < 2 ^ l.length := by
  have := setN_lt l.reverse
  rw [List.length_reverse] at this
  exact this
theorem numN_inj {a b : List Int} (hl : a.length = b.length) (ha : Fast a) (hb : Fast b) (h : numN a = numN b) : a = b := by
  have := setN_inj a.reverse b.reverse (by rw [List.length_reverse, List.length_reverse]; exact hl) (fun c hc => ha c (List.mem_reverse.1 hc)) (fun c hc => hb c (List.mem_reverse.1 hc)) h
  exact List.reverse_inj.1 this
theorem number_loop (s : ByteArray) (hs : s.size ≤ 61) : ∀ (xs p : List Int), bytesOf s = p ++ xs → Ev (fun k => spec_l20Number.l0 k s ((numN p : Nat) : Int) (p.length : Int)) ((numN (bytesOf s) : Nat) : Int) := by
  intro xs
  have hb := bytes_length s
  induction xs with
  | nil =>
    intro p hp
    rw [List.append_nil] at hp
    refine Ev.step (fun k => by rw [spec_l20Number.l0]) ?_
    refine ev_neg (by rw [← hp]; omega) (ev_of (Ev.now _) ?_)
    rw [hp]
  | cons x xs ih =>
    intro p hp
    have hpl : (p.length : Int) + (xs.length + 1) = s.size := by rw [← hb, hp]; simp
    have hx : bt s (p.length : Int) = x := by rw [bt_rd, hp]; exact rd_mid p x xs
    have hlt := numN_lt p
    have hp2 : 2 ^ p.length ≤ 2 ^ 60 := Nat.pow_le_pow_right (by decide) (by omega)
    have hp3 : (2 : Nat) ^ 60 = 1152921504606846976 := by decide
    have hw : wrap64 ((p.length : Int) + 1) = ((p ++ [x]).length : Int) := wrap_next p x (by omega)
    have hw2 : wrap64 (((numN p : Nat) : Int) * 2) = ((numN p : Nat) : Int) * 2 := wrap_small (by omega) (by omega)
    have hw3 : wrap64 (((numN p : Nat) : Int) * 2 + 1) = ((numN p : Nat) : Int) * 2 + 1 := wrap_small (by omega) (by omega)
    have hi := ih (p ++ [x]) (by rw [hp]; simp)
    rw [numN_snoc] at hi
    refine Ev.step (fun k => by rw [spec_l20Number.l0]) ?_
    refine ev_pos (by omega) (ev_pos (by omega) ?_)
    rw [hx, hw, hw2, hw3]
    by_cases h : x = 70
    · rw [if_pos h] at hi
      exact ev_pos h (by rw [show ((2 * numN p + 1 : Nat) : Int) = ((numN p : Nat) : Int) * 2 + 1 by omega] at hi; exact hi)
    · rw [if_neg h] at hi
      exact ev_neg h (by rw [show ((2 * numN p + 0 : Nat) : Int) = ((numN p : Nat) : Int) * 2 by omega] at hi; exact hi)
theorem number_ev (s : ByteArray) (hs : s.size ≤ 61) : Ev (fun k => spec_l20Number.f k s) ((numN (bytesOf s) : Nat) : Int) := by
  unfold spec_l20Number.f
  exact number_loop s hs (bytesOf s) [] rfl
theorem nodup_bound : ∀ (N : Nat) (l : List Nat), l.Nodup → (∀ x ∈ l, x < N) → l.length ≤ N := by
  intro N
  induction N with
  | zero =>
    intro l _ h
    cases l with
    | nil => exact Nat.le_refl _
    | cons x l => exact absurd (h x List.mem_cons_self) (by omega)
  | succ N ih =>
    intro l hd h
    by_cases hm : N ∈ l
    · have h1 := List.length_erase_of_mem hm
      have h2 := ih (l.erase N) (hd.erase N) (fun x hx => by
        have h3 := (List.Nodup.mem_erase_iff hd).1 hx
        have := h x h3.2
        have := h3.1
        omega)
      have := List.length_pos_of_mem hm
      omega
    · have := ih l hd (fun x hx => by
        have := h x hx
        have : x ≠ N := fun e => hm (e ▸ hx)
        omega)
      omega
/-- What the reference remembers. -/
def seenL (L : List (List Int)) : List Bool := (List.range 256).map fun x => decide (x ∈ L.map numN)
theorem seenL_length (L : List (List Int)) : (seenL L).length = 256 := by unfold seenL; rw [List.length_map, List.length_range]
theorem seenL_get (L : List (List Int)) (i : Nat) (h : i < (seenL L).length) : (seenL L)[i] = decide (i ∈ L.map numN) := by simp [seenL]
theorem seenL_at (L : List (List Int)) (x : Nat) (h : x < 256) : rdOf false (seenL L) (x : Int) = decide (x ∈ L.map numN) := by
  have hx : x < (seenL L).length := by rw [seenL_length]; exact h
  have e : rdOf false (seenL L) (x : Int) = (seenL L)[x] := by
    unfold rdOf
    rw [Int.toNat_natCast, List.getD_eq_getElem?_getD, List.getElem?_eq_getElem hx]
    rfl
  rw [e, seenL_get]
theorem seenL_set (L : List (List Int)) (l : List Int) (_h : numN l < 256) : (seenL L).set (numN l) true = seenL (L ++ [l]) := by
  apply List.ext_getElem
  · rw [List.length_set, seenL_length, seenL_length]
  · intro i h1 h2
    rw [List.getElem_set, seenL_get, seenL_get, List.map_append, List.map_cons, List.map_nil]
    by_cases hi : numN l = i
    · rw [if_pos hi]
      symm
      rw [decide_eq_true_iff, List.mem_append]
      exact .inr (by rw [hi]; exact List.mem_singleton_self _)
    · rw [if_neg hi]
      congr 1
      apply propext
      rw [List.mem_append, List.mem_singleton]
      constructor
      · exact fun h => .inl h
      · rintro (h | h)
        · exact h
        · exact absurd h.symm hi
end Go.Proofs.YtfkiamccipoioaaB
end
