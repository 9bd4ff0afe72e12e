/- The law FnExactChangesOf: for every input it returns true and its arguments read as before: the row, out of its plain statement and the printed contracts. No condition beside the form's own. -/
import Derived.Laws.BitsLemmas
import Derived.Test.YtfkiamccipoioaaRows
import Derived.WalkKit
import Derived.ProofKit
import Derived.OpenShut
import Derived.ShutString
import Derived.ChangeOld
import Derived.Below
import Derived.SizedLaws
import Derived.Test.YtfkiamccipoioaaZFnExactChangesOf10
section
/- Decks and states: whether they are valid: of both. -/
namespace Go.Proofs.YtfkiamccipoioaaB
open Go.RowKit Go.Proofs.YtfkiamccipoioaaW.PrintWords Go.Proofs.YtfkiamccipoioaaW.PrintLast Go.Proofs.Ytfkiamccipoioaa.P

theorem in_some (a lo hi : Int) : spec_l00In.f a lo hi = some (decide (lo ≤ a) && decide (a ≤ hi)) := by
  unfold spec_l00In.f
  by_cases h : a ≥ lo
  · rw [if_pos h, decide_eq_true (show lo ≤ a from h)]; rfl
  · rw [if_neg h, decide_eq_false (show ¬ lo ≤ a from h)]; rfl
theorem within_some (a lo hi : Int) : impl_within.f a lo hi = some (decide (lo ≤ a) && decide (a ≤ hi)) := by
  unfold impl_within.f
  by_cases h : a ≥ lo
  · rw [if_pos h, decide_eq_true (show lo ≤ a from h)]; rfl
  · rw [if_neg h, decide_eq_false (show ¬ lo ≤ a from h)]; rfl
def needB (m i x : Int) : Bool := (decide (-1 ≤ x) && decide (x ≤ m - 1)) && !(decide (x = i))
def needsB (m : Int) : Int → List Int → Bool
  | _, [] => true
  | i, x :: xs => needB m i x && needsB m (i + 1) xs
def ltO : Option Int → Int → Bool
  | none, _ => true
  | some y, x => decide (y < x)
def lineB (m : Int) (pv : Option Int) (x : Int) : Bool := (decide (0 ≤ x) && decide (x ≤ m - 1)) && ltO pv x
def riseB (m : Int) : Option Int → List Int → Bool
  | _, [] => true
  | pv, x :: xs => lineB m pv x && riseB m (some x) xs
def yardB (m : Int) (r : List Int) : Bool := !(decide (r.length = 0)) && riseB m none r
def deckB (n : List Int) (ys : List (List Int)) : Bool := (decide (1 ≤ (n.length : Int)) && decide ((n.length : Int) ≤ 8)) && (decide ((ys.length : Int) ≤ 5) && (needsB (n.length : Int) 0 n && ys.all (yardB (n.length : Int))))
def lastO (p : List Int) : Option Int := p.getLast?
theorem lastO_snoc (p : List Int) (x : Int) : lastO (p ++ [x]) = some x := by simp [lastO]
theorem lastO_split (p : List Int) : p = [] ∨ ∃ q y, p = q ++ [y] := by
  by_cases h : p = []
  · exact .inl h
  · exact .inr ⟨p.dropLast, p.getLast h, (List.dropLast_concat_getLast h).symm⟩
theorem spec_rise_loop (m : Int) (r : List Int) (hr : r.length ≤ 1048576) : ∀ (xs p : List Int), r = p ++ xs → Ev (fun k => spec_l00Rises.l0 k r 0 (m - 1) (p.length : Int)) (riseB m (lastO p) xs) := by
  intro xs
  induction xs with
  | nil =>
    intro p hp
    refine Ev.step (fun k => by rw [spec_l00Rises.l0]) ?_
    exact ev_neg (by rw [hp, List.append_nil]; omega) (Ev.now _)
  | cons x xs ih =>
    intro p hp
    have hpl : (p.length : Int) + (xs.length + 1) = r.length := by rw [hp]; simp
    have hx : rd r (p.length : Int) = x := by rw [hp]; exact rd_mid p x xs
    have hw : wrap64 ((p.length : Int) + 1) = ((p ++ [x]).length : Int) := wrap_next p x (by omega)
    have hi := ih (p ++ [x]) (by rw [hp]; simp)
    rw [lastO_snoc] at hi
    refine Ev.step (fun k => by rw [spec_l00Rises.l0]) ?_
    refine ev_pos (by omega) (ev_pos (by omega) ?_)
    rw [hx, hw]
    refine ev_bind0 (in_some _ _ _) (ev_ite (fun h => ?_) (fun h => ?_))
    · rcases lastO_split p with rfl | ⟨q, y, rfl⟩
      · refine ev_neg (by simp) (ev_of hi ?_)
        rw [riseB, lineB, h]
        rfl
      · have hw2 : wrap64 (((q ++ [y]).length : Int) - 1) = (q.length : Int) := (wrap_small (by omega) (by omega)).trans (by simp)
        have hy : rd r (q.length : Int) = y := by rw [hp, List.append_assoc]; exact rd_mid q y (x :: xs)
        have hql : ((q ++ [y]).length : Int) = q.length + 1 := by simp
        rw [hw2, hy]
        refine ev_pos (by omega) (ev_pos (by omega) (ev_pos (by omega) (ev_ite (fun h2 => ?_) (fun h2 => ?_))))
        · refine ev_of (Ev.now _) ?_
          have : decide (y < x) = false := decide_eq_false (by omega)
          rw [lastO_snoc, riseB, lineB, h]
          simp [this, ltO]
        · refine ev_of hi ?_
          rw [lastO_snoc, riseB, lineB, h]
          have : decide (y < x) = true := decide_eq_true (by omega)
          simp [this, ltO]
    · refine ev_of (Ev.now _) ?_
      simp only [Bool.not_eq_true] at h
      rw [riseB, lineB, h]
      rfl
theorem impl_rise_loop (m : Int) (hm : m ≤ 1048576) (hm0 : 0 ≤ m) (ys : List (List Int)) (j : Nat) (r : List Int) (hr : r.length ≤ 1048576) {b : Bool} (hj : j ≤ 1048576) (hnext : Ev (fun k => impl_ValidDeck.l1 k m ys (ys.length : Int) ((j : Int) + 1)) b) : ∀ (xs p : List Int), r = p ++ xs → Ev (fun k => impl_ValidDeck.l2 k m r ys (ys.length : Int) (j : Int) r (r.length : Int) (p.length : Int)) (riseB m (lastO p) xs && b) := by
  intro xs
  induction xs with
  | nil =>
    intro p hp
    refine Ev.step (fun k => by rw [impl_ValidDeck.l2]) ?_
    refine ev_neg (by rw [hp, List.append_nil]; omega) ?_
    rw [wrap_small (i := (j : Int) + 1) (by omega) (by omega)]
    refine ev_of hnext ?_
    rw [riseB, Bool.true_and]
  | cons x xs ih =>
    intro p hp
    have hpl : (p.length : Int) + (xs.length + 1) = r.length := by rw [hp]; simp
    have hx : rd r (p.length : Int) = x := by rw [hp]; exact rd_mid p x xs
    have hw : wrap64 ((p.length : Int) + 1) = ((p ++ [x]).length : Int) := wrap_next p x (by omega)
    have hwm : wrap64 (m - 1) = m - 1 := wrap_small (by omega) (by omega)
    have hi := ih (p ++ [x]) (by rw [hp]; simp)
    rw [lastO_snoc] at hi
    refine Ev.step (fun k => by rw [impl_ValidDeck.l2]) ?_
    refine ev_pos (by omega) (ev_pos (by omega) (ev_pos (by omega) ?_))
    rw [hx, hw, hwm]
    refine ev_bind0 (within_some _ _ _) (ev_ite (fun h => ?_) (fun h => ?_))
    · rcases lastO_split p with rfl | ⟨q, y, rfl⟩
      · refine ev_neg (by simp) (ev_of hi ?_)
        rw [riseB, lineB, h]
        rfl
      · have hw2 : wrap64 (((q ++ [y]).length : Int) - 1) = (q.length : Int) := (wrap_small (by omega) (by omega)).trans (by simp)
        have hy : rd r (q.length : Int) = y := by rw [hp, List.append_assoc]; exact rd_mid q y (x :: xs)
        have hql : ((q ++ [y]).length : Int) = q.length + 1 := by simp
        rw [hw2, hy]
        refine ev_pos (by omega) (ev_pos (by omega) (ev_pos (by omega) (ev_ite (fun h2 => ?_) (fun h2 => ?_))))
        · refine ev_of (Ev.now _) ?_
          have : decide (y < x) = false := decide_eq_false (by omega)
          rw [lastO_snoc, riseB, lineB, h]
          simp [this, ltO]
        · refine ev_of hi ?_
          have : decide (y < x) = true := decide_eq_true (by omega)
          rw [lastO_snoc, riseB, lineB, h]
          simp [this, ltO]
    · refine ev_of (Ev.now _) ?_
      simp only [Bool.not_eq_true] at h
      rw [riseB, lineB, h]
      rfl
theorem spec_yards (m : Int) (hm : m ≤ 1048576) (hm0 : 0 ≤ m) (n : List Int) (ys : List (List Int)) (hl : ys.length ≤ 1048576) (hs : ∀ r ∈ ys, r.length ≤ 1048576) : ∀ (xs p : List (List Int)), ys = p ++ xs → Ev (fun k => spec_l20Ok.l1 k m (p.length : Int) n ys) (xs.all (yardB m)) := by
  intro xs
  induction xs with
  | nil =>
    intro p hp
    refine Ev.step (fun k => by rw [spec_l20Ok.l1]) ?_
    exact ev_neg (by rw [hp, List.append_nil]; omega) (Ev.now _)
  | cons x xs ih =>
    intro p hp
    have hpl : (p.length : Int) + (xs.length + 1) = ys.length := by rw [hp]; simp
    have hx : rd_L1 ys (p.length : Int) = x := by rw [hp]; exact rdL_mid p x xs
    have hw : wrap64 ((p.length : Int) + 1) = ((p ++ [x]).length : Int) := wrap_next p x (by omega)
    have hwm : wrap64 (m - 1) = m - 1 := wrap_small (by omega) (by omega)
    have hi := ih (p ++ [x]) (by rw [hp]; simp)
    refine Ev.step (fun k => by rw [spec_l20Ok.l1]) ?_
    refine ev_pos (by omega) (ev_pos (by omega) ?_)
    rw [hx, hw, hwm, List.all_cons]
    refine ev_ite (fun h => ?_) (fun h => ?_)
    · refine ev_of (Ev.now _) ?_
      rw [yardB, decide_eq_true (by omega)]
      rfl
    · have hr : Ev (fun k => spec_l00Rises.f k x 0 (m - 1)) (riseB m none x) := by
        unfold spec_l00Rises.f
        exact spec_rise_loop m x (hs x (by rw [hp]; simp)) x [] rfl
      refine Ev.bind hr (ev_ite (fun h2 => ?_) (fun h2 => ?_))
      · refine ev_of hi ?_
        rw [yardB, decide_eq_false (by omega), h2]
        rfl
      · refine ev_of (Ev.now _) ?_
        simp only [Bool.not_eq_true] at h2
        rw [yardB, h2, Bool.and_false, Bool.false_and]
theorem impl_yards (m : Int) (hm : m ≤ 1048576) (hm0 : 0 ≤ m) (ys : List (List Int)) (hl : ys.length ≤ 1048576) (hs : ∀ r ∈ ys, r.length ≤ 1048576) : ∀ (xs p : List (List Int)), ys = p ++ xs → Ev (fun k => impl_ValidDeck.l1 k m ys (ys.length : Int) (p.length : Int)) (xs.all (yardB m)) := by
  intro xs
  induction xs with
  | nil =>
    intro p hp
    refine Ev.step (fun k => by rw [impl_ValidDeck.l1]) ?_
    exact ev_neg (by rw [hp, List.append_nil]; omega) (Ev.now _)
  | cons x xs ih =>
    intro p hp
    have hpl : (p.length : Int) + (xs.length + 1) = ys.length := by rw [hp]; simp
    have hx : rd_L1 ys (p.length : Int) = x := by rw [hp]; exact rdL_mid p x xs
    have hi := ih (p ++ [x]) (by rw [hp]; simp)
    have hz : ((p ++ [x]).length : Int) = (p.length : Int) + 1 := by simp
    rw [hz] at hi
    refine Ev.step (fun k => by rw [impl_ValidDeck.l1]) ?_
    refine ev_pos (by omega) (ev_pos (by omega) (ev_pos (by omega) ?_))
    rw [hx, List.all_cons]
    refine ev_ite (fun h => ?_) (fun h => ?_)
    · refine ev_of (Ev.now _) ?_
      rw [yardB, decide_eq_true (by omega)]
      rfl
    · refine ev_of (impl_rise_loop m hm hm0 ys p.length x (hs x (by rw [hp]; simp)) (by omega) hi x [] rfl) ?_
      rw [yardB, decide_eq_false (by omega)]
      rfl
theorem spec_needs (n : List Int) (ys : List (List Int)) (hn : n.length ≤ 1048576) {b : Bool} (hnext : Ev (fun k => spec_l20Ok.l1 k (n.length : Int) 0 n ys) b) : ∀ (xs p : List Int), n = p ++ xs → Ev (fun k => spec_l20Ok.l0 k (n.length : Int) (p.length : Int) n ys) (needsB (n.length : Int) (p.length : Int) xs && b) := by
  intro xs
  induction xs with
  | nil =>
    intro p hp
    refine Ev.step (fun k => by rw [spec_l20Ok.l0]) ?_
    refine ev_neg (by rw [hp, List.append_nil]; omega) (ev_of hnext ?_)
    rw [needsB, Bool.true_and]
  | cons x xs ih =>
    intro p hp
    have hpl : (p.length : Int) + (xs.length + 1) = n.length := by rw [hp]; simp
    have hx : rd n (p.length : Int) = x := by rw [hp]; exact rd_mid p x xs
    have hw : wrap64 ((p.length : Int) + 1) = ((p ++ [x]).length : Int) := wrap_next p x (by omega)
    have hwm : wrap64 ((n.length : Int) - 1) = (n.length : Int) - 1 := wrap_small (by omega) (by omega)
    have hz : ((p ++ [x]).length : Int) = (p.length : Int) + 1 := by simp
    have hi := ih (p ++ [x]) (by rw [hp]; simp)
    refine Ev.step (fun k => by rw [spec_l20Ok.l0]) ?_
    refine ev_pos (by omega) (ev_pos (by omega) (ev_pos (by omega) ?_))
    rw [hx, hw, hwm, needsB, needB]
    refine ev_bind0 (in_some _ _ _) (ev_ite (fun h => ?_) (fun h => ?_))
    · refine ev_ite (fun h2 => ?_) (fun h2 => ?_)
      · refine ev_of (Ev.now _) ?_
        rw [h, decide_eq_true h2]
        rfl
      · refine ev_of hi ?_
        rw [h, decide_eq_false h2, hz]
        rfl
    · refine ev_of (Ev.now _) ?_
      simp only [Bool.not_eq_true] at h
      rw [h]
      rfl
theorem impl_needs (n : List Int) (ys : List (List Int)) (hn : n.length ≤ 1048576) {b : Bool} (hnext : Ev (fun k => impl_ValidDeck.l1 k (n.length : Int) ys (ys.length : Int) 0) b) : ∀ (xs p : List Int), n = p ++ xs → Ev (fun k => impl_ValidDeck.l0 k (n.length : Int) n (n.length : Int) (p.length : Int) n ys) (needsB (n.length : Int) (p.length : Int) xs && b) := by
  intro xs
  induction xs with
  | nil =>
    intro p hp
    refine Ev.step (fun k => by rw [impl_ValidDeck.l0]) ?_
    refine ev_neg (by rw [hp, List.append_nil]; omega) (ev_of hnext ?_)
    rw [needsB, Bool.true_and]
  | cons x xs ih =>
    intro p hp
    have hpl : (p.length : Int) + (xs.length + 1) = n.length := by rw [hp]; simp
    have hx : rd n (p.length : Int) = x := by rw [hp]; exact rd_mid p x xs
    have hw : wrap64 ((p.length : Int) + 1) = ((p ++ [x]).length : Int) := wrap_next p x (by omega)
    have hwm : wrap64 ((n.length : Int) - 1) = (n.length : Int) - 1 := wrap_small (by omega) (by omega)
    have hz : ((p ++ [x]).length : Int) = (p.length : Int) + 1 := by simp
    have hi := ih (p ++ [x]) (by rw [hp]; simp)
    refine Ev.step (fun k => by rw [impl_ValidDeck.l0]) ?_
    refine ev_pos (by omega) (ev_pos (by omega) (ev_pos (by omega) ?_))
    rw [hx, hw, hwm, needsB, needB]
    refine ev_bind0 (within_some _ _ _) (ev_ite (fun h => ?_) (fun h => ?_))
    · refine ev_ite (fun h2 => ?_) (fun h2 => ?_)
      · refine ev_of (Ev.now _) ?_
        rw [h, decide_eq_true h2]
        rfl
      · refine ev_of hi ?_
        rw [h, decide_eq_false h2, hz]
        rfl
    · refine ev_of (Ev.now _) ?_
      simp only [Bool.not_eq_true] at h
      rw [h]
      rfl
section
variable (n : List Int) (ys : List (List Int)) (hg : GoodDeck n ys)
include hg
theorem spec_deck : Ev (fun k => spec_l20Ok.f k n ys) (deckB n ys) := by
  have hn := hg.1.1
  have hj : ∀ b : Bool, b = true ∨ b = false → ∀ c : Bool, Ev (fun k => spec_l20Ok.j0 k (n.length : Int) true n ys) false := fun _ _ _ => Ev.step (fun k => by rw [spec_l20Ok.j0]) (ev_pos rfl (Ev.now _))
  unfold spec_l20Ok.f deckB
  refine ev_bind0 (in_some _ _ _) (ev_ite (fun h => ?_) (fun h => ?_))
  · rw [h, Bool.true_and]
    by_cases h5 : (ys.length : Int) > 5
    · rw [decide_eq_true h5, decide_eq_false (by omega : ¬ (ys.length : Int) ≤ 5)]
      exact ev_of (hj true (.inl rfl) true) rfl
    · rw [decide_eq_false h5, decide_eq_true (by omega : (ys.length : Int) ≤ 5), Bool.true_and]
      refine Ev.step (fun k => by rw [spec_l20Ok.j0]) (ev_neg (by simp) ?_)
      exact spec_needs n ys hn (spec_yards (n.length : Int) (by omega) (by omega) n ys hg.2.1 (fun r hr => (hg.2.2 r hr).1) ys [] rfl) n [] rfl
  · simp only [Bool.not_eq_true] at h
    rw [h, Bool.false_and]
    exact hj true (.inl rfl) true
theorem impl_deck : Ev (fun k => impl_ValidDeck.f k n ys) (deckB n ys) := by
  have hn := hg.1.1
  have hj : Ev (fun k => impl_ValidDeck.j0 k (n.length : Int) true n ys) false := Ev.step (fun k => by rw [impl_ValidDeck.j0]) (ev_pos rfl (Ev.now _))
  unfold impl_ValidDeck.f deckB
  refine ev_ite (fun h => ?_) (fun h => ?_)
  · rw [decide_eq_false (by omega : ¬ 1 ≤ (n.length : Int))]
    exact hj
  · rw [decide_eq_true (by omega : 1 ≤ (n.length : Int)), Bool.true_and]
    refine ev_ite (fun h2 => ?_) (fun h2 => ?_)
    · rw [decide_eq_false (by omega : ¬ (n.length : Int) ≤ 8)]
      exact hj
    · rw [decide_eq_true (by omega : (n.length : Int) ≤ 8), Bool.true_and]
      by_cases h5 : (ys.length : Int) > 5
      · rw [decide_eq_true h5, decide_eq_false (by omega : ¬ (ys.length : Int) ≤ 5)]
        exact hj
      · rw [decide_eq_false h5, decide_eq_true (by omega : (ys.length : Int) ≤ 5), Bool.true_and]
        refine Ev.step (fun k => by rw [impl_ValidDeck.j0]) (ev_neg (by simp) ?_)
        exact impl_needs n ys hn (impl_yards (n.length : Int) (by omega) (by omega) ys hg.2.1 (fun r hr => (hg.2.2 r hr).1) ys [] rfl) n [] rfl
end
/-! ### states -/
def fastB (c : Int) : Bool := decide (c = 70) || decide (c = 76)
def stateB (n : List Int) (s : ByteArray) : Bool := decide ((s.size : Int) = (n.length : Int)) && (bytesOf s).all fastB
theorem spec_state_loop (n : List Int) (ys : List (List Int)) (s : ByteArray) (hs : s.size ≤ 1048576) : ∀ (xs p : List Int), bytesOf s = p ++ xs → Ev (fun k => spec_l20State.l0 k s (p.length : Int) n ys) (decide ((s.size : Int) = (n.length : Int)) && xs.all fastB) := by
  intro xs
  have hb := bytes_length s
  induction xs with
  | nil =>
    intro p hp
    rw [hp, List.append_nil] at hb
    refine Ev.step (fun k => by rw [spec_l20State.l0]) ?_
    refine ev_neg (by omega) (ev_of (Ev.now _) ?_)
    rw [List.all_nil, Bool.and_true]
    rfl
  | cons x xs ih =>
    intro p hp
    have hpl : (p.length : Int) + (xs.length + 1) = s.size := by rw [← hb, hp]; simp
    have hx : bt s (p.length : Int) = x := by rw [bt_rd, hp]; exact rd_mid p x xs
    have hw : wrap64 ((p.length : Int) + 1) = ((p ++ [x]).length : Int) := wrap_next p x (by omega)
    have hi := ih (p ++ [x]) (by rw [hp]; simp)
    refine Ev.step (fun k => by rw [spec_l20State.l0]) ?_
    refine ev_pos (by omega) (ev_pos (by omega) ?_)
    rw [hx, hw, List.all_cons]
    refine ev_ite (fun h => ?_) (fun h => ev_ite (fun h2 => ?_) (fun h2 => ?_))
    · refine ev_of hi ?_
      rw [fastB, decide_eq_true h]
      rfl
    · refine ev_of hi ?_
      rw [fastB, decide_eq_true h2, Bool.or_true, Bool.true_and]
    · refine ev_of (Ev.now _) ?_
      rw [fastB, decide_eq_false h, decide_eq_false h2]
      simp
theorem impl_state_loop (s : ByteArray) (hs : s.size ≤ 1048576) : ∀ (xs p : List Int), bytesOf s = p ++ xs → Ev (fun k => impl_isState.l0 k s (p.length : Int)) (xs.all fastB) := by
  intro xs
  have hb := bytes_length s
  induction xs with
  | nil =>
    intro p hp
    rw [hp, List.append_nil] at hb
    refine Ev.step (fun k => by rw [impl_isState.l0]) ?_
    exact ev_neg (by omega) (Ev.now _)
  | cons x xs ih =>
    intro p hp
    have hpl : (p.length : Int) + (xs.length + 1) = s.size := by rw [← hb, hp]; simp
    have hx : bt s (p.length : Int) = x := by rw [bt_rd, hp]; exact rd_mid p x xs
    have hw : wrap64 ((p.length : Int) + 1) = ((p ++ [x]).length : Int) := wrap_next p x (by omega)
    have hi := ih (p ++ [x]) (by rw [hp]; simp)
    refine Ev.step (fun k => by rw [impl_isState.l0]) ?_
    refine ev_pos (by omega) (ev_pos (by omega) ?_)
    rw [hx, hw, List.all_cons]
    refine ev_ite (fun h => ?_) (fun h => ev_ite (fun h2 => ?_) (fun h2 => ?_))
    · refine ev_of hi ?_
      rw [fastB, decide_eq_true h]
      rfl
    · refine ev_of hi ?_
      rw [fastB, decide_eq_true h2, Bool.or_true, Bool.true_and]
    · refine ev_of (Ev.now _) ?_
      rw [fastB, decide_eq_false h, decide_eq_false h2]
      simp
theorem spec_state (n : List Int) (ys : List (List Int)) (s : ByteArray) (hs : s.size ≤ 1048576) : Ev (fun k => spec_l20State.f k n ys s) (stateB n s) := by
  unfold spec_l20State.f stateB
  exact spec_state_loop n ys s hs (bytesOf s) [] rfl
theorem impl_state (n : List Int) (ys : List (List Int)) (s : ByteArray) (hs : s.size ≤ 1048576) : Ev (fun k => impl_isState.f k n ys s) (stateB n s) := by
  unfold impl_isState.f stateB
  refine ev_ite (fun h => ?_) (fun h => ?_)
  · rw [decide_eq_true h, Bool.true_and]
    exact impl_state_loop s hs (bytesOf s) [] rfl
  · rw [decide_eq_false h]
    exact Ev.now _
def codeD (n : List Int) (ys : List (List Int)) (s : ByteArray) : Int := if deckB n ys = true then (if stateB n s = true then 0 else 2) else 1
theorem spec_codeD (n : List Int) (ys : List (List Int)) (s : ByteArray) (hg : GoodDeck n ys) (hs : s.size ≤ 1048576) : Ev (fun k => spec_l20Code.f k n ys s) (codeD n ys s) := by
  unfold spec_l20Code.f codeD
  refine Ev.bind (spec_deck n ys hg) (ev_ite (fun h => ?_) (fun h => ?_))
  · rw [if_pos h]
    refine Ev.bind (spec_state n ys s hs) (ev_ite (fun h2 => ?_) (fun h2 => ?_))
    · rw [if_pos h2]; exact Ev.now _
    · rw [if_neg h2]; exact Ev.now _
  · rw [if_neg h]; exact Ev.now _
theorem impl_codeD (n : List Int) (ys : List (List Int)) (s : ByteArray) (hg : GoodDeck n ys) (hs : s.size ≤ 1048576) : Ev (fun k => impl_deckCode.f k n ys [s]) (codeD n ys s) := by
  unfold impl_deckCode.f codeD
  refine Ev.bind (impl_deck n ys hg) (ev_ite (fun h => ?_) (fun h => ?_))
  · rw [if_pos h]
    refine Ev.step (fun k => by rw [impl_deckCode.l0]) (ev_pos (by simp) (ev_pos (by omega) (ev_pos (by simp) ?_)))
    have e : rdOf ByteArray.empty [s] 0 = s := rfl
    rw [e]
    refine Ev.bind (impl_state n ys s hs) (ev_ite (fun h2 => ?_) (fun h2 => ?_))
    · rw [if_pos h2]
      exact Ev.step (fun k => by rw [impl_deckCode.l0]) (ev_neg (by simp [wrap64]) (Ev.now _))
    · rw [if_neg h2]; exact Ev.now _
  · rw [if_neg h]; exact Ev.now _
end Go.Proofs.YtfkiamccipoioaaB
end

section
/- States as lists of bytes and as sets of bits; what holds the yards; whether a line may be changed: of both. -/
namespace Go.Proofs.YtfkiamccipoioaaB
open Go.RowKit Go.Proofs.YtfkiamccipoioaaW.PrintWords Go.Proofs.YtfkiamccipoioaaW.PrintLast Go.Proofs.YtfkiamccipoioaaW.PrintMore Go.Proofs.Ytfkiamccipoioaa.P

/-! ### bits -/
theorem wraps_i64 (n : Int) (h0 : 0 ≤ n) (h1 : n < 2 ^ 62) : IntKind.i64.wrap n = n := by
  rw [IntKind.wrap_i64]
  omega
theorem bits_or64 (a b : Nat) (ha : a < 2 ^ 62) (hb : b < 2 ^ 62) : bits .or .i64 (a : Int) (b : Int) = ((a ||| b : Nat) : Int) := (bits_nat .i64 62 (by decide) wraps_i64 a b ha hb).2
theorem bits_and64 (a b : Nat) (ha : a < 2 ^ 62) (hb : b < 2 ^ 62) : bits .and .i64 (a : Int) (b : Int) = ((a &&& b : Nat) : Int) := (bits_nat .i64 62 (by decide) wraps_i64 a b ha hb).1
theorem bits_xor64 (a b : Nat) (ha : a < 2 ^ 62) (hb : b < 2 ^ 62) : bits .xor .i64 (a : Int) (b : Int) = ((a ^^^ b : Nat) : Int) := by
  have ha' : a % 2 ^ IntKind.i64.bits = a := Nat.mod_eq_of_lt (Nat.lt_of_lt_of_le ha (by decide))
  have hb' : b % 2 ^ IntKind.i64.bits = b := Nat.mod_eq_of_lt (Nat.lt_of_lt_of_le hb (by decide))
  simp only [bits, BitVec.ofInt_natCast, BitVec.toNat_xor, BitVec.toNat_ofNat, ha', hb']
  exact wraps_i64 _ (Int.natCast_nonneg _) (by exact_mod_cast Nat.xor_lt_two_pow ha hb)
theorem shl_one (i : Int) (_h0 : 0 ≤ i) (h1 : i < 62) : shl .i64 1 i = ((2 ^ i.toNat : Nat) : Int) := by
  have hb : IntKind.i64.bits = 64 := rfl
  unfold shl
  rw [Nat.min_eq_left (by omega), Int.one_mul]
  have e : (2 : Int) ^ i.toNat = ((2 ^ i.toNat : Nat) : Int) := by simp
  rw [e]
  refine wraps_i64 _ (Int.natCast_nonneg _) ?_
  have : 2 ^ i.toNat < 2 ^ 62 := Nat.pow_lt_pow_right (by decide) (by omega)
  exact_mod_cast this
theorem bit_of (a : Nat) (ha : a < 2 ^ 62) (i : Int) (_h0 : 0 ≤ i) (h1 : i < 62) : bits .and .i64 (shr .i64 (a : Int) i) 1 = if a.testBit i.toNat then 1 else 0 := by
  have hb : IntKind.i64.bits = 64 := rfl
  unfold shr
  rw [Nat.min_eq_left (by omega)]
  have e : (a : Int) / 2 ^ i.toNat = ((a / 2 ^ i.toNat : Nat) : Int) := by simp
  have e1 : (1 : Int) = ((1 : Nat) : Int) := rfl
  rw [e, e1, bits_and64 _ 1 (Nat.lt_of_le_of_lt (Nat.div_le_self _ _) ha) (by decide), Nat.and_one_is_mod, Nat.testBit_eq_decide_div_mod_eq]
  have := Nat.mod_lt (a / 2 ^ i.toNat) (by decide : 0 < 2)
  by_cases h : a / 2 ^ i.toNat % 2 = 1
  · rw [h]; simp
  · have : a / 2 ^ i.toNat % 2 = 0 := by omega
    rw [this]; simp
/-- A state's set: bit i is the line i. -/
def setN : List Int → Nat
  | [] => 0
  | c :: cs => 2 * setN cs + (if c = 70 then 1 else 0)
theorem setN_bit : ∀ (l : List Int) (i : Nat), (setN l).testBit i = decide (l.getD i 0 = 70) := by
  intro l
  induction l with
  | nil => intro i; simp [setN]
  | cons c cs ih =>
    intro i
    cases i with
    | zero =>
      rw [setN, Nat.testBit_zero, List.getD_cons_zero]
      by_cases h : c = 70
      · simp [h]
      · simp [h]
    | succ i =>
      rw [setN, Nat.testBit_succ, List.getD_cons_succ, ← ih i]
      congr 1
      split <;> omega
theorem setN_lt : ∀ l : List Int, setN l < 2 ^ l.length := by
  intro l
  induction l with
  | nil => decide
  | cons c cs ih =>
    rw [setN, List.length_cons, Nat.pow_succ]
    split <;> omega
theorem setN_small {l : List Int} (h : l.length ≤ 61) : setN l < 2 ^ 62 :=
  Nat.lt_of_lt_of_le (setN_lt l) (Nat.pow_le_pow_right (by decide) (by omega))
theorem setN_snoc (p : List Int) (c : Int) : setN (p ++ [c]) = setN p ||| (if c = 70 then 2 ^ p.length else 0) := by
  apply Nat.eq_of_testBit_eq
  intro i
  rw [setN_bit, Nat.testBit_or, setN_bit]
  by_cases hi : i < p.length
  · rw [List.getD_eq_getElem?_getD, List.getElem?_append_left hi, ← List.getD_eq_getElem?_getD]
    by_cases h : c = 70
    · rw [if_pos h, Nat.testBit_two_pow, decide_eq_false (show ¬ p.length = i by omega), Bool.or_false]
    · rw [if_neg h, Nat.zero_testBit, Bool.or_false]
  · have hp : (p.getD i 0) = 0 := by rw [List.getD_eq_getElem?_getD, List.getElem?_eq_none (by omega)]; rfl
    rw [hp, List.getD_eq_getElem?_getD, List.getElem?_append_right (by omega)]
    by_cases he : i = p.length
    · subst he
      by_cases h : c = 70
      · simp [h]
      · simp [h]
    · have : ([c] : List Int)[i - p.length]? = none := List.getElem?_eq_none (by simp; omega)
      rw [this]
      by_cases h : c = 70
      · rw [if_pos h, Nat.testBit_two_pow, decide_eq_false (show ¬ p.length = i by omega)]
        rfl
      · simp [h]
abbrev flipL (l : List Int) (i : Int) : List Int := l.set i.toNat (if rd l i = 70 then 76 else 70)
theorem setN_flip (l : List Int) (i : Int) (_h0 : 0 ≤ i) (h : i < (l.length : Int)) : setN (flipL l i) = setN l ^^^ 2 ^ i.toNat := by
  apply Nat.eq_of_testBit_eq
  intro j
  rw [setN_bit, Nat.testBit_xor, setN_bit, Nat.testBit_two_pow, List.getD_eq_getElem?_getD]
  have hr : rd l i = l.getD i.toNat 0 := rfl
  by_cases he : i.toNat = j
  · subst he
    rw [List.getElem?_set_self (by omega), Option.getD_some, hr]
    by_cases hc : l.getD i.toNat 0 = 70
    · rw [if_pos hc, decide_eq_true hc]; simp
    · rw [if_neg hc, decide_eq_false hc]; simp
  · rw [List.getElem?_set_ne he, ← List.getD_eq_getElem?_getD, decide_eq_false he, Bool.xor_false]
theorem bit_rd (l : List Int) (hl : l.length ≤ 61) (i : Int) (h0 : 0 ≤ i) (h1 : i < 62) : bits .and .i64 (shr .i64 ((setN l : Nat) : Int) i) 1 = if rd l i = 70 then 1 else 0 := by
  rw [bit_of _ (setN_small hl) i h0 h1, setN_bit]
  have hr : rd l i = l.getD i.toNat 0 := rfl
  rw [hr]
  by_cases h : l.getD i.toNat 0 = 70
  · rw [if_pos h, decide_eq_true h]; rfl
  · rw [if_neg h, decide_eq_false h]; rfl
theorem flip_bits (l : List Int) (hl : l.length ≤ 61) (i : Int) (h0 : 0 ≤ i) (h : i < (l.length : Int)) : bits .xor .i64 ((setN l : Nat) : Int) (shl .i64 1 i) = ((setN (flipL l i) : Nat) : Int) := by
  rw [shl_one i h0 (by omega), bits_xor64 _ _ (setN_small hl) (Nat.pow_lt_pow_right (by decide) (by omega)), setN_flip l i h0 h]
theorem set_loop (s : ByteArray) (hs : s.size ≤ 61) : ∀ (xs p : List Int), bytesOf s = p ++ xs → Ev (fun k => impl_setOf.l0 k s ((setN p : Nat) : Int) (p.length : Int)) ((setN (bytesOf s) : Nat) : Int) := by
  intro xs
  have hb := bytes_length s
  induction xs with
  | nil =>
    intro p hp
    rw [hp, List.append_nil] at hb
    refine Ev.step (fun k => by rw [impl_setOf.l0]) ?_
    refine ev_neg (by omega) (ev_of (Ev.now _) ?_)
    rw [hp, List.append_nil]
  | cons x xs ih =>
    intro p hp
    have hpl : (p.length : Int) + (xs.length + 1) = s.size := by rw [← hb, hp]; simp
    have hx : bt s (p.length : Int) = x := by rw [bt_rd, hp]; exact rd_mid p x xs
    have hw : wrap64 ((p.length : Int) + 1) = ((p ++ [x]).length : Int) := wrap_next p x (by omega)
    have hi := ih (p ++ [x]) (by rw [hp]; simp)
    rw [setN_snoc] at hi
    refine Ev.step (fun k => by rw [impl_setOf.l0]) ?_
    refine ev_pos (by omega) (ev_pos (by omega) ?_)
    rw [hx, hw]
    refine ev_ite (fun h => ?_) (fun h => ?_)
    · rw [if_pos h] at hi
      rw [shl_one _ (by omega) (by omega), Int.toNat_natCast, bits_or64 _ _ (setN_small (by omega)) (Nat.pow_lt_pow_right (by decide) (by omega))]
      exact hi
    · rw [if_neg h, Nat.or_zero] at hi
      exact hi
theorem set_ev (s : ByteArray) (hs : s.size ≤ 61) : Ev (fun k => impl_setOf.f k s) ((setN (bytesOf s) : Nat) : Int) := by
  unfold impl_setOf.f
  exact set_loop s hs (bytesOf s) [] rfl
/-! ### what holds the yards -/
def fastsL (l : List Int) (r : List Int) : Int := ((r.filter fun x => decide (rd l x = 70)).length : Int)
def heldL (l : List Int) (ys : List (List Int)) : List Int := ys.map (fastsL l)
theorem fastsL_snoc (l p : List Int) (x : Int) : fastsL l (p ++ [x]) = fastsL l p + if rd l x = 70 then 1 else 0 := by
  unfold fastsL
  rw [List.filter_append, List.length_append]
  by_cases h : rd l x = 70
  · rw [if_pos h, List.filter_cons, if_pos (decide_eq_true h)]; simp
  · rw [if_neg h, List.filter_cons, if_neg (by rw [decide_eq_false h]; simp)]; simp
theorem fastsL_le (l r : List Int) : 0 ≤ fastsL l r ∧ fastsL l r ≤ r.length := by
  unfold fastsL
  have := List.length_filter_le (fun x => decide (rd l x = 70)) r
  omega
def linesIn (m : Int) (ys : List (List Int)) : Prop := ys.length ≤ 1048576 ∧ ∀ r ∈ ys, r.length ≤ 1048576 ∧ ∀ x ∈ r, 0 ≤ x ∧ x < m
section
variable (n : List Int) (ys : List (List Int)) (l : List Int) (hl : l.length ≤ 61) (hy : linesIn (l.length : Int) ys)
include hl hy
theorem impl_row (j : Nat) (hj : j ≤ 1048576) (acc : List Int) (hacc : acc.length ≤ 1048576) (r : List Int) (hr : r ∈ ys) {b : List Int} (hnext : Ev (fun k => impl_heldBy.l0 k ((setN l : Nat) : Int) (acc ++ [fastsL l r]) ys (ys.length : Int) ((j : Int) + 1)) b) : ∀ (xs p : List Int), r = p ++ xs →
    Ev (fun k => impl_heldBy.l1 k ((setN l : Nat) : Int) acc (fastsL l p) ys (ys.length : Int) (j : Int) r (r.length : Int) (p.length : Int)) b := by
  intro xs
  obtain ⟨hrl, hrin⟩ := hy.2 r hr
  induction xs with
  | nil =>
    intro p hp
    have e : r = p := by rw [hp, List.append_nil]
    refine Ev.step (fun k => by rw [impl_heldBy.l1]) ?_
    refine ev_neg (by rw [e]; omega) (ev_pos (by omega) ?_)
    rw [wrap_small (i := (j : Int) + 1) (by omega) (by omega), ← e]
    exact hnext
  | cons x xs ih =>
    intro p hp
    have hpl : (p.length : Int) + (xs.length + 1) = r.length := by rw [hp]; simp
    have hx : rd r (p.length : Int) = x := by rw [hp]; exact rd_mid p x xs
    have hw : wrap64 ((p.length : Int) + 1) = ((p ++ [x]).length : Int) := wrap_next p x (by omega)
    have hxi := hrin x (by rw [hp]; simp)
    have hf := fastsL_le l p
    have hi := ih (p ++ [x]) (by rw [hp]; simp)
    rw [fastsL_snoc] at hi
    refine Ev.step (fun k => by rw [impl_heldBy.l1]) ?_
    refine ev_pos (by omega) (ev_pos (by omega) (ev_pos (by omega) ?_))
    rw [hx, hw]
    refine ev_pos hxi.1 ?_
    rw [bit_rd l hl x hxi.1 (by omega), wrap_small (i := fastsL l p + _) (by split <;> omega) (by split <;> omega)]
    exact hi
theorem impl_rows : ∀ (xs p : List (List Int)), ys = p ++ xs → Ev (fun k => impl_heldBy.l0 k ((setN l : Nat) : Int) (heldL l p) ys (ys.length : Int) (p.length : Int)) (heldL l ys) := by
  intro xs
  have hyl := hy.1
  induction xs with
  | nil =>
    intro p hp
    have e : ys = p := by rw [hp, List.append_nil]
    refine Ev.step (fun k => by rw [impl_heldBy.l0]) ?_
    refine ev_neg (by rw [e]; omega) (ev_of (Ev.now _) ?_)
    rw [e]
  | cons x xs ih =>
    intro p hp
    have hpl : (p.length : Int) + (xs.length + 1) = ys.length := by rw [hp]; simp
    have hx : rd_L1 ys (p.length : Int) = x := by rw [hp]; exact rdL_mid p x xs
    have hi := ih (p ++ [x]) (by rw [hp]; simp)
    have hz : ((p ++ [x]).length : Int) = (p.length : Int) + 1 := by simp
    have hh : heldL l (p ++ [x]) = heldL l p ++ [fastsL l x] := by unfold heldL; rw [List.map_append]; rfl
    have hhl : (heldL l p).length = p.length := List.length_map ..
    rw [hz, hh] at hi
    refine Ev.step (fun k => by rw [impl_heldBy.l0]) ?_
    refine ev_pos (by omega) (ev_pos (by omega) (ev_pos (by omega) ?_))
    rw [hx]
    exact impl_row ys l hl hy p.length (by omega) (heldL l p) (by omega) x (by rw [hp]; simp) hi x [] rfl
theorem impl_held : Ev (fun k => impl_heldBy.f k n ys ((setN l : Nat) : Int)) (heldL l ys) := by
  unfold impl_heldBy.f
  exact impl_rows ys l hl hy ys [] rfl
end
section
variable (n : List Int) (ys : List (List Int)) (s : ByteArray) (hy : linesIn (s.size : Int) ys)
include hy
theorem spec_row (j : Nat) (acc : List Int) (hacc : acc.length ≤ 1048576) (hj : j < ys.length) (r : List Int) (hr : rd_L1 ys (j : Int) = r) {b : List Int} (hnext : Ev (fun k => spec_l20Held.l0 k s (acc ++ [fastsL (bytesOf s) r]) ((j : Int) + 1) n ys) b) : ∀ (xs p : List Int), r = p ++ xs →
    Ev (fun k => spec_l20Held.l1 k s acc (j : Int) (fastsL (bytesOf s) p) (p.length : Int) n ys) b := by
  intro xs
  have hyl := hy.1
  obtain ⟨hrl, hrin⟩ := hy.2 r (by rw [← hr]; unfold rd_L1; rw [Int.toNat_natCast, List.getD_eq_getElem?_getD, List.getElem?_eq_getElem hj]; exact List.getElem_mem _)
  induction xs with
  | nil =>
    intro p hp
    have e : r = p := by rw [hp, List.append_nil]
    refine Ev.step (fun k => by rw [spec_l20Held.l1]) ?_
    refine ev_pos (by omega) (ev_pos (by omega) ?_)
    rw [hr]
    refine ev_neg (by rw [e]; omega) (ev_pos (by omega) ?_)
    rw [wrap_small (i := (j : Int) + 1) (by omega) (by omega), ← e]
    exact hnext
  | cons x xs ih =>
    intro p hp
    have hpl : (p.length : Int) + (xs.length + 1) = r.length := by rw [hp]; simp
    have hx : rd r (p.length : Int) = x := by rw [hp]; exact rd_mid p x xs
    have hw : wrap64 ((p.length : Int) + 1) = ((p ++ [x]).length : Int) := wrap_next p x (by omega)
    have hxi := hrin x (by rw [hp]; simp)
    have hf := fastsL_le (bytesOf s) p
    have hi := ih (p ++ [x]) (by rw [hp]; simp)
    rw [fastsL_snoc] at hi
    refine Ev.step (fun k => by rw [spec_l20Held.l1]) ?_
    refine ev_pos (by omega) (ev_pos (by omega) ?_)
    rw [hr]
    refine ev_pos (by omega) (ev_pos (by omega) ?_)
    rw [hx, hw]
    refine ev_pos hxi.1 (ev_pos hxi.2 ?_)
    rw [bt_rd]
    refine ev_ite (fun h => ?_) (fun h => ?_)
    · rw [if_pos h] at hi
      rw [wrap_small (i := fastsL (bytesOf s) p + 1) (by omega) (by omega)]
      exact hi
    · rw [if_neg h, Int.add_zero] at hi
      exact hi
theorem spec_rows : ∀ (xs p : List (List Int)), ys = p ++ xs → Ev (fun k => spec_l20Held.l0 k s (heldL (bytesOf s) p) (p.length : Int) n ys) (heldL (bytesOf s) ys) := by
  intro xs
  have hyl := hy.1
  induction xs with
  | nil =>
    intro p hp
    have e : ys = p := by rw [hp, List.append_nil]
    refine Ev.step (fun k => by rw [spec_l20Held.l0]) ?_
    refine ev_neg (by rw [e]; omega) (ev_of (Ev.now _) ?_)
    rw [e]
  | cons x xs ih =>
    intro p hp
    have hpl : (p.length : Int) + (xs.length + 1) = ys.length := by rw [hp]; simp
    have hx : rd_L1 ys (p.length : Int) = x := by rw [hp]; exact rdL_mid p x xs
    have hi := ih (p ++ [x]) (by rw [hp]; simp)
    have hz : ((p ++ [x]).length : Int) = (p.length : Int) + 1 := by simp
    have hh : heldL (bytesOf s) (p ++ [x]) = heldL (bytesOf s) p ++ [fastsL (bytesOf s) x] := by unfold heldL; rw [List.map_append]; rfl
    have hhl : (heldL (bytesOf s) p).length = p.length := List.length_map ..
    rw [hz, hh] at hi
    refine Ev.step (fun k => by rw [spec_l20Held.l0]) ?_
    refine ev_pos (by omega) ?_
    exact spec_row n ys s hy p.length (heldL (bytesOf s) p) (by omega) (by omega) x hx hi x [] rfl
theorem spec_held : Ev (fun k => spec_l20Held.f k n ys s) (heldL (bytesOf s) ys) := by
  unfold spec_l20Held.f
  exact spec_rows n ys s hy ys [] rfl
end
/-! ### loose yards -/
def looseF : Nat → List Int → List Int
  | _, [] => []
  | i, x :: xs => if x = 0 then (i : Int) :: looseF (i + 1) xs else looseF (i + 1) xs
theorem looseF_has : ∀ (xs : List Int) (i : Nat), decide (0 < (looseF i xs).length) = xs.contains 0 := by
  intro xs
  induction xs with
  | nil => intro i; rfl
  | cons x xs ih =>
    intro i
    rw [looseF]
    by_cases h : x = 0
    · rw [if_pos h, h]; simp
    · rw [if_neg h, ih (i + 1), List.contains_cons]
      have : ((0 : Int) == x) = false := by simp; omega
      rw [this, Bool.false_or]
theorem loose_loop (h : List Int) (hh : h.length ≤ 1048576) : ∀ (xs p acc : List Int), h = p ++ xs → acc.length ≤ p.length → Ev (fun k => spec_l20Loose.l0 k h acc (p.length : Int)) (acc ++ looseF p.length xs) := by
  intro xs
  induction xs with
  | nil =>
    intro p acc hp _
    refine Ev.step (fun k => by rw [spec_l20Loose.l0]) ?_
    refine ev_neg (by rw [hp, List.append_nil]; omega) (ev_of (Ev.now _) ?_)
    rw [looseF, List.append_nil]
  | cons x xs ih =>
    intro p acc hp ha
    have hpl : (p.length : Int) + (xs.length + 1) = h.length := by rw [hp]; simp
    have hx : rd h (p.length : Int) = x := by rw [hp]; exact rd_mid p x xs
    have hw : wrap64 ((p.length : Int) + 1) = ((p ++ [x]).length : Int) := wrap_next p x (by omega)
    have hz : (p ++ [x]).length = p.length + 1 := by simp
    refine Ev.step (fun k => by rw [spec_l20Loose.l0]) ?_
    refine ev_pos (by omega) (ev_pos (by omega) ?_)
    rw [hx, hw, looseF]
    refine ev_ite (fun h2 => ?_) (fun h2 => ?_)
    · have hi := ih (p ++ [x]) (acc ++ [(p.length : Int)]) (by rw [hp]; simp) (by rw [hz, List.length_append, List.length_singleton]; omega)
      rw [hz, List.append_assoc, List.singleton_append] at hi
      rw [hz] at hw ⊢
      rw [if_pos h2]
      exact ev_pos (by omega) hi
    · have hi := ih (p ++ [x]) acc (by rw [hp]; simp) (by rw [hz]; omega)
      rw [hz] at hi ⊢
      rw [if_neg h2]
      exact hi
theorem spec_loose (n : List Int) (ys : List (List Int)) (s : ByteArray) (hy : linesIn (s.size : Int) ys) : Ev (fun k => spec_l20Loose.f k n ys s) (looseF 0 (heldL (bytesOf s) ys)) := by
  unfold spec_l20Loose.f
  refine Ev.bind (spec_held n ys s hy) ?_
  have hl : (heldL (bytesOf s) ys).length = ys.length := List.length_map ..
  exact loose_loop (heldL (bytesOf s) ys) (by have := hy.1; omega) _ [] [] rfl (Nat.le_refl _)
/-! ### a line is changed -/
theorem hasD_loop (a : Int) : ∀ (xs p : List Int), p.length + xs.length ≤ 1048576 → ∃ r, Ev (fun k => slices_Index_int64_int64.l0 k (p ++ xs) a ((p ++ xs).length : Int) (p.length : Int)) r ∧ decide (r ≥ 0) = xs.contains a := by
  intro xs
  induction xs with
  | nil =>
    intro p _
    refine ⟨-1, Ev.step (fun k => by rw [slices_Index_int64_int64.l0]) ?_, rfl⟩
    exact ev_neg (not_lt_end p) (Ev.now _)
  | cons x xs ih =>
    intro p hl
    rw [List.length_cons] at hl
    have hw : wrap64 ((p.length : Int) + 1) = ((p ++ [x]).length : Int) := wrap_next p x (by omega)
    obtain ⟨r, h1, h2⟩ := ih (p ++ [x]) (by rw [List.length_append]; simp; omega)
    by_cases h : a = x
    · refine ⟨(p.length : Int), Ev.step (fun k => by rw [slices_Index_int64_int64.l0]) ?_, ?_⟩
      · refine ev_pos (lt_mid p x xs) (ev_pos (by omega) (ev_pos (lt_mid p x xs) ?_))
        rw [rd_mid]
        exact ev_pos h (Ev.now _)
      · rw [decide_eq_true (by omega), h]; simp
    · refine ⟨r, Ev.step (fun k => by rw [slices_Index_int64_int64.l0]) ?_, ?_⟩
      · refine ev_pos (lt_mid p x xs) (ev_pos (by omega) (ev_pos (lt_mid p x xs) ?_))
        rw [rd_mid, hw, push_mid p x xs]
        exact ev_neg h h1
      · rw [h2, List.contains_cons]
        have : (a == x) = false := by simp; omega
        rw [this, Bool.false_or]
theorem hasD_ev (l : List Int) (a : Int) (h : l.length ≤ 1048576) : Ev (fun k => slices_Contains_int64_int64.f k l a) (l.contains a) := by
  unfold slices_Contains_int64_int64.f slices_Index_int64_int64.f
  obtain ⟨r, h1, h2⟩ := hasD_loop a l [] (by simp; omega)
  exact Ev.bind h1 (ev_of (Ev.now _) h2)
def changeC (n : List Int) (ys : List (List Int)) (l : List Int) (i : Int) : Int :=
  if 0 ≤ rd n i ∧ ¬ rd l (rd n i) = 70 then 6 else if (heldL (flipL l i) ys).contains 0 = true then 10 else 0
/-- A deck with its lines, and a state of it. -/
structure DeckOk (n : List Int) (ys : List (List Int)) (l : List Int) : Prop where
  few : n.length ≤ 8
  len : l.length = n.length
  needs : ∀ i : Nat, i < n.length → -1 ≤ rd n (i : Int) ∧ rd n (i : Int) < (n.length : Int)
  lines : linesIn (n.length : Int) ys
  fast : ∀ c ∈ l, c = 70 ∨ c = 76
theorem flip_len (l : List Int) (i : Int) : (flipL l i).length = l.length := List.length_set ..
theorem DeckOk.flip {n : List Int} {ys : List (List Int)} {l : List Int} (h : DeckOk n ys l) (i : Int) : DeckOk n ys (flipL l i) :=
  ⟨h.few, by rw [flip_len]; exact h.len, h.needs, h.lines, fun c hc => by
    rcases List.mem_or_eq_of_mem_set hc with hc | rfl
    · exact h.fast c hc
    · split
      · exact .inr rfl
      · exact .inl rfl⟩
theorem strOf_bytes {l : List Int} (h : ∀ c ∈ l, c = 70 ∨ c = 76) : bytesOf (strOfNums l) = l := by
  unfold bytesOf
  rw [strOfNums_data, List.map_map]
  conv => rhs; rw [← List.map_id l]
  refine List.map_congr_left (fun c hc => ?_)
  rcases h c hc with rfl | rfl <;> rfl
section
variable {n : List Int} {ys : List (List Int)} {l : List Int} (h : DeckOk n ys l) (i : Int) (h0 : 0 ≤ i) (h1 : i < (n.length : Int))
include h h0 h1
theorem DeckOk.need_in : -1 ≤ rd n i ∧ rd n i < (n.length : Int) := by
  have := h.needs i.toNat (by omega)
  unfold rd at this ⊢
  rwa [Int.toNat_natCast] at this
theorem impl_change : Ev (fun k => impl_changeCode.f k n ys ((setN l : Nat) : Int) i) (changeC n ys l i) := by
  have hfew := h.few
  have hlen := h.len
  have hnd := h.need_in i h0 h1
  have hf := h.flip i
  have hfl := flip_len l i
  have hj : Ev (fun k => impl_changeCode.j0 k ((setN l : Nat) : Int) i false n ys) (if (heldL (flipL l i) ys).contains 0 = true then 10 else 0) := by
    refine Ev.step (fun k => by rw [impl_changeCode.j0]) (ev_neg (by simp) (ev_pos h0 ?_))
    rw [flip_bits l (by omega) i h0 (by omega)]
    have hh := impl_held n ys (flipL l i) (by omega) (by rw [hfl, hlen]; exact h.lines)
    have hhl : (heldL (flipL l i) ys).length = ys.length := List.length_map ..
    refine Ev.bind hh (Ev.bind (hasD_ev _ 0 (by have := h.lines.1; omega)) (ev_ite (fun h2 => ?_) (fun h2 => ?_)))
    · rw [if_pos h2]; exact Ev.now _
    · rw [if_neg h2]; exact Ev.now _
  unfold impl_changeCode.f changeC
  refine ev_pos h0 (ev_pos h1 (ev_ite (fun h2 => ?_) (fun h2 => ?_)))
  · rw [bit_rd l (by omega) (rd n i) (by omega) (by omega)]
    refine ev_pos (by omega) ?_
    by_cases h3 : rd l (rd n i) = 70
    · rw [if_pos h3, if_neg (by simp [h3])]
      exact hj
    · rw [if_neg h3, if_pos ⟨by omega, h3⟩]
      refine Ev.step (fun k => by rw [impl_changeCode.j0]) ?_
      exact ev_pos (by rfl) (Ev.now _)
  · rw [if_neg (by omega)]
    exact hj
theorem spec_change (s : ByteArray) (hs : bytesOf s = l) : Ev (fun k => spec_l20Change.f k n ys s i) (if changeC n ys l i = 0 then strOfNums (flipL l i) else (⟨#[]⟩ : ByteArray), changeC n ys l i) := by
  have hfew := h.few
  have hlen := h.len
  have hnd := h.need_in i h0 h1
  have hsz : s.size = l.length := by rw [← hs, bytes_length]
  have hfb : flipB s i = flipL l i := by unfold flipB; rw [bt_rd, hs]
  have hb2 : bytesOf (strOfNums (flipL l i)) = flipL l i := strOf_bytes (h.flip i).fast
  unfold spec_l20Change.f changeC
  rw [bt_rd, hs, hfb]
  refine ev_pos ⟨h0, h1, by omega, by omega, by omega⟩ (ev_ite (fun h2 => ?_) (fun h2 => ?_))
  · rw [if_pos h2, if_neg (by decide)]
    exact Ev.now _
  · rw [if_neg h2]
    have hlo := spec_loose n ys (strOfNums (flipL l i)) (by rw [strOfNums_size, flip_len, hlen]; exact h.lines)
    rw [hb2] at hlo
    have hhas := looseF_has (heldL (flipL l i) ys) 0
    refine Ev.bind hlo (ev_ite (fun h3 => ?_) (fun h3 => ?_))
    · rw [decide_eq_true h3] at hhas
      rw [if_pos hhas.symm, if_neg (by decide)]
      exact Ev.now _
    · rw [decide_eq_false h3] at hhas
      rw [← hhas, if_neg (show ¬ false = true by simp), if_pos rfl]
      exact Ev.now _
end
theorem needs_of {n : List Int} : ∀ (xs p : List Int) (m : Int), n = p ++ xs → needsB m (p.length : Int) xs = true → ∀ i : Nat, p.length ≤ i → i < n.length → -1 ≤ rd n (i : Int) ∧ rd n (i : Int) < m := by
  intro xs
  induction xs with
  | nil => intro p m hp _ i h1 h2; rw [hp, List.append_nil] at h2; omega
  | cons x xs ih =>
    intro p m hp h i h1 h2
    rw [needsB, Bool.and_eq_true] at h
    by_cases e : i = p.length
    · subst e
      have hx : rd n (p.length : Int) = x := by rw [hp]; exact rd_mid p x xs
      have h3 := h.1
      simp only [needB, Bool.and_eq_true, decide_eq_true_eq] at h3
      rw [hx]
      omega
    · exact ih (p ++ [x]) m (by rw [hp]; simp) (by
        have hz : ((p ++ [x]).length : Int) = (p.length : Int) + 1 := by simp
        rw [hz]
        exact h.2) i (by rw [List.length_append, List.length_singleton]; omega) h2
theorem rise_of (m : Int) : ∀ (xs : List Int) (pv : Option Int), riseB m pv xs = true → ∀ x ∈ xs, 0 ≤ x ∧ x < m := by
  intro xs
  induction xs with
  | nil => intro _ _ x hx; simp at hx
  | cons y xs ih =>
    intro pv h x hx
    rw [riseB, Bool.and_eq_true] at h
    rcases List.mem_cons.1 hx with rfl | hx
    · have h3 := h.1
      simp only [lineB, Bool.and_eq_true, decide_eq_true_eq] at h3
      omega
    · exact ih _ h.2 x hx
theorem deckOk_of (n : List Int) (ys : List (List Int)) (s : ByteArray) (hg : GoodDeck n ys) (h : codeD n ys s = 0) : DeckOk n ys (bytesOf s) := by
  unfold codeD at h
  split at h
  · rename_i hd
    split at h
    · rename_i hst
      simp only [deckB, Bool.and_eq_true, decide_eq_true_eq] at hd
      simp only [stateB, Bool.and_eq_true, decide_eq_true_eq, List.all_eq_true, fastB, Bool.or_eq_true] at hst
      have hbl := bytes_length s
      refine ⟨by omega, by omega, fun i hi => needs_of n [] _ rfl hd.2.2.1 i (by simp) hi, ⟨hg.2.1, fun r hr => ⟨(hg.2.2 r hr).1, ?_⟩⟩, hst.2⟩
      have hy := List.all_eq_true.1 hd.2.2.2 r hr
      rw [yardB, Bool.and_eq_true] at hy
      exact rise_of _ r none hy.2
    · simp at h
  · simp at h
end Go.Proofs.YtfkiamccipoioaaB
end

section
/- HeldBy, LooseYards, ChangesOf, of both; the marks of a deck. -/
namespace Go.Proofs.YtfkiamccipoioaaB
open Go.RowKit Go.Proofs.YtfkiamccipoioaaW.PrintWords Go.Proofs.YtfkiamccipoioaaW.PrintLast Go.Proofs.YtfkiamccipoioaaW.PrintMore Go.Proofs.Ytfkiamccipoioaa.P

theorem markCnt_eq : ∀ (n : Nat) (a : Int), 0 ≤ a → a + n ≤ 4611686018427387904 → markCnt n a = a + n := by
  intro n
  induction n with
  | zero => intro a _ _; rw [markCnt]; omega
  | succ n ih =>
    intro a h0 h1
    rw [markCnt, wrap_small (i := a + 1) (by omega) (by omega), ih (a + 1) (by omega) (by omega)]
    omega
theorem marksCnt_ge : ∀ (ls : List (List Int)) (a : Int), 0 ≤ a → (∀ r ∈ ls, r.length ≤ 1048576) → a + ls.length * 1048576 ≤ 4611686018427387904 → 0 ≤ marksCnt ls a := by
  intro ls
  induction ls with
  | nil => intro a h0 _ _; exact h0
  | cons r ls ih =>
    intro a h0 hr h1
    rw [List.length_cons] at h1
    have hl := hr r List.mem_cons_self
    rw [marksCnt, markCnt_eq _ _ h0 (by omega)]
    exact ih _ (by omega) (fun x hx => hr x (List.mem_cons_of_mem _ hx)) (by omega)
theorem markDeck_ok (n : List Int) (ys : List (List Int)) (hg : GoodDeck n ys) : ∃ m, laws_markDeck.f n ys 1 = some m ∧ ¬ m < 0 := by
  have h1 := hg.1.1
  have h2 := hg.2.1
  have h3 : ∀ r ∈ ys, r.length ≤ 1048576 := fun r hr => (hg.2.2 r hr).1
  refine ⟨marksCnt ys (markCnt n.length 1), ?_, ?_⟩
  · unfold laws_markDeck.f laws_markInt64SS.f
    rw [if_pos h1, if_pos ⟨h2, h3⟩]
  · have := marksCnt_ge ys (markCnt n.length 1) (by rw [markCnt_eq _ _ (by omega) (by omega)]; omega) h3 (by rw [markCnt_eq _ _ (by omega) (by omega)]; omega)
    omega
section
variable {n : List Int} {ys : List (List Int)} {s : ByteArray} (hok : DeckOk n ys (bytesOf s))
include hok
theorem DeckOk.size : s.size = n.length := by rw [← hok.len]; exact (bytes_length s).symm
end
/-- The lines that may change. -/
def chF (n : List Int) (ys : List (List Int)) (l : List Int) : Nat → Nat → List Int
  | 0, _ => []
  | d + 1, i => if changeC n ys l (i : Int) = 0 then (i : Int) :: chF n ys l d (i + 1) else chF n ys l d (i + 1)
theorem chF_length (n : List Int) (ys : List (List Int)) (l : List Int) : ∀ (d i : Nat), (chF n ys l d i).length ≤ d := by
  intro d
  induction d with
  | zero => intro i; exact Nat.le_refl _
  | succ d ih =>
    intro i
    have := ih (i + 1)
    rw [chF]
    split
    · rw [List.length_cons]; omega
    · omega
section
variable {n : List Int} {ys : List (List Int)} {s : ByteArray} (hok : DeckOk n ys (bytesOf s))
include hok
theorem changes_spec : ∀ (d i : Nat) (acc : List Int), i + d = n.length → acc.length ≤ i → Ev (fun k => spec_l20Changes.l0 k s acc (i : Int) n ys) (acc ++ chF n ys (bytesOf s) d i) := by
  have hfew := hok.few
  have hsz := hok.size
  intro d
  induction d with
  | zero =>
    intro i acc hi _
    refine Ev.step (fun k => by rw [spec_l20Changes.l0]) (ev_neg (by omega) (ev_of (Ev.now _) ?_))
    rw [chF, List.append_nil]
  | succ d ih =>
    intro i acc hi ha
    have hw : wrap64 ((i : Int) + 1) = ((i + 1 : Nat) : Int) := by rw [wrap_small (by omega) (by omega)]; omega
    refine Ev.step (fun k => by rw [spec_l20Changes.l0]) (ev_pos (by omega) (Ev.bind (spec_change hok (i : Int) (by omega) (by omega) s rfl) ?_))
    rw [hw]
    by_cases h2 : changeC n ys (bytesOf s) (i : Int) = 0
    · have h3 := ih (i + 1) (acc ++ [(i : Int)]) (by omega) (by rw [List.length_append, List.length_singleton]; omega)
      rw [List.append_assoc, List.singleton_append] at h3
      rw [show chF n ys (bytesOf s) (d + 1) i = (i : Int) :: chF n ys (bytesOf s) d (i + 1) by rw [chF, if_pos h2]]
      exact ev_pos h2 (ev_pos (by omega) h3)
    · rw [show chF n ys (bytesOf s) (d + 1) i = chF n ys (bytesOf s) d (i + 1) by rw [chF, if_neg h2]]
      exact ev_neg h2 (ih (i + 1) acc (by omega) (by omega))
theorem changes_impl : ∀ (d i : Nat) (acc : List Int), i + d = n.length → acc.length ≤ i → Ev (fun k => impl_ChangesOf.l0 k s acc (n.length : Int) (i : Int) n ys) (acc ++ chF n ys (bytesOf s) d i, 0) := by
  have hfew := hok.few
  have hsz := hok.size
  intro d
  induction d with
  | zero =>
    intro i acc hi _
    refine Ev.step (fun k => by rw [impl_ChangesOf.l0]) (ev_neg (by omega) (ev_of (Ev.now _) ?_))
    rw [chF, List.append_nil]
  | succ d ih =>
    intro i acc hi ha
    have hw : wrap64 ((i : Int) + 1) = ((i + 1 : Nat) : Int) := by rw [wrap_small (by omega) (by omega)]; omega
    refine Ev.step (fun k => by rw [impl_ChangesOf.l0]) (ev_pos (by omega) (Ev.bind (set_ev s (by omega)) (Ev.bind (impl_change hok (i : Int) (by omega) (by omega)) ?_)))
    rw [hw]
    by_cases h2 : changeC n ys (bytesOf s) (i : Int) = 0
    · have h3 := ih (i + 1) (acc ++ [(i : Int)]) (by omega) (by rw [List.length_append, List.length_singleton]; omega)
      rw [List.append_assoc, List.singleton_append] at h3
      rw [show chF n ys (bytesOf s) (d + 1) i = (i : Int) :: chF n ys (bytesOf s) d (i + 1) by rw [chF, if_pos h2]]
      exact ev_pos h2 (ev_pos (by omega) h3)
    · rw [show chF n ys (bytesOf s) (d + 1) i = chF n ys (bytesOf s) d (i + 1) by rw [chF, if_neg h2]]
      exact ev_neg h2 (ih (i + 1) acc (by omega) (by omega))
end
theorem ChangesOf_both (n : List Int) (ys : List (List Int)) (s : ByteArray) (hg : GoodDeck n ys) (hs : s.size ≤ 1048576) : Both (fun r => r.1.length ≤ 1048576) (fun k => spec_ChangesOf.f k n ys s) (fun k => impl_ChangesOf.f k n ys s) := by
  unfold spec_ChangesOf.f impl_ChangesOf.f
  refine both_bindL (spec_codeD n ys s hg hs) (both_bindR (impl_codeD n ys s hg hs) ?_)
  by_cases hc : codeD n ys s = 0
  · have hok := deckOk_of n ys s hg hc
    have hfew := hok.few
    have h := changes_spec hok n.length 0 [] (by omega) (Nat.le_refl _)
    have h2 := changes_impl hok n.length 0 [] (by omega) (Nat.le_refl _)
    refine both_posL hc (both_posR hc (both_of (r := (chF n ys (bytesOf s) n.length 0, 0)) (Ev.bind (by unfold spec_l20Changes.f; exact h) (Ev.now _)) h2 ?_))
    have := chF_length n ys (bytesOf s) n.length 0
    show (chF n ys (bytesOf s) n.length 0).length ≤ 1048576
    omega
  · exact both_negL hc (both_negR hc (both_now _ (by simp)))
end Go.Proofs.YtfkiamccipoioaaB
end

section
/- FnExactChangesOf: its plain statement, over lists and numbers. -/
namespace Go.Proofs.Ytfkiamccipoioaa.Pure
open Go.RowKit Go.Proofs.Ytfkiamccipoioaa.P Go.Proofs.YtfkiamccipoioaaW.PrintWords Go.Proofs.YtfkiamccipoioaaW.PrintLast Go.Proofs.YtfkiamccipoioaaB

theorem FnExactChangesOf : ∀ (x0 : S25) (x1 : ByteArray), ((x0.f0.length ≤ maxLen ∧ ∀ x_ ∈ x0.f0, (Lit.int .i64 x_).wf = true) ∧ (x0.f1.length ≤ maxLen ∧ ∀ x_ ∈ x0.f1, (x_.length ≤ maxLen ∧ ∀ x_x_ ∈ x_, (Lit.int .i64 x_x_).wf = true))) → x1.size ≤ maxLen → ∃ k, laws_FnExactChangesOf.f k x0.f0 x0.f1 x1 = some true := by
  intro x0 x1 h0 h1
  refine Ev.rounds (g := fun k => laws_FnExactChangesOf.f k x0.f0 x0.f1 x1) ?_
  unfold laws_FnExactChangesOf.f
  refine ev_ite (fun _ => Ev.now _) (fun z1 => ?_)
  obtain ⟨r0, e0, c0⟩ := szDeck_ev x0.f0 x0.f1 h0.1 h0.2
  refine Ev.bind e0 (ev_ite (fun _ => Ev.now _) (fun n0 => ?_))
  have g0 := c0 (by omega)
  obtain ⟨v, hs, hi, hp⟩ := ChangesOf_both x0.f0 x0.f1 x1 g0 (by omega)
  obtain ⟨m1, hm1, hm1n⟩ := markDeck_ok x0.f0 x0.f1 g0
  repeat (first | exact Ev.now _ | (refine ev_pos rfl ?_) | (refine Ev.bind hs ?_) | (refine Ev.bind hi ?_) | (refine Ev.bind (toDeck_ev _ _ g0) ?_) | (refine Ev.bind (eqDeck_refl _ _ g0) ?_) | (refine Ev.bind (eqInt64S_refl _ (by omega)) ?_) | (refine Ev.bind (markInt64S_ev _ (by omega)) ?_) | (refine Ev.bind (heldInt64S_ev _ (by omega)) ?_) | (refine ev_bind0 hm1 ?_) | (refine ev_neg hm1n ?_) | (refine ev_neg (by first | (simp; done) | (simp; omega)) ?_))

end Go.Proofs.Ytfkiamccipoioaa.Pure
end

section
/- The law FnExactChangesOf: for every input it returns true and its arguments read as before: the row, out of its plain statement and the printed contracts. No condition beside the form's own. -/
namespace Go.Proofs.Ytfkiamccipoioaa.fnExactChangesOf
open Go.ChangeShapes Go.WideShapes Go.ChangeAt Go.RowKit
open Go.ChangeMaps (open_string shut_string)
open Go.Proofs.Ytfkiamccipoioaa.P Go.Proofs.YtfkiamccipoioaaOp Go.Proofs.YtfkiamccipoioaaW.PrintWords Go.Proofs.YtfkiamccipoioaaW.PrintLast
set_option linter.unusedVariables false
theorem own : ownKnob Try.prog.godebug = none := by kernel_rfl
theorem laidOut : laidOutB Try.prog = true := by kernel_rfl
set_option maxRecDepth 100000 in
theorem lifted (os : Os) (started : os.Started) (H : Type) (enc : TypeId × Value → H) :
    ReturnsInHanded {} Try.checked os 9 .any (Rows.fnExactChangesOfSpec.pre6 enc Try.prog Try.f9 Rows.fnExactChangesOfRow.domain false) (Rows.fnExactChangesOfSpec.post enc Try.prog Try.f9 false true false false) := by
  refine returnsInHanded_of_change_sized (C := Try.checked) own started (by kernel_rfl) Try.func9
    (ChangeSpec.witness6 (enc := enc) (C := Try.checked) false ⟨#[], #[.agg #[.slice none 0 0, .slice none 0 0], .string ByteArray.empty], []⟩ 8 (by kernel_rfl) (by kernel_rfl) (by kernel_rfl) (by kernel_rfl)) ?_
  intro W base args ds gs before hval0 hW hcnd hsz0 _
  have hval : ∀ (j : Nat) t v, Try.f9.params[j]? = some t → args[j]? = some v → Value.okWide Try.prog W .any base t v := hval0
  have hW' := hW
  obtain ⟨p, q, hA0, hV, rfl, hfz, hnd⟩ := hW
  have hA : DataW.TrodAll enc Try.prog W 0 (fun _ => true) true Try.f9.params.toList args.toList ds p := hA0
  rw [Try.params9] at hA hval
  obtain ⟨v0, vs0, d0, ds0, p0, q0, hargs, rfl, rfl, h0, r0⟩ := trodAll_cons hA
  obtain ⟨v1, vs1, d1, ds1, p1, q1, rfl, rfl, rfl, h1, r1⟩ := trodAll_cons r0
  obtain ⟨rfl, rfl, rfl⟩ := trodAll_nil r1
  obtain rfl : args = #[v0, v1] := by cases args; simp_all
  obtain ⟨rfl, rfl⟩ := trodVars_none hV
  have k0 := h0
  have lt0 : ∀ x ∈ p0, x.block < W.heap.size := by obtain ⟨m, hm⟩ := k0; exact DataW.trod_lt m _ _ _ hm
  obtain ⟨cs0, rfl, hs0⟩ := okWide_struct Try.underlying25 (hval 0 25 v0 rfl rfl)
  obtain ⟨x0, K0, Q0⟩ := arg_struct (d := k25) (opens_iso (opens_struct Try.underlying25 (by kernel_rfl) (opens_cons (opens_slice Try.underlying22 (opens_int Try.underlying2) (by kernel_rfl) 2) rfl (by kernel_rfl) (opens_last (opens_slice Try.underlying23 (opens_slice Try.underlying22 (opens_int Try.underlying2) (by kernel_rfl) 2) (by kernel_rfl) 22) rfl (by kernel_rfl)))) (fun x : S25 => (x.f0, x.f1)) (fun p => ⟨p.1, p.2⟩) (fun _ => rfl)) h0
  obtain ⟨A0_0, c0_0, A0_1, c0_1, e0, hl0_0, C0_0, hl0_1, C0_1⟩ := k25_open K0
  obtain rfl : cs0 = #[.slice A0_0 x0.f0.length c0_0, .slice A0_1 x0.f1.length c0_1] := by cases cs0; simpa using e0
  have k1 := h1
  have lt1 : ∀ x ∈ p1, x.block < W.heap.size := by obtain ⟨m, hm⟩ := k1; exact DataW.trod_lt m _ _ _ hm
  obtain ⟨x1, rfl, rfl, rfl, Q1⟩ := open_string Try.underlying9 (hval 1 9 v1 rfl rfl) h1
  clear hA0 hval0 hsz0
  obtain ⟨k, h⟩ := Pure.FnExactChangesOf x0 x1 Q0 Q1
  refine (laws_FnExactChangesOf.calls k A0_0 c0_0 x0.f0 A0_1 c0_1 x0.f1 x1 true W C0_0 hl0_0 C0_1 hl0_1 h).mono fun e W' hpost => ?_
  obtain ⟨he, bel⟩ : e = .returned (.bool true) ∧ Below W.heap.size W W' := hpost
  subst he
  exact ⟨_, rfl, _, _, _, [], _, [], hW', trodAll_mk1 (shut_bool Try.underlying4 _), (trodAll_cons_mk (Below.trod laidOut (by kernel_rfl) (of_decide_eq_true (by kernel_rfl)) k0 bel lt0) (trodAll_cons_mk (shut_string Try.underlying9 Q1) trodAll_mk0)), rfl, bel.frame _, fun h => by cases h⟩
theorem over : Rows.fnExactChangesOfRow.holds Try.pinned (OpenSpec.ofChange Rows.fnExactChangesOfSpec) :=
  OpenClaim.holds_of_wide 9 Try.f9 rfl rfl rfl rfl rfl rfl rfl ⟨rfl, rfl, rfl, rfl, rfl⟩ rfl rfl rfl rfl rfl (by kernel_rfl) Try.func9 (by kernel_rfl)
    (of_decide_eq_true (by kernel_rfl)) (by unfold Func.isWrapper; first | (rw [if_pos (by decide +kernel)]; kernel_rfl) | (rw [if_neg (by decide +kernel)]; exact ⟨rfl, rfl⟩))
    (fun os started H enc _ => lifted os started H enc)
theorem proved : Rows.FnExactChangesOfSaid := over
#print axioms proved
end Go.Proofs.Ytfkiamccipoioaa.fnExactChangesOf
namespace Go.Proofs.Ytfkiamccipoioaa
/-- The row, under a short name, for the claim. -/
theorem fnExactChangesOf_holds : Rows.FnExactChangesOfSaid := fnExactChangesOf.proved
end Go.Proofs.Ytfkiamccipoioaa
end
