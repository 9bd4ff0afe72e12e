/- The code of gear and inspections, of both. -/
import Derived.Test.YtdbigcfpinpnpaaCheckV
import Derived.Test.YtdbigcfpinpnpaaPx0
import Derived.Test.YtdbigcfpinpnpaaPx11
import Derived.Test.YtdbigcfpinpnpaaPx14
import Derived.Test.YtdbigcfpinpnpaaPx6
namespace Go.Proofs.YtdbigcfpinpnpaaB
open Go.RowKit Go.Proofs.YtdbigcfpinpnpaaW.PrintWords Go.Proofs.YtdbigcfpinpnpaaW.PrintLast Go.Proofs.Ytdbigcfpinpnpaa.P

def dayB (d : Int) : Bool := decide (0 ≤ d) && decide (d ≤ 20000)
theorem dayB0 : dayB 0 = true := by decide
def codeOf (r : Bool) (d : Int) : Int := if r = true then (if dayB d = true then 0 else 2) else 1
theorem code_both (g : List G) (l : List K) (hg : GoodGears g) (hl : GoodChecks l) :
    ∃ r, Ev (fun k => spec_l21Checks.f k g l) r ∧ (∀ d, Ev (fun k => impl_gearCode.f k g l d) (codeOf r d)) ∧ (r = true → GearsIn g ∧ ChecksIn l) := by
  obtain ⟨r, h1, h2, h3⟩ := gears_both g hg
  have bad : ∀ d, Ev (fun k => impl_gearCode.j0 k d true) 1 := fun d => Ev.step (fun k => by rw [impl_gearCode.j0]) (ev_pos rfl (Ev.now _))
  have good : ∀ d, Ev (fun k => impl_gearCode.j0 k d false) (codeOf true d) := fun d => by
    refine Ev.step (fun k => by rw [impl_gearCode.j0]) ?_
    refine ev_neg (by simp) (ev_bind0 (within_some _ _ _) ?_)
    by_cases hd : dayB d = true
    · exact ev_of (ev_pos hd (Ev.now _)) (by simp [codeOf, hd])
    · exact ev_of (ev_neg hd (Ev.now _)) (by simp [codeOf, hd])
  cases r with
  | false =>
    refine ⟨false, ?_, fun d => ?_, fun h => by simp at h⟩
    · unfold spec_l21Checks.f
      refine Ev.bind h1 (ev_neg (by simp) ?_)
      refine Ev.step (fun k => by rw [spec_l21Checks.j0]) ?_
      exact ev_pos rfl (Ev.now _)
    · unfold impl_gearCode.f
      exact Ev.bind h2 (ev_neg (by simp) (bad d))
  | true =>
    obtain ⟨q, h4, h5, h6⟩ := are_both g l hg.1 (h3 rfl).2 hl.1
    refine ⟨q, ?_, fun d => ?_, fun h => ⟨h3 rfl, h6 h⟩⟩
    · unfold spec_l21Checks.f
      exact Ev.bind h1 (ev_pos rfl h4)
    · unfold impl_gearCode.f
      refine Ev.bind h2 (ev_pos rfl (Ev.bind h5 ?_))
      cases q with
      | true => exact good d
      | false => exact bad d

/-- The inspections of one part. -/
def ownL (l : List K) (a : ByteArray) : List K := l.filter (fun x => x.f0.toList == a.toList)
theorem own_loop (a : ByteArray) : ∀ (xs p acc : List K), p.length + xs.length ≤ 1048576 → acc.length ≤ p.length → Ev (fun k => impl_checksOf.l0 k a acc (p ++ xs) ((p ++ xs).length : Int) (p.length : Int)) (acc ++ ownL xs a) := by
  intro xs
  induction xs with
  | nil =>
    intro p acc _ _
    refine Ev.step (fun k => by rw [impl_checksOf.l0]) ?_
    exact ev_neg (not_lt_end p) (ev_of (Ev.now _) (by simp [ownL]))
  | cons x xs ih =>
    intro p acc hl ha
    rw [List.length_cons] at hl
    have hw : wrap64 ((p.length : Int) + 1) = ((p ++ [x]).length : Int) := wrap_next p x (by omega)
    have hi := fun acc (h : acc.length ≤ p.length + 1) => ih (p ++ [x]) acc (by rw [List.length_append]; simp; omega) (by simpa using h)
    refine Ev.step (fun k => by rw [impl_checksOf.l0]) ?_
    refine ev_pos (lt_mid p x xs) (ev_pos (Int.natCast_nonneg _) (ev_pos (lt_mid p x xs) ?_))
    rw [rd53_mid, hw, push_mid p x xs]
    refine ev_ite (fun h => ?_) (fun h => ?_)
    · refine ev_pos (by omega) (ev_of (hi _ (by simp; omega)) ?_)
      simp [ownL, h]
    · refine ev_of (hi acc (by omega)) ?_
      simp [ownL, h]
theorem own_ev (l : List K) (a : ByteArray) (h : l.length ≤ 1048576) : Ev (fun k => impl_checksOf.f k l a) (ownL l a) := by
  unfold impl_checksOf.f
  exact own_loop a l [] [] (by simp; omega) (by simp)
theorem own_length (l : List K) (a : ByteArray) : (ownL l a).length ≤ l.length := List.length_filter_le _ _

/-- The last inspection of a part not behind a day. -/
def lastOf (l : List K) (a : ByteArray) (d : Int) : Option K := ((ownL l a).filter (fun x => decide (x.f1 ≤ d))).getLast?
def lastE : Option K → ByteArray × Int × Int × Bool
  | none => ((⟨#[]⟩ : ByteArray), 0, 0, false)
  | some z => (z.f0, z.f1, z.f2, true)
theorem last_loop (l : List K) (a : ByteArray) (d : Int) (hl : l.length ≤ 1048576) : ∀ (r xs : List K), l = r.reverse ++ xs →
    Ev (fun k => spec_l21Last.l0 k l a d ((r.length : Int) - 1)) (lastE (r.find? (fun x => x.f0.toList == a.toList && decide (x.f1 ≤ d)))) := by
  intro r
  induction r with
  | nil =>
    intro xs _
    refine Ev.step (fun k => by rw [spec_l21Last.l0]) ?_
    exact ev_neg (by simp) (Ev.now _)
  | cons z r ih =>
    intro xs h
    have hrl : (r.length : Int) + 1 + xs.length = l.length := by rw [h]; simp; omega
    have hr : rd_T53 l ((((z :: r).length : Nat) : Int) - 1) = z := by
      have e : ((((z :: r).length : Nat) : Int) - 1) = (r.reverse.length : Int) := by simp
      rw [e, h, List.reverse_cons, List.append_assoc]
      exact rd53_mid r.reverse z xs
    have hw : wrap64 ((((z :: r).length : Nat) : Int) - 1 - 1) = (r.length : Int) - 1 := by
      have e2 : (((z :: r).length : Nat) : Int) = (r.length : Int) + 1 := by simp
      rw [wrap_small (by omega) (by omega)]
      omega
    have hi := ih (z :: xs) (by rw [h]; simp)
    refine Ev.step (fun k => by rw [spec_l21Last.l0]) ?_
    have e2 : (((z :: r).length : Nat) : Int) = (r.length : Int) + 1 := by simp
    refine ev_pos (by omega) (ev_pos (by omega) (ev_pos (by omega) ?_))
    rw [hr, hw]
    refine ev_ite (fun h1 => ev_ite (fun h2 => ?_) (fun h2 => ?_)) (fun h1 => ?_)
    · refine ev_of (Ev.now _) ?_
      simp [h1, h2, lastE]
    · refine ev_of hi ?_
      simp [h2]
    · refine ev_of hi ?_
      simp [h1]
theorem find_last (l : List K) (a : ByteArray) (d : Int) : l.reverse.find? (fun x => x.f0.toList == a.toList && decide (x.f1 ≤ d)) = lastOf l a d := by
  unfold lastOf ownL
  rw [List.filter_filter, ← List.head?_filter, List.filter_reverse, List.head?_reverse]
  congr 1
  apply List.filter_congr
  intro x _
  exact Bool.and_comm _ _
theorem last_ev (l : List K) (a : ByteArray) (d : Int) (h : l.length ≤ 1048576) : Ev (fun k => spec_l21Last.f k l a d) (lastE (lastOf l a d)) := by
  unfold spec_l21Last.f
  rw [wrap_small (by omega) (by omega)]
  have hz := last_loop l a d h l.reverse [] (by simp)
  rw [find_last, List.length_reverse] at hz
  exact hz
/-- Where all days lie within the bound: the last one of its own. -/
theorem last_all (l : List K) (a : ByteArray) (h : ∀ x ∈ l, CheckIn x) : lastOf l a 20000 = (ownL l a).getLast? := by
  unfold lastOf
  congr 1
  apply List.filter_eq_self.2
  intro x hx
  have := h x (List.mem_filter.1 hx).1
  exact decide_eq_true this.2.1
theorem own_in {l : List K} {a : ByteArray} {z : K} (hz : z ∈ ownL l a) : z ∈ l := (List.mem_filter.1 hz).1
theorem rd_last (o : List K) (z : K) (h : o.getLast? = some z) (hl : o.length ≤ 1048576) : 0 ≤ wrap64 ((o.length : Int) - 1) ∧ wrap64 ((o.length : Int) - 1) < (o.length : Int) ∧ rd_T53 o (wrap64 ((o.length : Int) - 1)) = z := by
  rcases last_cases o with rfl | ⟨q, y, rfl⟩
  · simp at h
  · have : y = z := by simpa using h
    subst this
    have e : wrap64 (((q ++ [y]).length : Int) - 1) = (q.length : Int) := by
      have e2 : ((q ++ [y]).length : Int) = (q.length : Int) + 1 := by simp
      rw [wrap_small (by omega) (by omega)]
      omega
    rw [e]
    exact ⟨Int.natCast_nonneg _, by simp; omega, rd53_mid q y []⟩
end Go.Proofs.YtdbigcfpinpnpaaB
