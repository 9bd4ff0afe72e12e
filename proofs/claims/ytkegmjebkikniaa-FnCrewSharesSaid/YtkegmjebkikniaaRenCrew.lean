/- The least of all shares: what the program's search finds, over lists. -/
import Derived.Test.YtkegmjebkikniaaRenShare
import Derived.Test.YtkegmjebkikniaaPx0
import Derived.Test.YtkegmjebkikniaaPx22
namespace Go.Proofs.YtkegmjebkikniaaB
open Go.RowKit Go.Proofs.YtkegmjebkikniaaW.PrintWords Go.Proofs.YtkegmjebkikniaaW.PrintLast Go.Proofs.YtkegmjebkikniaaW.Hand Go.Proofs.Ytkegmjebkikniaa.P

/-- The sums when the pieces ds are given to the crews cs, one after the other. -/
def runC : List Int → List Int → List Int → List Int
  | s, d :: ds, c :: cs => runC (s.set c.toNat (rd s c + d)) ds cs
  | s, _, _ => s
def inC (m : Nat) (cs : List Int) : Prop := ∀ c ∈ cs, 0 ≤ c ∧ c < (m : Int)
def topC (s : List Int) : Int := maxTo s s.length
theorem runC_nil (s ds : List Int) : runC s ds [] = s := by cases ds <;> rfl
theorem runC_len : ∀ (cs s ds : List Int), (runC s ds cs).length = s.length := by
  intro cs
  induction cs with
  | nil => intro s ds; rw [runC_nil]
  | cons c cs ih =>
    intro s ds
    cases ds with
    | nil => rfl
    | cons d ds => rw [runC, ih, List.length_set]
theorem runC_snoc : ∀ (cs s ds : List Int) (c : Int), cs.length < ds.length → runC s ds (cs ++ [c]) = (runC s ds cs).set c.toNat (rd (runC s ds cs) c + rd ds (cs.length : Int)) := by
  intro cs
  induction cs with
  | nil =>
    intro s ds c h
    cases ds with
    | nil => simp at h
    | cons d ds => simp [runC, runC_nil, rd]
  | cons e cs ih =>
    intro s ds c h
    cases ds with
    | nil => simp at h
    | cons d ds =>
      rw [List.cons_append, runC, ih _ _ _ (by simpa using h), runC]
      have : rd (d :: ds) ((e :: cs).length : Int) = rd ds (cs.length : Int) := by
        unfold rd
        rw [Int.toNat_natCast, Int.toNat_natCast, List.length_cons, List.getD_cons_succ]
      rw [this]
theorem inC_snoc {m : Nat} {cs : List Int} {c : Int} (h : inC m cs) (h0 : 0 ≤ c) (h1 : c < (m : Int)) : inC m (cs ++ [c]) := by
  intro x hx
  rcases List.mem_append.1 hx with hx | hx
  · exact h x hx
  · rw [List.mem_singleton.1 hx]; exact ⟨h0, h1⟩
theorem rd_zero (m : Nat) (i : Int) : rd (List.replicate m 0) i = 0 := by
  unfold rd
  rw [List.getD_eq_getElem?_getD, List.getElem?_replicate]
  split <;> rfl
/-- No sum is negative. -/
theorem rd_oob (s : List Int) (c : Int) (h : s.length ≤ c.toNat) : rd s c = 0 := by
  unfold rd
  rw [List.getD_eq_getElem?_getD, List.getElem?_eq_none h]
  rfl
def nonC (s : List Int) : Prop := ∀ i : Nat, i < s.length → 0 ≤ rd s (i : Int)
theorem nonC_rd {s : List Int} (h : nonC s) (c : Int) : 0 ≤ rd s c := by
  by_cases hc : c.toNat < s.length
  · have := h c.toNat hc
    unfold rd at this ⊢
    rwa [Int.toNat_natCast] at this
  · rw [rd_oob s c (by omega)]
    omega
theorem rd_toNat (s : List Int) (c : Int) : rd s ((c.toNat : Nat) : Int) = rd s c := by
  unfold rd
  rw [Int.toNat_natCast]
theorem nonC_set {s : List Int} (h : nonC s) (c d : Int) (hd : 0 ≤ d) : nonC (s.set c.toNat (rd s c + d)) := by
  intro i hi
  rw [List.length_set] at hi
  by_cases e : i = c.toNat
  · subst e
    rw [rd_set_at s _ _ hi]
    have := nonC_rd h c
    omega
  · rw [rd_set_ne s _ _ _ e]
    exact h i hi
theorem runC_non : ∀ (cs s ds : List Int), nonC s → (∀ d ∈ ds, 0 ≤ d) → nonC (runC s ds cs) := by
  intro cs
  induction cs with
  | nil => intro s ds h _; rw [runC_nil]; exact h
  | cons c cs ih =>
    intro s ds h hd
    cases ds with
    | nil => exact h
    | cons d ds => exact ih _ _ (nonC_set h c d (hd d (List.mem_cons_self ..))) (fun x hx => hd x (List.mem_cons_of_mem _ hx))
theorem topC_ge (s : List Int) (i : Nat) (h : i < s.length) : rd s (i : Int) ≤ topC s := maxTo_ge s _ (Nat.le_refl _) i h
theorem topC_at (s : List Int) (h : 0 < s.length) : ∃ i : Nat, i < s.length ∧ topC s = rd s (i : Int) := maxTo_at s h _ (Nat.le_refl _)
theorem topC_non {s : List Int} (h : nonC s) (h0 : 0 < s.length) : 0 ≤ topC s := by
  have := topC_ge s 0 h0
  have := h 0 h0
  omega
theorem topC_set (s : List Int) (c d : Int) (h0 : 0 ≤ c) (h1 : c < (s.length : Int)) (hd : 0 ≤ d) : topC (s.set c.toNat (rd s c + d)) = mx (topC s) (rd s c + d) := by
  have := maxTo_set s c.toNat (rd s c + d) (by omega) (by rw [rd_toNat]; omega)
  exact this
theorem mx_left (a b : Int) : a ≤ mx a b := by unfold mx; split <;> omega
theorem mx_right (a b : Int) : b ≤ mx a b := by unfold mx; split <;> omega
/-- The greatest sum only grows, and no piece is greater. -/
theorem runC_top : ∀ (cs s ds : List Int), nonC s → inC s.length cs → (∀ d ∈ ds, 0 ≤ d) → topC s ≤ topC (runC s ds cs) ∧ (ds.length ≤ cs.length → ∀ d ∈ ds, d ≤ topC (runC s ds cs)) := by
  intro cs
  induction cs with
  | nil =>
    intro s ds _ _ _
    rw [runC_nil]
    refine ⟨Int.le_refl _, fun h d hd => ?_⟩
    cases ds with
    | nil => simp at hd
    | cons _ _ => simp at h
  | cons c cs ih =>
    intro s ds hs hc hd
    cases ds with
    | nil => exact ⟨Int.le_refl _, fun _ d hd => by simp at hd⟩
    | cons d ds =>
      have hd0 := hd d (List.mem_cons_self ..)
      obtain ⟨hc0, hc1⟩ := hc c (List.mem_cons_self ..)
      have ht := topC_set s c d hc0 hc1 hd0
      obtain ⟨h1, h2⟩ := ih (s.set c.toNat (rd s c + d)) ds (nonC_set hs c d hd0) (by rw [List.length_set]; exact fun x hx => hc x (List.mem_cons_of_mem _ hx)) (fun x hx => hd x (List.mem_cons_of_mem _ hx))
      rw [ht] at h1
      have ha := mx_left (topC s) (rd s c + d)
      have hb := mx_right (topC s) (rd s c + d)
      have hr := nonC_rd hs c
      rw [runC]
      refine ⟨by omega, fun hl x hx => ?_⟩
      rcases List.mem_cons.1 hx with rfl | hx
      · omega
      · exact h2 (by simpa using hl) x hx
def sumC (s : List Int) : Int := s.foldr (· + ·) 0
theorem sumC_cons (x : Int) (s : List Int) : sumC (x :: s) = x + sumC s := rfl
theorem sumC_set : ∀ (s : List Int) (i : Nat) (v : Int), i < s.length → sumC (s.set i v) = sumC s + v - rd s (i : Int) := by
  intro s
  induction s with
  | nil => intro i v h; simp at h
  | cons x s ih =>
    intro i v h
    cases i with
    | zero =>
      rw [List.set_cons_zero, sumC_cons, sumC_cons]
      have : rd (x :: s) ((0 : Nat) : Int) = x := rfl
      rw [this]
      omega
    | succ i =>
      rw [List.set_cons_succ, sumC_cons, sumC_cons, ih i v (by simpa using h)]
      have : rd (x :: s) ((i + 1 : Nat) : Int) = rd s (i : Int) := by
        unfold rd
        rw [Int.toNat_natCast, Int.toNat_natCast, List.getD_cons_succ]
      rw [this]
      omega
theorem sumC_zero (m : Nat) : sumC (List.replicate m 0) = 0 := by
  induction m with
  | zero => rfl
  | succ m ih => rw [List.replicate_succ, sumC_cons, ih]; rfl
theorem runC_sum : ∀ (cs s ds : List Int), cs.length = ds.length → inC s.length cs → sumC (runC s ds cs) = sumC s + sumC ds := by
  intro cs
  induction cs with
  | nil =>
    intro s ds h _
    cases ds with
    | nil => rw [runC_nil]; show _ = _ + 0; omega
    | cons _ _ => simp at h
  | cons c cs ih =>
    intro s ds h hc
    cases ds with
    | nil => simp at h
    | cons d ds =>
      obtain ⟨hc0, hc1⟩ := hc c (List.mem_cons_self ..)
      rw [runC, ih _ _ (by simpa using h) (by rw [List.length_set]; exact fun x hx => hc x (List.mem_cons_of_mem _ hx)), sumC_set s c.toNat _ (by omega), sumC_cons, rd_toNat]
      omega
theorem sumC_le : ∀ (s : List Int) (t : Int), (∀ i : Nat, i < s.length → rd s (i : Int) ≤ t) → sumC s ≤ t * (s.length : Int) := by
  intro s
  induction s with
  | nil => intro t _; show (0 : Int) ≤ t * ((0 : Nat) : Int); simp
  | cons x s ih =>
    intro t h
    have h0 := h 0 (by simp)
    have h0' : x ≤ t := h0
    have hs := ih t (fun i hi => by
      have := h (i + 1) (by simpa using hi)
      unfold rd at this ⊢
      rwa [Int.toNat_natCast, List.getD_cons_succ] at this)
    rw [sumC_cons, List.length_cons]
    have : t * ((s.length + 1 : Nat) : Int) = t * (s.length : Int) + t := by
      rw [Int.natCast_add, Int.mul_add]
      simp
    omega
/-- One crew more that gets nothing. -/
theorem rd_app (s : List Int) (c : Int) (h : c.toNat < s.length) (t : List Int) : rd (s ++ t) c = rd s c := by
  unfold rd
  rw [List.getD_eq_getElem?_getD, List.getD_eq_getElem?_getD, List.getElem?_append_left h]
theorem runC_more : ∀ (cs s ds : List Int), inC s.length cs → runC (s ++ [0]) ds cs = runC s ds cs ++ [0] := by
  intro cs
  induction cs with
  | nil => intro s ds _; rw [runC_nil, runC_nil]
  | cons c cs ih =>
    intro s ds hc
    cases ds with
    | nil => rfl
    | cons d ds =>
      obtain ⟨hc0, hc1⟩ := hc c (List.mem_cons_self ..)
      rw [runC, runC, rd_app s c (by omega), List.set_append_left _ _ (by omega), ih _ _ (by rw [List.length_set]; exact fun x hx => hc x (List.mem_cons_of_mem _ hx))]
theorem topC_more (s : List Int) (h : nonC s) (h0 : 0 < s.length) : topC (s ++ [0]) ≤ topC s := by
  obtain ⟨i, hi, e⟩ := topC_at (s ++ [0]) (by simp)
  rw [e]
  by_cases hl : i < s.length
  · rw [rd_app s (i : Int) (by omega)]
    exact topC_ge s i hl
  · have : i = s.length := by simp at hi; omega
    subst this
    have h1 : rd (s ++ [0]) (s.length : Int) = 0 := rd_mid s 0 []
    rw [h1]
    exact topC_non h h0
section
variable (l : List R) (m : Nat) (ds : List Int) (hds : ds = l.map fun x => x.f1) (hd : ∀ d ∈ ds, 0 ≤ d) (hm : 0 < m)
include hds hd hm
omit hd hm in
theorem rd_days (i : Nat) (h : i < l.length) : (rd_T55 l (i : Int)).f1 = rd ds (i : Int) := by
  subst hds
  unfold rd_T55 rd
  rw [Int.toNat_natCast, List.getD_eq_getElem?_getD, List.getD_eq_getElem?_getD, List.getElem?_map, List.getElem?_eq_getElem h]
  rfl
/-- What has been found so far is a share of all pieces, with its greatest sum; or nothing yet. -/
def GoodC (st : List Int × Int) : Prop := st.2 < 0 ∨ (st.1.length = ds.length ∧ inC m st.1 ∧ st.2 = topC (runC (List.replicate m 0) ds st.1))
omit hds in
theorem top_run_non (cs : List Int) : 0 ≤ topC (runC (List.replicate m 0) ds cs) :=
  topC_non (runC_non cs _ ds (fun i _ => by rw [rd_zero]; omega) hd) (by rw [runC_len, List.length_replicate]; exact hm)
theorem shareI_least : ∀ (r : Nat) (share : List Int) (st : List Int × Int), share.length + r = ds.length → inC m share → GoodC m ds st →
    GoodC m ds (shareI l m r share (runC (List.replicate m 0) ds share) st) ∧ 0 ≤ (shareI l m r share (runC (List.replicate m 0) ds share) st).2 ∧
    (0 ≤ st.2 → (shareI l m r share (runC (List.replicate m 0) ds share) st).2 ≤ st.2) ∧
    ∀ a : List Int, a.length = r → inC m a → (shareI l m r share (runC (List.replicate m 0) ds share) st).2 ≤ topC (runC (List.replicate m 0) ds (share ++ a)) := by
  intro r
  induction r with
  | zero =>
    intro share st hl hin hg
    have ht := top_run_non m ds hd hm share
    rw [shareI]
    have e : maxTo (runC (List.replicate m 0) ds share) (runC (List.replicate m 0) ds share).length = topC (runC (List.replicate m 0) ds share) := rfl
    rw [e]
    have hall : ∀ n : Int, n ≤ topC (runC (List.replicate m 0) ds share) → ∀ a : List Int, a.length = 0 → inC m a → n ≤ topC (runC (List.replicate m 0) ds (share ++ a)) := fun n hn a ha _ => by
      rw [List.length_eq_zero_iff.1 ha, List.append_nil]
      exact hn
    by_cases h : st.2 < 0 ∨ topC (runC (List.replicate m 0) ds share) < st.2
    · rw [if_pos h]
      exact ⟨Or.inr ⟨by dsimp only; omega, hin, rfl⟩, ht, fun _ => by dsimp only; omega, hall _ (Int.le_refl _)⟩
    · rw [if_neg h]
      exact ⟨hg, by omega, fun _ => Int.le_refl _, hall _ (by omega)⟩
  | succ r ih =>
    intro share st hl hin hg
    have hll : ds.length = l.length := by rw [hds, List.length_map]
    rw [shareI]
    have step : ∀ (c : Nat) (q : List Int × Int), c < m → shareI l m r (share ++ [(c : Int)]) ((runC (List.replicate m 0) ds share).set c (rd (runC (List.replicate m 0) ds share) (c : Int) + (rd_T55 l (share.length : Int)).f1)) q = shareI l m r (share ++ [(c : Int)]) (runC (List.replicate m 0) ds (share ++ [(c : Int)])) q := fun c q _ => by
      rw [runC_snoc share _ ds (c : Int) (by omega), rd_days l ds hds share.length (by omega), Int.toNat_natCast]
    have key : ∀ (cs : List Nat), (∀ c ∈ cs, c < m) → ∀ q : List Int × Int, GoodC m ds q →
        let q' := cs.foldl (fun st (c : Nat) => shareI l m r (share ++ [(c : Int)]) ((runC (List.replicate m 0) ds share).set c (rd (runC (List.replicate m 0) ds share) (c : Int) + (rd_T55 l (share.length : Int)).f1)) st) q
        GoodC m ds q' ∧ (cs ≠ [] ∨ 0 ≤ q.2 → 0 ≤ q'.2) ∧ (0 ≤ q.2 → q'.2 ≤ q.2) ∧ ∀ c ∈ cs, ∀ a : List Int, a.length = r → inC m a → q'.2 ≤ topC (runC (List.replicate m 0) ds (share ++ (c : Int) :: a)) := by
      intro cs
      induction cs with
      | nil => intro _ q hq; exact ⟨hq, fun h => h.elim (fun h => absurd rfl h) id, fun _ => Int.le_refl _, fun c hc => by simp at hc⟩
      | cons c cs ihc =>
        intro hcs q hq
        have hc := hcs c (List.mem_cons_self ..)
        obtain ⟨a1, a2, a3, a4⟩ := ih (share ++ [(c : Int)]) q (by simp; omega) (inC_snoc hin (by omega) (by omega)) hq
        rw [← step c q hc] at a1 a2 a3 a4
        obtain ⟨b1, b2, b3, b4⟩ := ihc (fun x hx => hcs x (List.mem_cons_of_mem _ hx)) _ a1
        rw [List.foldl_cons]
        have h2 := b2 (Or.inr a2)
        have h3 := b3 a2
        refine ⟨b1, fun _ => h2, fun h => by have := a3 h; omega, fun x hx a ha hia => ?_⟩
        rcases List.mem_cons.1 hx with rfl | hx
        · have := a4 a ha hia
          rw [List.append_assoc, List.singleton_append] at this
          omega
        · exact b4 x hx a ha hia
    obtain ⟨k1, k2, k3, k4⟩ := key (List.range m) (fun c hc => List.mem_range.1 hc) st hg
    refine ⟨k1, k2 (Or.inl (by rw [Ne, List.range_eq_nil]; omega)), k3, fun a ha hia => ?_⟩
    cases a with
    | nil => simp at ha
    | cons x a =>
      obtain ⟨x0, x1⟩ := hia x (List.mem_cons_self ..)
      have := k4 x.toNat (List.mem_range.2 (by omega)) a (by simpa using ha) (fun y hy => hia y (List.mem_cons_of_mem _ hy))
      rwa [Int.toNat_of_nonneg x0] at this
theorem shareIst_least : (shareIst l m).1.length = ds.length ∧ inC m (shareIst l m).1 ∧ (shareIst l m).2 = topC (runC (List.replicate m 0) ds (shareIst l m).1) ∧ 0 ≤ (shareIst l m).2 ∧
    ∀ a : List Int, a.length = ds.length → inC m a → (shareIst l m).2 ≤ topC (runC (List.replicate m 0) ds a) := by
  have h := shareI_least l m ds hds hd hm l.length [] ([], -1) (by rw [hds]; simp) (fun x hx => by simp at hx) (Or.inl (by decide))
  rw [runC_nil] at h
  obtain ⟨h1, h2, _, h4⟩ := h
  unfold shareIst
  rcases h1 with h1 | ⟨g1, g2, g3⟩
  · omega
  · exact ⟨g1, g2, g3, h2, fun a ha hia => by simpa using h4 a (by rw [ha, hds, List.length_map]) hia⟩
end
end Go.Proofs.YtkegmjebkikniaaB
