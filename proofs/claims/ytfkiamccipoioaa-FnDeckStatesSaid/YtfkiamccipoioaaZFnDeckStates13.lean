/- Texts of this claim, packed: DeckF, Src, DeckG, DeckH. -/
import Derived.Laws.BitsLemmas
import Derived.Test.YtfkiamccipoioaaZFnDeckStates12
section
/- What the search comes to: the ways that it finds are shortest ones. -/
namespace Go.Proofs.YtfkiamccipoioaaB
open Go.RowKit Go.Proofs.YtfkiamccipoioaaW.PrintWords Go.Proofs.YtfkiamccipoioaaW.PrintLast Go.Proofs.YtfkiamccipoioaaW.PrintMore Go.Proofs.Ytfkiamccipoioaa.P

/-- A walk of changes that are allowed. -/
def Goes (n : List Int) (ys : List (List Int)) : List Int → List Int → List Int → Prop
  | l, [], q => l = q
  | l, x :: xs, q => 0 ≤ x ∧ x < (n.length : Int) ∧ changeC n ys l x = 0 ∧ Goes n ys (flipL l x) xs q
section
variable {n : List Int} {ys : List (List Int)}
theorem Goes.snoc : ∀ (xs : List Int) (l q : List Int) (x : Int), Goes n ys l xs q → 0 ≤ x → x < (n.length : Int) → changeC n ys q x = 0 → Goes n ys l (xs ++ [x]) (flipL q x)
  | [], l, q, x, h, h0, h1, h2 => by
    have e : l = q := h
    subst e
    exact ⟨h0, h1, h2, rfl⟩
  | y :: xs, l, q, x, h, h0, h1, h2 => ⟨h.1, h.2.1, h.2.2.1, Goes.snoc xs _ q x h.2.2.2 h0 h1 h2⟩
theorem Goes.unsnoc : ∀ (xs : List Int) (l q : List Int) (x : Int), Goes n ys l (xs ++ [x]) q → ∃ p, Goes n ys l xs p ∧ 0 ≤ x ∧ x < (n.length : Int) ∧ changeC n ys p x = 0 ∧ flipL p x = q
  | [], l, q, x, h => ⟨l, rfl, h.1, h.2.1, h.2.2.1, h.2.2.2⟩
  | y :: xs, l, q, x, h => by
    obtain ⟨p, h1, h2⟩ := Goes.unsnoc xs _ q x h.2.2.2
    exact ⟨p, ⟨h.1, h.2.1, h.2.2.1, h1⟩, h2⟩
theorem Goes.ok : ∀ (xs : List Int) (l q : List Int), Goes n ys l xs q → DeckOk n ys l → DeckOk n ys q
  | [], l, q, h, hl => by
    have e : l = q := h
    exact e ▸ hl
  | x :: xs, l, q, h, hl => Goes.ok xs _ q h.2.2.2 (hl.flip x)
theorem Goes.run : ∀ (xs : List Int) (l q : List Int), Goes n ys l xs q → runR n ys l xs = (strOfNums q, 0)
  | [], l, q, h => by
    have e : l = q := h
    rw [runR, e]
  | x :: xs, l, q, h => by rw [runR, if_pos h.2.2.1]; exact Goes.run xs _ q h.2.2.2
theorem Goes.lines : ∀ (xs : List Int) (l q : List Int), Goes n ys l xs q → ∀ x ∈ xs, 0 ≤ x ∧ x < (n.length : Int)
  | [], _, _, _ => by simp
  | x :: xs, l, q, h => by
    intro y hy
    rcases List.mem_cons.1 hy with rfl | hy
    · exact ⟨h.1, h.2.1⟩
    · exact Goes.lines xs _ q h.2.2.2 y hy
theorem getD_old {α : Type} (W : List (List α)) (x : List α) {t : Nat} (h : t < W.length) : (W ++ [x]).getD t [] = W.getD t [] := by
  rw [List.getD_eq_getElem?_getD, List.getElem?_append_left h, ← List.getD_eq_getElem?_getD]
theorem getD_new {α : Type} (W : List (List α)) (x : List α) {t : Nat} (h : t = W.length) : (W ++ [x]).getD t [] = x := by
  rw [List.getD_eq_getElem?_getD, h, List.getElem?_append_right (Nat.le_refl _), Nat.sub_self]; rfl
end
/-- What the search holds on its ways, ahead of line j of state i. -/
structure Bfs (n : List Int) (ys : List (List Int)) (l0 : List Int) (L W : List (List Int)) (i j : Nat) : Prop where
  goes : ∀ t l, L[t]? = some l → Goes n ys l0 (W.getD t []) l
  mono : ∀ t u, t ≤ u → u < L.length → (W.getD t []).length ≤ (W.getD u []).length
  cap : i < L.length → ∀ t, t < L.length → (W.getD t []).length ≤ (W.getD i []).length + 1
  done : ∀ t l (x : Nat), L[t]? = some l → x < n.length → (t < i ∨ t = i ∧ x < j) → changeC n ys l (x : Int) = 0 → ∃ u, L[u]? = some (flipL l (x : Int)) ∧ (W.getD u []).length ≤ (W.getD t []).length + 1
  only : ∀ t l, 0 < t → L[t]? = some l → ∃ b m, L[b]? = some m ∧ b < i + 1 ∧ ∃ x : Nat, x < n.length ∧ changeC n ys m (x : Int) = 0 ∧ b < t
section
variable {n : List Int} {ys : List (List Int)} {l0 : List Int} {L W : List (List Int)} {P : List (Int × Int)} {i j : Nat} {l : List Int}
theorem Bfs.push (hB : Bfs n ys l0 L W i j) (hI : AllInv n ys L P W) (hi : L[i]? = some l) (hj : j < n.length) (hc : changeC n ys l (j : Int) = 0) :
    Bfs n ys l0 (L ++ [flipL l (j : Int)]) (W ++ [W.getD i [] ++ [(j : Int)]]) i (j + 1) := by
  have hwl := hI.wl
  have hil := (List.getElem?_eq_some_iff.1 hi).1
  have hcap := hB.cap hil
  have hnl : (W.getD i [] ++ [(j : Int)]).length = (W.getD i []).length + 1 := by rw [List.length_append, List.length_singleton]
  have hlt : ∀ t q, (L ++ [flipL l (j : Int)])[t]? = some q → (t < L.length ∧ L[t]? = some q) ∨ (t = L.length ∧ q = flipL l (j : Int)) := by
    intro t q h
    by_cases ht : t < L.length
    · rw [List.getElem?_append_left ht] at h; exact .inl ⟨ht, h⟩
    · have h2 := (List.getElem?_eq_some_iff.1 h).1
      rw [List.length_append, List.length_singleton] at h2
      have e : t = L.length := by omega
      subst e
      rw [List.getElem?_append_right (Nat.le_refl _), Nat.sub_self] at h
      exact .inr ⟨rfl, (Option.some.inj h).symm⟩
  refine ⟨fun t q h => ?_, fun t u htu hu => ?_, fun _ t ht => ?_, fun t q x h hx hd hq => ?_, fun t q h0 h => ?_⟩
  · rcases hlt t q h with ⟨h1, h2⟩ | ⟨h1, h2⟩
    · rw [getD_old _ _ (by omega)]; exact hB.goes t q h2
    · rw [getD_new _ _ (by omega), h2]
      exact Goes.snoc _ _ _ _ (hB.goes i l hi) (by omega) (by omega) hc
  · rw [List.length_append, List.length_singleton] at hu
    by_cases h1 : u < L.length
    · rw [getD_old _ _ (by omega), getD_old _ _ (by omega)]; exact hB.mono t u htu h1
    · rw [getD_new (t := u) _ _ (by omega), hnl]
      by_cases h2 : t < L.length
      · rw [getD_old _ _ (by omega)]; exact hcap t h2
      · rw [getD_new (t := t) _ _ (by omega), hnl]; exact Nat.le_refl _
  · rw [List.length_append, List.length_singleton] at ht
    rw [getD_old (t := i) _ _ (by omega)]
    by_cases h2 : t < L.length
    · rw [getD_old _ _ (by omega)]; exact hcap t h2
    · rw [getD_new (t := t) _ _ (by omega), hnl]; exact Nat.le_refl _
  · rcases hlt t q h with ⟨h1, h2⟩ | ⟨h1, h2⟩
    · by_cases he : t = i ∧ x = j
      · obtain ⟨rfl, rfl⟩ := he
        have e : q = l := Option.some.inj (h2.symm.trans hi)
        subst e
        refine ⟨L.length, ?_, ?_⟩
        · rw [List.getElem?_append_right (Nat.le_refl _), Nat.sub_self]; rfl
        · rw [getD_new (t := L.length) _ _ (by omega), getD_old (t := t) _ _ (by omega), hnl]; exact Nat.le_refl _
      · obtain ⟨u, hu1, hu2⟩ := hB.done t q x h2 hx (by omega) hq
        have hul := (List.getElem?_eq_some_iff.1 hu1).1
        exact ⟨u, by rw [List.getElem?_append_left hul]; exact hu1, by rw [getD_old _ _ (by omega), getD_old _ _ (by omega)]; exact hu2⟩
    · omega
  · rcases hlt t q h with ⟨h1, h2⟩ | ⟨h1, h2⟩
    · obtain ⟨b, m, hb, hbi, x, hx, hcx, hbt⟩ := hB.only t q h0 h2
      exact ⟨b, m, by rw [List.getElem?_append_left (by omega)]; exact hb, hbi, x, hx, hcx, hbt⟩
    · exact ⟨i, l, by rw [List.getElem?_append_left hil]; exact hi, by omega, j, hj, hc, by omega⟩
theorem Bfs.skip (hB : Bfs n ys l0 L W i j) (hi : L[i]? = some l) (hc : changeC n ys l (j : Int) = 0 → ∃ u : Nat, L[u]? = some (flipL l (j : Int))) : Bfs n ys l0 L W i (j + 1) := by
  have hil := (List.getElem?_eq_some_iff.1 hi).1
  refine ⟨hB.goes, hB.mono, hB.cap, fun t q x h hx hd hq => ?_, hB.only⟩
  by_cases he : t = i ∧ x = j
  · obtain ⟨rfl, rfl⟩ := he
    have e : q = l := Option.some.inj (h.symm.trans hi)
    subst e
    obtain ⟨u, hu⟩ := hc hq
    exact ⟨u, hu, hB.cap hil u (List.getElem?_eq_some_iff.1 hu).1⟩
  · exact hB.done t q x h hx (by omega) hq
theorem Bfs.next (hB : Bfs n ys l0 L W i n.length) (hil : i < L.length) : Bfs n ys l0 L W (i + 1) 0 := by
  refine ⟨hB.goes, hB.mono, fun h t ht => ?_, fun t q x h hx hd hq => hB.done t q x h hx (by omega) hq, fun t q h0 h => ?_⟩
  · have h1 := hB.cap hil t ht
    have h2 := hB.mono i (i + 1) (by omega) h
    omega
  · obtain ⟨b, m, hb, hbi, r⟩ := hB.only t q h0 h
    exact ⟨b, m, hb, by omega, r⟩
end
theorem row_bfs {n : List Int} {ys : List (List Int)} {l0 : List Int} {i : Nat} {l : List Int} : ∀ (d j : Nat) (L : List (List Int)) (P : List (Int × Int)) (W : List (List Int)), j + d = n.length → AllInv n ys L P W → L[i]? = some l → Bfs n ys l0 L W i j →
    ∃ L' P' W', AllInv n ys L' P' W' ∧ L'[i]? = some l ∧ Bfs n ys l0 L' W' i n.length ∧ (∀ r, Ev (fun k => impl_reachedSets.l0 k (eX L') W' (i + 1) n ys) r → Ev (fun k => impl_reachedSets.l1 k (eX L) W i j n ys) r) ∧ (∀ q, L[0]? = some q → L'[0]? = some q) := by
  intro d
  induction d with
  | zero =>
    intro j L P W hj hI hi hB
    refine ⟨L, P, W, hI, hi, by rw [Nat.add_zero] at hj; exact hj ▸ hB, fun r h => ?_, fun _ h => h⟩
    exact Ev.step (fun k => by rw [impl_reachedSets.l1]) (ev_neg (by omega) h)
  | succ d ih =>
    intro j L P W hj hI hi hB
    have hfew := hI.few
    have hil := (List.getElem?_eq_some_iff.1 hi).1
    have hok := hI.ok l (List.mem_of_getElem? hi)
    have hn8 := hok.few
    have hll := hok.len
    have hq : DeckOk n ys (flipL l (j : Int)) := hok.flip _
    have hnx : nextS (eX L) i j = ((setN (flipL l (j : Int)) : Nat) : Int) := by
      unfold nextS
      rw [rd_eX hi]
      exact flip_bits l (by omega) (j : Int) (by omega) (by omega)
    have hwf : (Lit.int .i64 (nextS (eX L) i j)).wf = true := by rw [hnx]; exact wf_set (by rw [hq.len]; omega)
    have hxl : (eX L).length = L.length := List.length_map ..
    have hw9 : (Lit.int .i64 (nextS (eX L) i j)).wf = true ∧ i < (eX L).length := ⟨hwf, by omega⟩
    have hct : (eX L).contains (nextS (eX L) i j) = decide (numN (flipL l (j : Int)) ∈ L.map numN) := by rw [hnx]; exact contains_eX hI.ok hq
    have himp : Ev (fun k => impl_changeCode.f k n ys (rd (eX L) (i : Int)) (j : Int)) (changeC n ys l (j : Int)) := by
      rw [rd_eX hi]
      exact impl_change hok (j : Int) (by omega) (by omega)
    by_cases hs : numN (flipL l (j : Int)) ∈ L.map numN
    · obtain ⟨m, hm, hmn⟩ := List.mem_map.1 hs
      have hmo := hI.ok m hm
      have e : m = flipL l (j : Int) := numN_inj (by rw [hmo.len, hq.len]) hmo.fast hq.fast hmn
      subst e
      obtain ⟨u, hu⟩ := List.getElem?_of_mem hm
      obtain ⟨L', P', W', h1, h2, h3, h4, h5⟩ := ih (j + 1) L P W (by omega) hI hi (hB.skip hi (fun _ => ⟨u, hu⟩))
      exact ⟨L', P', W', h1, h2, h3, fun r h => Ev.step (fun k => by rw [impl_reachedSets.l1]) (ev_pos (by omega) (ev_pos hw9 (ev_pos (by rw [hct, decide_eq_true hs]) (h4 r h)))), h5⟩
    · by_cases hch : changeC n ys l (j : Int) = 0
      · obtain ⟨L', P', W', h1, h2, h3, h4, h5⟩ := ih (j + 1) (L ++ [flipL l (j : Int)]) (P ++ [((i : Int), (j : Int))]) (W ++ [W.getD i [] ++ [(j : Int)]]) (by omega) (hI.push hil hq hs (j : Int)) (by rw [List.getElem?_append_left hil]; exact hi) (hB.push hI hi (by omega) hch)
        have hWi := hI.way i
        have hwl := hI.wl
        have hs9 : (eX L).length < 1048576 ∧ W.length < 1048576 ∧ (rd_L1 W (i : Int)).length < 1048576 ∧ i < W.length := ⟨by omega, by omega, by rw [getD_of]; omega, by omega⟩
        refine ⟨L', P', W', h1, h2, h3, fun r h => ?_, fun q hq => h5 q (by rw [List.getElem?_append_left (by omega)]; exact hq)⟩
        refine Ev.step (fun k => by rw [impl_reachedSets.l1]) (ev_pos (by omega) (ev_pos hw9 (ev_neg (by rw [hct, decide_eq_false hs]; simp) (Ev.bind himp (ev_pos hch (ev_pos hs9 ?_))))))
        have := h4 r h
        rw [getD_of, hnx]
        have e : eX (L ++ [flipL l (j : Int)]) = eX L ++ [((setN (flipL l (j : Int)) : Nat) : Int)] := by unfold eX; rw [List.map_append]; rfl
        rw [e] at this
        exact this
      · obtain ⟨L', P', W', h1, h2, h3, h4, h5⟩ := ih (j + 1) L P W (by omega) hI hi (hB.skip hi (fun h => absurd h hch))
        exact ⟨L', P', W', h1, h2, h3, fun r h => Ev.step (fun k => by rw [impl_reachedSets.l1]) (ev_pos (by omega) (ev_pos hw9 (ev_neg (by rw [hct, decide_eq_false hs]; simp) (Ev.bind himp (ev_neg hch (h4 r h)))))), h5⟩
theorem search_bfs {n : List Int} {ys : List (List Int)} {l0 : List Int} : ∀ (m i : Nat) (L : List (List Int)) (P : List (Int × Int)) (W : List (List Int)), 256 ≤ m + i → i ≤ L.length → AllInv n ys L P W → Bfs n ys l0 L W i 0 →
    ∃ L' P' W' i', AllInv n ys L' P' W' ∧ L'.length ≤ i' ∧ Bfs n ys l0 L' W' i' 0 ∧ Ev (fun k => impl_reachedSets.l0 k (eX L) W i n ys) (eX L', W') ∧ (∀ l, L[0]? = some l → L'[0]? = some l) := by
  intro m
  induction m with
  | zero =>
    intro i L P W hm hi hI hB
    have hfew := hI.few
    have hxl : (eX L).length = L.length := List.length_map ..
    exact ⟨L, P, W, i, hI, by omega, hB, Ev.step (fun k => by rw [impl_reachedSets.l0]) (ev_neg (by omega) (Ev.now _)), fun _ h => h⟩
  | succ m ih =>
    intro i L P W hm hi hI hB
    have hfew := hI.few
    have hxl : (eX L).length = L.length := List.length_map ..
    by_cases hlt : i < L.length
    · obtain ⟨l, hl⟩ : ∃ l, L[i]? = some l := ⟨_, List.getElem?_eq_getElem hlt⟩
      obtain ⟨L1, P1, W1, h1, h2, h3, h4, h5⟩ : ∃ L' P' W', AllInv n ys L' P' W' ∧ L'[i]? = some l ∧ _ ∧ _ ∧ (∀ q, L[0]? = some q → L'[0]? = some q) := row_bfs n.length 0 L P W (by omega) hI hl hB
      have hil := (List.getElem?_eq_some_iff.1 h2).1
      obtain ⟨L', P', W', i', g1, g2, g3, g4, g5⟩ := ih (i + 1) L1 P1 W1 (by omega) (by omega) h1 (h3.next hil)
      exact ⟨L', P', W', i', g1, g2, g3, Ev.step (fun k => by rw [impl_reachedSets.l0]) (ev_pos (by omega) (h4 _ g4)), fun q hq => g5 q (h5 q hq)⟩
    · exact ⟨L, P, W, i, hI, by omega, hB, Ev.step (fun k => by rw [impl_reachedSets.l0]) (ev_neg (by omega) (Ev.now _)), fun _ h => h⟩
theorem all_bfs {n : List Int} {ys : List (List Int)} (s : ByteArray) (hok : DeckOk n ys (bytesOf s)) :
    ∃ L P W i, AllInv n ys L P W ∧ L.length ≤ i ∧ Bfs n ys (bytesOf s) L W i 0 ∧ Ev (fun k => impl_reachedSets.f k n ys ((setN (bytesOf s) : Nat) : Int)) (eX L, W) ∧ L[0]? = some (bytesOf s) := by
  have hn8 := hok.few
  have hlen := hok.len
  have hI : AllInv n ys [bytesOf s] [((-1 : Int), (-1 : Int))] [[]] := by
    refine ⟨fun l hl => ?_, by simp, rfl, rfl, rfl, fun t => ?_, fun t h0 ht => ?_⟩
    · rw [List.mem_singleton.1 hl]; exact hok
    · cases t with
      | zero => exact Nat.le_refl _
      | succ t => exact Nat.zero_le _
    · rw [List.length_singleton] at ht; omega
  have h1 : ∀ t l, [bytesOf s][t]? = some l → t = 0 ∧ l = bytesOf s := by
    intro t l h
    have h2 := (List.getElem?_eq_some_iff.1 h).1
    rw [List.length_singleton] at h2
    have e : t = 0 := by omega
    subst e
    exact ⟨rfl, (Option.some.inj h).symm⟩
  have hB : Bfs n ys (bytesOf s) [bytesOf s] [[]] 0 0 := by
    refine ⟨fun t l h => ?_, fun t u htu hu => ?_, fun _ t ht => ?_, fun t l x h hx hd hq => ?_, fun t l h0 h => ?_⟩
    · obtain ⟨rfl, rfl⟩ := h1 t l h; exact rfl
    · rw [List.length_singleton] at hu
      have e : u = 0 := by omega
      have e2 : t = 0 := by omega
      subst e e2
      exact Nat.le_refl _
    · rw [List.length_singleton] at ht
      have e : t = 0 := by omega
      subst e
      exact Nat.zero_le _
    · omega
    · have := (h1 t l h).1; omega
  obtain ⟨L, P, W, i, g1, g2, g3, g4, g5⟩ := search_bfs 256 0 [bytesOf s] [((-1 : Int), (-1 : Int))] [[]] (by omega) (by omega) hI hB
  refine ⟨L, P, W, i, g1, g2, g3, ?_, g5 _ rfl⟩
  unfold impl_reachedSets.f
  exact ev_pos ⟨by omega, wf_set (by omega)⟩ g4
section
variable {n : List Int} {ys : List (List Int)} {l0 : List Int} {L W : List (List Int)} {i : Nat}
theorem Bfs.short (hB : Bfs n ys l0 L W i 0) (hi : L.length ≤ i) (h0 : L[0]? = some l0) (hz : W.getD 0 [] = []) : ∀ (m : Nat) (xs : List Int) (q : List Int), xs.length = m → Goes n ys l0 xs q → ∃ t, L[t]? = some q ∧ (W.getD t []).length ≤ xs.length := by
  intro m
  induction m with
  | zero =>
    intro xs q hm h
    have e := List.length_eq_zero_iff.1 hm
    subst e
    have e : l0 = q := h
    exact ⟨0, e ▸ h0, by rw [hz]; exact Nat.le_refl _⟩
  | succ m ih =>
    intro xs q hm h
    rcases lastO_split xs with rfl | ⟨zs, x, rfl⟩
    · simp at hm
    · obtain ⟨p, h1, h2, h3, h4, h5⟩ := Goes.unsnoc zs l0 q x h
      rw [List.length_append, List.length_singleton] at hm ⊢
      obtain ⟨t, ht, hlt⟩ := ih zs p (by omega) h1
      have htl := (List.getElem?_eq_some_iff.1 ht).1
      obtain ⟨u, hu, hul⟩ := hB.done t p x.toNat ht (by omega) (.inl (by omega)) (by rw [Int.toNat_of_nonneg h2]; exact h4)
      rw [Int.toNat_of_nonneg h2, h5] at hu
      exact ⟨u, hu, by omega⟩
end
end Go.Proofs.YtfkiamccipoioaaB
end

section
/- The choices that are read from bytes: each lies in its bounds. -/
namespace Go.Proofs.YtfkiamccipoioaaB
open Go.RowKit Go.Proofs.YtfkiamccipoioaaW.PrintWords Go.Proofs.YtfkiamccipoioaaW.PrintLast Go.Proofs.Ytfkiamccipoioaa.P

abbrev Code (c : List Int) : Prop := ∀ x ∈ c, 0 ≤ x ∧ x ≤ 255
theorem code_of {c : List Int} (h : ∀ x ∈ c, (Lit.int .u8 x).wf = true) : Code c := fun x hx => by
  have := h x hx
  simp [Lit.wf, IntKind.min, IntKind.max, IntKind.signed, IntKind.bits] at this
  omega
theorem rd_code {c : List Int} (h : Code c) (i : Int) : 0 ≤ rd c i ∧ rd c i ≤ 255 := by
  unfold rd
  rw [List.getD_eq_getElem?_getD]
  cases e : c[i.toNat]? with
  | none => simp
  | some x => simpa using h x (List.mem_of_getElem? e)
theorem wraps_u64 (n : Int) (h0 : 0 ≤ n) (h1 : n < 2 ^ 64) : IntKind.u64.wrap n = n := by
  simp [IntKind.wrap, IntKind.bits, IntKind.signed]
  omega
theorem u64_bound (n : Int) : 0 ≤ IntKind.u64.wrap n ∧ IntKind.u64.wrap n < 18446744073709551616 := by
  simp [IntKind.wrap, IntKind.bits, IntKind.signed]
  omega
theorem and255 (x : Int) (h0 : 0 ≤ x) (h1 : x < 18446744073709551616) : 0 ≤ bits .and .u64 x 255 ∧ bits .and .u64 x 255 ≤ 255 := by
  have := bits_mask .u64 64 (by decide) wraps_u64 8 (by decide) x h0 (by simpa using h1)
  have h2 : bits .and .u64 x 255 = x % 256 := by simpa using this
  rw [h2]
  omega
theorem seed_and (n : Int) : 0 ≤ bits .and .u64 (IntKind.u64.wrap n / 1099511627776) 255 ∧ bits .and .u64 (IntKind.u64.wrap n / 1099511627776) 255 ≤ 255 := by
  have := u64_bound n
  exact and255 _ (by omega) (by omega)
/-- Where the reading stands: there is room for n steps. -/
def Room (n at_ : Int) : Prop := 0 ≤ at_ ∧ at_ + n ≤ 4611686018427387904
theorem next_some {c : List Int} (hc : Code c) (at_ seed : Int) (h : Room 1 at_) : ∃ v s', spec_l00Src_next.f c at_ seed = some (v, at_ + 1, s') ∧ 0 ≤ v ∧ v ≤ 255 := by
  obtain ⟨h0, h1⟩ := h
  have hw : wrap64 (at_ + 1) = at_ + 1 := wrap_small (by omega) (by omega)
  have hr := rd_code hc at_
  have hv : wrap64 (rd c at_) = rd c at_ := wrap_small (by omega) (by omega)
  have hs : ∀ n, wrap64 (bits .and .u64 (IntKind.u64.wrap n / 1099511627776) 255) = bits .and .u64 (IntKind.u64.wrap n / 1099511627776) 255 := fun n => wrap_small (by have := seed_and n; omega) (by have := seed_and n; omega)
  unfold spec_l00Src_next.f
  rw [hw]
  by_cases h2 : at_ < (c.length : Int)
  · rw [if_pos h2, if_pos h0, if_pos (by omega), hv]
    exact ⟨_, _, rfl, hr.1, hr.2⟩
  · rw [if_neg h2, if_neg (by omega), hs]
    exact ⟨_, _, rfl, (seed_and _).1, (seed_and _).2⟩
theorem pick_some {c : List Int} (hc : Code c) (at_ seed n : Int) (h : Room 2 at_) (hn : n ≤ 4611686018427387904) : ∃ r at' s', spec_l00Src_pick.f c at_ seed n = some (r, at', s') ∧ 0 ≤ r ∧ (1 ≤ n → r < n) ∧ at_ ≤ at' ∧ at' ≤ at_ + 2 := by
  have h' := h
  obtain ⟨h0, h1⟩ := h'
  unfold spec_l00Src_pick.f
  by_cases h2 : n ≤ 1
  · rw [if_pos h2]
    exact ⟨_, _, _, rfl, by omega, fun _ => by omega, by omega, by omega⟩
  · obtain ⟨v, s1, e1, hv0, hv1⟩ := next_some hc at_ seed ⟨h0, by omega⟩
    rw [if_neg h2, e1, Option.bind_some]
    by_cases h3 : n > 200
    · obtain ⟨v2, s2, e2, hu0, hu1⟩ := next_some hc (at_ + 1) s1 ⟨by omega, by omega⟩
      rw [if_pos h3]
      dsimp only
      rw [e2, Option.bind_some, if_neg (by omega)]
      dsimp only
      rw [wrap_small (i := v * 256) (by omega) (by omega), wrap_small (by omega) (by omega)]
      exact ⟨_, _, _, rfl, Int.tmod_nonneg _ (by omega), fun _ => Int.tmod_lt_of_pos _ (by omega), by omega, by omega⟩
    · rw [if_neg h3, if_neg (by omega)]
      dsimp only
      exact ⟨_, _, _, rfl, Int.tmod_nonneg _ (by omega), fun _ => Int.tmod_lt_of_pos _ (by omega), by omega, by omega⟩
end Go.Proofs.YtfkiamccipoioaaB
end

section
/- The deck and the state that are drawn are valid. -/
namespace Go.Proofs.YtfkiamccipoioaaB
open Go.RowKit Go.Proofs.YtfkiamccipoioaaW.PrintWords Go.Proofs.YtfkiamccipoioaaW.PrintLast Go.Proofs.YtfkiamccipoioaaW.PrintMore Go.Proofs.Ytfkiamccipoioaa.P

/-- A number put to its place among rising ones, once. -/
def putL (v : Int) : List Int → List Int
  | [] => [v]
  | x :: xs => if x ≥ v then (if x > v then v :: x :: xs else x :: xs) else x :: putL v xs
theorem putL_len (v : Int) : ∀ xs, 1 ≤ (putL v xs).length ∧ (putL v xs).length ≤ xs.length + 1
  | [] => by simp [putL]
  | x :: xs => by
    have := putL_len v xs
    rw [putL]
    split
    · split <;> simp
    · rw [List.length_cons, List.length_cons]; omega
theorem putL_rise (m v : Int) (h0 : 0 ≤ v) (h1 : v ≤ m - 1) : ∀ (xs : List Int) (pv : Option Int), riseB m pv xs = true → ltO pv v = true → riseB m pv (putL v xs) = true
  | [], pv, _, hl => by simp [putL, riseB, lineB, hl, h0, h1]
  | x :: xs, pv, h, hl => by
    rw [riseB, Bool.and_eq_true] at h
    rw [putL]
    by_cases hx : x ≥ v
    · rw [if_pos hx]
      by_cases hx2 : x > v
      · rw [if_pos hx2, riseB, riseB, h.2, Bool.and_true]
        have h2 := h.1
        simp only [lineB, Bool.and_eq_true, decide_eq_true_eq] at h2 ⊢
        exact ⟨⟨⟨h0, h1⟩, hl⟩, ⟨h2.1.1, h2.1.2⟩, by rw [ltO]; exact decide_eq_true hx2⟩
      · rw [if_neg hx2, riseB, h.1, h.2]; rfl
    · rw [if_neg hx, riseB, h.1, Bool.true_and]
      exact putL_rise m v h0 h1 xs (some x) h.2 (by rw [ltO]; exact decide_eq_true (by omega))
theorem put_done (x0 : List Int) (v : Int) (hl : x0.length ≤ 1048576) : ∀ (xs p out : List Int), x0 = p ++ xs → out.length ≤ 1048576 + p.length → Ev (fun k => spec_l00Put.l0 k x0 v out true (p.length : Int)) (out ++ xs) := by
  intro xs
  induction xs with
  | nil =>
    intro p out hp _
    rw [List.append_nil] at hp ⊢
    exact Ev.step (fun k => by rw [spec_l00Put.l0]) (ev_neg (by rw [hp]; omega) (ev_pos rfl (Ev.now _)))
  | cons x xs ih =>
    intro p out hp ho
    have hpl : (p.length : Int) + (xs.length + 1) = x0.length := by rw [hp]; simp
    have hx : rd x0 (p.length : Int) = x := by rw [hp]; exact rd_mid p x xs
    have hw : wrap64 ((p.length : Int) + 1) = ((p ++ [x]).length : Int) := wrap_next p x (by omega)
    refine Ev.step (fun k => by rw [spec_l00Put.l0]) (ev_pos (by omega) (ev_pos rfl (Ev.step (fun k => by rw [spec_l00Put.j1]) (ev_neg (by simp) (ev_pos (by omega) (ev_pos (by omega) (ev_pos (by omega) ?_)))))))
    rw [hx, hw]
    have := ih (p ++ [x]) (out ++ [x]) (by rw [hp]; simp) (by simp; omega)
    rwa [List.append_assoc, List.singleton_append] at this
theorem put_loop (x0 : List Int) (v : Int) (hl : x0.length ≤ 1048576) : ∀ (xs p out : List Int), x0 = p ++ xs → out.length ≤ p.length → Ev (fun k => spec_l00Put.l0 k x0 v out false (p.length : Int)) (out ++ putL v xs) := by
  intro xs
  induction xs with
  | nil =>
    intro p out hp ho
    rw [List.append_nil] at hp
    have hpl : p.length = x0.length := by rw [hp]
    show Ev _ (out ++ [v])
    exact Ev.step (fun k => by rw [spec_l00Put.l0]) (ev_neg (by omega) (ev_neg (by simp) (ev_pos (by omega) (Ev.now _))))
  | cons x xs ih =>
    intro p out hp ho
    have hpl : (p.length : Int) + (xs.length + 1) = x0.length := by rw [hp]; simp
    have hx : rd x0 (p.length : Int) = x := by rw [hp]; exact rd_mid p x xs
    have hw : wrap64 ((p.length : Int) + 1) = ((p ++ [x]).length : Int) := wrap_next p x (by omega)
    refine Ev.step (fun k => by rw [spec_l00Put.l0]) (ev_pos (by omega) (ev_neg (by simp) (ev_pos (by omega) ?_)))
    rw [hx]
    rw [putL]
    by_cases h : x ≥ v
    · rw [if_pos h, decide_eq_true h]
      refine Ev.step (fun k => by rw [spec_l00Put.j1]) (ev_pos rfl (ev_pos (by omega) (ev_pos (by omega) ?_)))
      rw [hx, hw]
      by_cases h2 : x > v
      · rw [if_pos h2]
        refine ev_pos h2 (ev_pos (by omega) (Ev.bind (Ev.now _) (ev_pos (by simp; omega) ?_)))
        have := put_done x0 v hl xs (p ++ [x]) (out ++ [v] ++ [x]) (by rw [hp]; simp) (by simp; omega)
        simpa using this
      · rw [if_neg h2]
        refine ev_neg h2 (ev_pos (by omega) ?_)
        have := put_done x0 v hl xs (p ++ [x]) (out ++ [x]) (by rw [hp]; simp) (by simp; omega)
        simpa using this
    · rw [if_neg h, decide_eq_false h]
      refine Ev.step (fun k => by rw [spec_l00Put.j1]) (ev_neg (by simp) (ev_pos (by omega) (ev_pos (by omega) (ev_pos (by omega) ?_))))
      rw [hx, hw]
      have := ih (p ++ [x]) (out ++ [x]) (by rw [hp]; simp) (by simp; omega)
      rwa [List.append_assoc, List.singleton_append] at this
theorem put_ev (x0 : List Int) (v : Int) (hl : x0.length ≤ 1048576) : Ev (fun k => spec_l00Put.f k x0 v) (putL v x0) := by
  unfold spec_l00Put.f
  exact put_loop x0 v hl x0 [] [] rfl (Nat.le_refl _)
theorem needsB_snoc (m : Int) : ∀ (xs : List Int) (i x : Int), needsB m i (xs ++ [x]) = (needsB m i xs && needB m (i + xs.length) x)
  | [], i, x => by simp [needsB]
  | y :: xs, i, x => by
    rw [List.cons_append, needsB, needsB, needsB_snoc m xs (i + 1) x, Bool.and_assoc, List.length_cons]
    congr 3
    omega
section
variable {c : List Int} (hc : Code c) {n : List Int} (m : Nat) (hm1 : 1 ≤ m) (hm6 : m ≤ 6)
include hc hm1 hm6
theorem yard_draw (x7 : Int) (ys : List (List Int)) (hy : ys.length ≤ 1048576) : ∀ (e : Nat) (y : List Int) (at_ seed : Int), 0 ≤ at_ → at_ + 2 * e ≤ 100000 → yardB m y = true → y.length + e ≤ 3 →
    ∃ y' at' s', yardB m y' = true ∧ y'.length ≤ 3 ∧ at_ ≤ at' ∧ at' ≤ at_ + 2 * e ∧ ∀ r, Ev (fun k => spec_l20Draw.l1 k (m : Int) (wrap64 (x7 - 1)) c at' s' n (ys ++ [y'])) r → Ev (fun k => spec_l20Draw.l2 k (m : Int) x7 y (e : Int) c at_ seed n ys) r := by
  intro e
  induction e with
  | zero =>
    intro y at_ seed h0 h1 hyd hl
    exact ⟨y, at_, seed, hyd, by omega, Int.le_refl _, by omega, fun r h => Ev.step (fun k => by rw [spec_l20Draw.l2]) (ev_neg (by omega) (ev_pos (by omega) h))⟩
  | succ e ih =>
    intro y at_ seed h0 h1 hyd hl
    obtain ⟨v, t, s, ev, v0, v1, t0, t1⟩ := pick_some hc at_ seed (m : Int) ⟨h0, by omega⟩ (by omega)
    have v2 := v1 (by omega)
    rw [yardB, Bool.and_eq_true] at hyd
    have hpl := putL_len v y
    have hyd2 : yardB m (putL v y) = true := by
      rw [yardB, Bool.and_eq_true]
      exact ⟨by rw [decide_eq_false (by omega)]; rfl, putL_rise m v v0 (by omega) y none hyd.2 rfl⟩
    obtain ⟨y', t', s', g1, g2, g3, g4, g5⟩ := ih (putL v y) t s (by omega) (by omega) hyd2 (by omega)
    refine ⟨y', t', s', g1, g2, by omega, by omega, fun r h => Ev.step (fun k => by rw [spec_l20Draw.l2]) (ev_pos (by omega) (ev_bind0 ev (Ev.bind (put_ev y v (by omega)) ?_)))⟩
    have hw : wrap64 (((e + 1 : Nat) : Int) - 1) = (e : Int) := (wrap_small (by omega) (by omega)).trans (by omega)
    rw [hw]
    exact g5 r h
theorem yards_draw : ∀ (d : Nat) (ys : List (List Int)) (at_ seed : Int), 0 ≤ at_ → at_ + 100 * d ≤ 10000 → ys.all (yardB m) = true → ys.length + d ≤ 3 → (∀ r ∈ ys, r.length ≤ 3) →
    ∃ ys' at' s', Ev (fun k => spec_l20Draw.l1 k (m : Int) (d : Int) c at_ seed n ys) (n, ys', at', s') ∧ ys'.all (yardB m) = true ∧ ys'.length ≤ 3 ∧ (∀ r ∈ ys', r.length ≤ 3) ∧ 0 ≤ at' ∧ at' ≤ 10000 := by
  intro d
  induction d with
  | zero =>
    intro ys at_ seed h0 h1 hys hl hr
    exact ⟨ys, at_, seed, Ev.step (fun k => by rw [spec_l20Draw.l1]) (ev_neg (by omega) (Ev.now _)), hys, by omega, hr, h0, by omega⟩
  | succ d ih =>
    intro ys at_ seed h0 h1 hys hl hr
    obtain ⟨v, t, s, ev, v0, v1, t0, t1⟩ := pick_some hc at_ seed (m : Int) ⟨h0, by omega⟩ (by omega)
    obtain ⟨j, t2, s2, ej, j0, j1, t3, t4⟩ := pick_some hc t s 2 ⟨by omega, by omega⟩ (by omega)
    have v2 := v1 (by omega)
    have j2 := j1 (by omega)
    have hyd : yardB m [v] = true := by simp [yardB, riseB, lineB, ltO]; omega
    obtain ⟨y', t', s', g1, g2, g3, g4, g5⟩ := yard_draw hc (n := n) m hm1 hm6 ((d + 1 : Nat) : Int) ys (by omega) (1 + j).toNat [v] t2 s2 (by omega) (by omega) hyd (by simp; omega)
    obtain ⟨ys', t9, s9, k1, k2, k3, k4, k5, k6⟩ := ih (ys ++ [y']) t' s' (by omega) (by omega) (by rw [List.all_append, hys]; simp [g1]) (by simp; omega) (fun r hrr => by
      rcases List.mem_append.1 hrr with h | h
      · exact hr r h
      · rw [List.mem_singleton.1 h]; exact g2)
    refine ⟨ys', t9, s9, Ev.step (fun k => by rw [spec_l20Draw.l1]) (ev_pos (by omega) (ev_bind0 ev (ev_bind0 ej ?_))), k2, k3, k4, k5, k6⟩
    dsimp only
    have hw : wrap64 (1 + j) = ((1 + j).toNat : Int) := (wrap_small (by omega) (by omega)).trans (by omega)
    have hw2 : wrap64 (((d + 1 : Nat) : Int) - 1) = (d : Int) := (wrap_small (by omega) (by omega)).trans (by omega)
    rw [hw]
    refine g5 _ ?_
    rw [hw2]
    exact k1
theorem needs_draw : ∀ (d : Nat) (p : List Int) (at_ seed : Int), p.length + d = m → 0 ≤ at_ → at_ + 4 * d ≤ 1000 → needsB m 0 p = true → (∀ x ∈ p, -1 ≤ x ∧ x ≤ 5) →
    ∃ n' ys' at' s', Ev (fun k => spec_l20Draw.l0 k (m : Int) (p.length : Int) c at_ seed p []) (n', ys', at', s') ∧ n'.length = m ∧ needsB m 0 n' = true ∧ (∀ x ∈ n', -1 ≤ x ∧ x ≤ 5) ∧ ys'.all (yardB m) = true ∧ ys'.length ≤ 3 ∧ (∀ r ∈ ys', r.length ≤ 3) ∧ 0 ≤ at' ∧ at' ≤ 10000 := by
  intro d
  induction d with
  | zero =>
    intro p at_ seed hl h0 h1 hn hb
    obtain ⟨v, t, s, ev, v0, v1, t0, t1⟩ := pick_some hc at_ seed 4 ⟨h0, by omega⟩ (by omega)
    have v2 := v1 (by omega)
    obtain ⟨ys', t9, s9, k1, k2, k3, k4, k5, k6⟩ := yards_draw hc (n := p) m hm1 hm6 v.toNat [] t s (by omega) (by omega) rfl (by simp; omega) (by simp)
    rw [Int.toNat_of_nonneg v0] at k1
    exact ⟨p, ys', t9, s9, Ev.step (fun k => by rw [spec_l20Draw.l0]) (ev_neg (by omega) (ev_bind0 ev k1)), by omega, hn, hb, k2, k3, k4, k5, k6⟩
  | succ d ih =>
    intro p at_ seed hl h0 h1 hn hb
    obtain ⟨v, t, s, ev, v0, v1, t0, t1⟩ := pick_some hc at_ seed 3 ⟨h0, by omega⟩ (by omega)
    have e1 : spec_l00Src_one.f c at_ seed 3 = some ((v == 0), t, s) := by unfold spec_l00Src_one.f; rw [ev]; rfl
    have hw : ∀ x : Int, wrap64 ((p.length : Int) + 1) = ((p ++ [x]).length : Int) := fun x => wrap_next p x (by omega)
    have hgo : ∀ (x t' s' : Int), needB m (p.length : Int) x = true → -1 ≤ x → x ≤ 5 → at_ ≤ t' → t' ≤ at_ + 4 → ∃ n' ys' at' s2, Ev (fun k => spec_l20Draw.l0 k (m : Int) (wrap64 ((p.length : Int) + 1)) c t' s' (p ++ [x]) []) (n', ys', at', s2) ∧ n'.length = m ∧ needsB m 0 n' = true ∧ (∀ x ∈ n', -1 ≤ x ∧ x ≤ 5) ∧ ys'.all (yardB m) = true ∧ ys'.length ≤ 3 ∧ (∀ r ∈ ys', r.length ≤ 3) ∧ 0 ≤ at' ∧ at' ≤ 10000 := by
      intro x t' s' hx x0 x1 ht0 ht1
      rw [hw x]
      refine ih (p ++ [x]) t' s' (by simp; omega) (by omega) (by omega) (by rw [needsB_snoc, hn, Int.zero_add, hx]; rfl) (fun y hy => ?_)
      rcases List.mem_append.1 hy with h | h
      · exact hb y h
      · rw [List.mem_singleton.1 h]; exact ⟨x0, x1⟩
    have hneg : needB m (p.length : Int) (-1) = true := by simp [needB]; omega
    by_cases hv : v = 0
    · by_cases hm : (m : Int) > 1
      · obtain ⟨j, t2, s2, ej, j0, j1, t3, t4⟩ := pick_some hc t s (wrap64 ((m : Int) - 1)) ⟨by omega, by omega⟩ (by rw [wrap_small (by omega) (by omega)]; omega)
        rw [wrap_small (i := (m : Int) - 1) (by omega) (by omega)] at j1
        have j2 := j1 (by omega)
        have hx0 : Int.tmod (wrap64 (wrap64 ((p.length : Int) + 1) + j)) (m : Int) = ((p.length : Int) + 1 + j) % m := by
          rw [wrap_small (i := (p.length : Int) + 1) (by omega) (by omega), wrap_small (i := (p.length : Int) + 1 + j) (by omega) (by omega)]
          exact Int.tmod_eq_emod_of_nonneg (by omega)
        have hx1 : 0 ≤ ((p.length : Int) + 1 + j) % m := Int.emod_nonneg _ (by omega)
        have hx2 : ((p.length : Int) + 1 + j) % m < m := Int.emod_lt_of_pos _ (by omega)
        have hx3 : ((p.length : Int) + 1 + j) % m ≠ (p.length : Int) := by
          intro e
          by_cases hs : (p.length : Int) + 1 + j < m
          · rw [Int.emod_eq_of_lt (by omega) hs] at e; omega
          · have : ((p.length : Int) + 1 + j) % m = (p.length : Int) + 1 + j - m := by
              rw [← Int.sub_emod_right, Int.emod_eq_of_lt (by omega) (by omega)]
            omega
        obtain ⟨n', ys', t9, s9, k1, kr⟩ := hgo (((p.length : Int) + 1 + j) % m) t2 s2 (by simp [needB]; omega) (by omega) (by omega) (by omega) (by omega)
        refine ⟨n', ys', t9, s9, ?_, kr⟩
        refine Ev.step (fun k => by rw [spec_l20Draw.l0]) (ev_pos (by omega) (ev_bind0 e1 ?_))
        dsimp only
        refine ev_pos (show (v == 0) = true by rw [hv]; rfl) (ev_pos hm (ev_bind0 ej ?_))
        dsimp only
        refine ev_neg (by omega) (ev_pos (by omega) ?_)
        rw [hx0]
        exact k1
      · obtain ⟨n', ys', t9, s9, k1, kr⟩ := hgo (-1) t s hneg (by omega) (by omega) (by omega) (by omega)
        refine ⟨n', ys', t9, s9, ?_, kr⟩
        refine Ev.step (fun k => by rw [spec_l20Draw.l0]) (ev_pos (by omega) (ev_bind0 e1 ?_))
        dsimp only
        exact ev_pos (show (v == 0) = true by rw [hv]; rfl) (ev_neg hm (ev_pos (by omega) k1))
    · obtain ⟨n', ys', t9, s9, k1, kr⟩ := hgo (-1) t s hneg (by omega) (by omega) (by omega) (by omega)
      refine ⟨n', ys', t9, s9, ?_, kr⟩
      refine Ev.step (fun k => by rw [spec_l20Draw.l0]) (ev_pos (by omega) (ev_bind0 e1 ?_))
      dsimp only
      exact ev_neg (show ¬ (v == 0) = true by simpa using hv) (ev_pos (by omega) k1)
end
theorem draw_deck {c : List Int} (hc : Code c) (at_ seed : Int) (h0 : 0 ≤ at_) (h1 : at_ ≤ 100) : ∃ n ys at' s', Ev (fun k => spec_l20Draw.f k c at_ seed) (n, ys, at', s') ∧ n.length ≤ 6 ∧ deckB n ys = true ∧ GoodDeck n ys ∧ 0 ≤ at' ∧ at' ≤ 10000 := by
  obtain ⟨v, t, s, ev, v0, v1, t0, t1⟩ := pick_some hc at_ seed 6 ⟨h0, by omega⟩ (by omega)
  have v2 := v1 (by omega)
  obtain ⟨n, ys, t', s', h, h2, h3, h4, h5, h6, h7, h8, h9⟩ := needs_draw hc (1 + v).toNat (by omega) (by omega) (1 + v).toNat [] t s (by simp) (by omega) (by omega) rfl (by simp)
  have e : ((1 + v).toNat : Int) = 1 + v := by omega
  refine ⟨n, ys, t', s', ?_, by omega, ?_, ⟨⟨by omega, fun x hx => ?_⟩, by omega, fun r hr => ⟨by have := h7 r hr; omega, fun x hx => ?_⟩⟩, h8, h9⟩
  · unfold spec_l20Draw.f
    refine ev_bind0 ev ?_
    dsimp only
    rw [wrap_small (i := 1 + v) (by omega) (by omega), ← e]
    exact h
  · simp only [deckB, Bool.and_eq_true, decide_eq_true_eq]
    rw [h2]
    exact ⟨⟨by omega, by omega⟩, by omega, h3, h5⟩
  · have := h4 x hx
    unfold I64; omega
  · have hy := List.all_eq_true.1 h5 r hr
    rw [yardB, Bool.and_eq_true] at hy
    have := rise_of _ r none hy.2 x hx
    unfold I64; omega
theorem ffl (r : Int) (h0 : 0 ≤ r) (h1 : r < 3) : bt (⟨#[70, 70, 76]⟩ : ByteArray) r = 70 ∨ bt (⟨#[70, 70, 76]⟩ : ByteArray) r = 76 := by
  have : r = 0 ∨ r = 1 ∨ r = 2 := by omega
  rcases this with rfl | rfl | rfl
  · exact .inl rfl
  · exact .inl rfl
  · exact .inr rfl
theorem state_draw {c : List Int} (hc : Code c) {n : List Int} {ys : List (List Int)} (hn : n.length ≤ 1000) : ∀ (d : Nat) (p : List Int) (at_ seed : Int), p.length + d = n.length → 0 ≤ at_ → at_ + 2 * d ≤ 100000 → (∀ x ∈ p, x = 70 ∨ x = 76) →
    ∃ l, Ev (fun k => spec_A2Deck.l0 k p (p.length : Int) c at_ seed n ys) (n, ys, strOfNums l) ∧ l.length = n.length ∧ ∀ x ∈ l, x = 70 ∨ x = 76 := by
  intro d
  induction d with
  | zero =>
    intro p at_ seed hl h0 h1 hp
    exact ⟨p, Ev.step (fun k => by rw [spec_A2Deck.l0]) (ev_neg (by omega) (Ev.now _)), by omega, hp⟩
  | succ d ih =>
    intro p at_ seed hl h0 h1 hp
    obtain ⟨v, t, s, ev, v0, v1, t0, t1⟩ := pick_some hc at_ seed 3 ⟨h0, by omega⟩ (by omega)
    have v2 := v1 (by omega)
    have hw : wrap64 ((p.length : Int) + 1) = ((p ++ [bt (⟨#[70, 70, 76]⟩ : ByteArray) v]).length : Int) := wrap_next p _ (by omega)
    obtain ⟨l, g1, g2, g3⟩ := ih (p ++ [bt (⟨#[70, 70, 76]⟩ : ByteArray) v]) t s (by simp; omega) (by omega) (by omega) (fun x hx => by
      rcases List.mem_append.1 hx with h | h
      · exact hp x h
      · rw [List.mem_singleton.1 h]; exact ffl v v0 v2)
    refine ⟨l, ?_, g2, g3⟩
    refine Ev.step (fun k => by rw [spec_A2Deck.l0]) (ev_pos (by omega) (ev_bind0 ev ?_))
    dsimp only
    refine ev_pos v0 (ev_pos v2 (ev_pos (by omega) ?_))
    rw [hw]
    exact g1
theorem draw_a2 {c : List Int} (hc : Code c) : ∃ n ys s, Ev (fun k => spec_A2Deck.f k c) (n, ys, s) ∧ n.length ≤ 6 ∧ codeD n ys s = 0 ∧ deckB n ys = true ∧ GoodDeck n ys ∧ DeckOk n ys (bytesOf s) := by
  obtain ⟨n, ys, t, s1, h1, h2, h3, h4, h5, h6⟩ := draw_deck hc 0 0 (by omega) (by omega)
  obtain ⟨l, g1, g2, g3⟩ := state_draw hc (n := n) (ys := ys) (by omega) n.length [] t s1 (by simp) h5 (by omega) (by simp)
  have hb : bytesOf (strOfNums l) = l := strOf_bytes g3
  have hs := bytes_length (strOfNums l)
  rw [hb] at hs
  have hst : stateB n (strOfNums l) = true := by
    simp only [stateB, Bool.and_eq_true, decide_eq_true_eq, List.all_eq_true, fastB, Bool.or_eq_true]
    exact ⟨by omega, by rw [hb]; exact g3⟩
  have hcode : codeD n ys (strOfNums l) = 0 := by unfold codeD; rw [if_pos h3, if_pos hst]
  refine ⟨n, ys, strOfNums l, ?_, h2, hcode, h3, h4, deckOk_of n ys _ h4 hcode⟩
  unfold spec_A2Deck.f spec_l00From.f
  exact Ev.bind (Ev.now _) (Ev.bind h1 g1)
end Go.Proofs.YtfkiamccipoioaaB
end

section
/- What the functions on a deck come to at a valid state. -/
namespace Go.Proofs.YtfkiamccipoioaaB
open Go.RowKit Go.Proofs.YtfkiamccipoioaaW.PrintWords Go.Proofs.YtfkiamccipoioaaW.PrintLast Go.Proofs.YtfkiamccipoioaaW.PrintMore Go.Proofs.Ytfkiamccipoioaa.P

theorem a2rises_loop (m : Int) (r : List Int) (hr : r.length ≤ 1048576) : ∀ (xs p : List Int), r = p ++ xs → Ev (fun k => laws_a2Rises.l0 k r m (p.length : Int)) (riseB m (lastO p) xs) := by
  intro xs
  induction xs with
  | nil =>
    intro p hp
    refine Ev.step (fun k => by rw [laws_a2Rises.l0]) ?_
    exact ev_neg (by rw [hp, List.append_nil]; omega) (Ev.now _)
  | cons x xs ih =>
    intro p hp
    have hpl : (p.length : Int) + (xs.length + 1) = r.length := by rw [hp]; simp
    have hx : rd r (p.length : Int) = x := by rw [hp]; exact rd_mid p x xs
    have hw : wrap64 ((p.length : Int) + 1) = ((p ++ [x]).length : Int) := wrap_next p x (by omega)
    have hi := ih (p ++ [x]) (by rw [hp]; simp)
    rw [lastO_snoc] at hi
    refine Ev.step (fun k => by rw [laws_a2Rises.l0]) (ev_pos (by omega) (ev_pos (by omega) ?_))
    rw [hx, hw, riseB, lineB]
    by_cases h0 : x < 0
    · rw [decide_eq_false (show ¬ 0 ≤ x by omega)]
      exact ev_pos h0 (ev_of (Ev.now _) (by simp))
    · by_cases h1 : x ≥ m
      · rw [decide_eq_false (show ¬ x ≤ m - 1 by omega)]
        exact ev_neg h0 (ev_pos h1 (ev_of (Ev.now _) (by simp)))
      · rw [decide_eq_true (show 0 ≤ x by omega), decide_eq_true (show x ≤ m - 1 by omega), Bool.true_and, Bool.true_and]
        refine ev_neg h0 (ev_neg h1 ?_)
        rcases lastO_split p with rfl | ⟨q, y, rfl⟩
        · refine ev_neg (by simp) ?_
          exact hi
        · have hq : rd r (wrap64 (((q ++ [y]).length : Int) - 1)) = y := by
            rw [wrap_small (by omega) (by omega), List.length_append, List.length_singleton, hp]
            rw [show (((q.length + 1 : Nat) : Int) - 1) = (q.length : Int) by omega, List.append_assoc]
            exact rd_mid q y _
          have hql : (q ++ [y]).length = q.length + 1 := by simp
          have hw2 : wrap64 (((q ++ [y]).length : Int) - 1) = (q.length : Int) := (wrap_small (by omega) (by omega)).trans (by omega)
          refine ev_pos (by omega) (ev_pos (by rw [hw2]; omega) (ev_pos (by rw [hw2]; omega) ?_))
          rw [hq, lastO_snoc, ltO]
          by_cases h2 : y ≥ x
          · rw [decide_eq_false (show ¬ y < x by omega)]
            exact ev_pos h2 (ev_of (Ev.now _) (by simp))
          · rw [decide_eq_true (show y < x by omega), Bool.true_and]
            exact ev_neg h2 hi
theorem a2rises_ev (m : Int) (r : List Int) (hr : r.length ≤ 1048576) : Ev (fun k => laws_a2Rises.f k r m) (riseB m none r) := by
  unfold laws_a2Rises.f
  exact a2rises_loop m r hr r [] rfl
theorem a2has_loop (a : Int) (r : List Int) (hr : r.length ≤ 1048576) : ∀ (xs p : List Int), r = p ++ xs → Ev (fun k => laws_a2Has.l0 k r a (p.length : Int)) (xs.contains a) := by
  intro xs
  induction xs with
  | nil =>
    intro p hp
    refine Ev.step (fun k => by rw [laws_a2Has.l0]) ?_
    exact ev_neg (by rw [hp, List.append_nil]; omega) (Ev.now _)
  | cons x xs ih =>
    intro p hp
    have hpl : (p.length : Int) + (xs.length + 1) = r.length := by rw [hp]; simp
    have hx : rd r (p.length : Int) = x := by rw [hp]; exact rd_mid p x xs
    have hw : wrap64 ((p.length : Int) + 1) = ((p ++ [x]).length : Int) := wrap_next p x (by omega)
    refine Ev.step (fun k => by rw [laws_a2Has.l0]) (ev_pos (by omega) (ev_pos (by omega) ?_))
    rw [hx, hw, List.contains_cons]
    refine ev_ite (fun h => ?_) (fun h => ?_)
    · exact ev_of (Ev.now _) (by rw [h]; simp)
    · have e : (a == x) = false := by simp; omega
      rw [e, Bool.false_or]
      exact ih (p ++ [x]) (by rw [hp]; simp)
theorem a2has_ev (a : Int) (r : List Int) (hr : r.length ≤ 1048576) : Ev (fun k => laws_a2Has.f k r a) (r.contains a) := by
  unfold laws_a2Has.f
  exact a2has_loop a r hr r [] rfl
section
variable {n : List Int} {ys : List (List Int)}
theorem chF_mem (l : List Int) : ∀ (d i : Nat) (x : Int), x ∈ chF n ys l d i ↔ ((i : Int) ≤ x ∧ x < ((i + d : Nat) : Int) ∧ changeC n ys l x = 0)
  | 0, i, x => by simp [chF]; omega
  | d + 1, i, x => by
    have ih := chF_mem l d (i + 1) x
    rw [chF]
    by_cases h : changeC n ys l (i : Int) = 0
    · rw [if_pos h, List.mem_cons, ih]
      constructor
      · rintro (rfl | ⟨h1, h2, h3⟩)
        · exact ⟨by omega, by omega, h⟩
        · exact ⟨by omega, by omega, h3⟩
      · rintro ⟨h1, h2, h3⟩
        by_cases hx : x = (i : Int)
        · exact .inl hx
        · exact .inr ⟨by omega, by omega, h3⟩
    · rw [if_neg h, ih]
      constructor
      · rintro ⟨h1, h2, h3⟩
        exact ⟨by omega, by omega, h3⟩
      · rintro ⟨h1, h2, h3⟩
        have hx : x ≠ (i : Int) := fun e => h (e ▸ h3)
        exact ⟨by omega, by omega, h3⟩
variable (hg : GoodDeck n ys) (hd : deckB n ys = true) {l : List Int} (ok : DeckOk n ys l)
include ok
theorem sizeL : (strOfNums l).size = n.length := by
  have := bytes_length (strOfNums l)
  rw [strOf_bytes ok.fast] at this
  have := ok.len
  omega
include hg hd
omit hg in
theorem codeL : codeD n ys (strOfNums l) = 0 := by
  have hs := sizeL ok
  have hst : stateB n (strOfNums l) = true := by
    simp only [stateB, Bool.and_eq_true, decide_eq_true_eq, List.all_eq_true, fastB, Bool.or_eq_true]
    exact ⟨by omega, by rw [strOf_bytes ok.fast]; exact ok.fast⟩
  unfold codeD
  rw [if_pos hd, if_pos hst]
theorem code_val : Ev (fun k => impl_deckCode.f k n ys [strOfNums l]) 0 := by
  have hs := sizeL ok
  have h8 := ok.few
  have := impl_codeD n ys (strOfNums l) hg (by omega)
  rwa [codeL hd ok] at this
omit hg hd in
theorem okS : DeckOk n ys (bytesOf (strOfNums l)) := by rw [strOf_bytes ok.fast]; exact ok
theorem changes_val : Ev (fun k => impl_ChangesOf.f k n ys (strOfNums l)) (chF n ys l n.length 0, 0) := by
  unfold impl_ChangesOf.f
  refine Ev.bind (code_val hg hd ok) (ev_pos rfl ?_)
  have := changes_impl (okS ok) n.length 0 [] (by omega) (Nat.le_refl _)
  rw [strOf_bytes ok.fast, List.nil_append] at this
  exact this
theorem run_val (xs : List Int) (hx : xs.length ≤ 60) (hin : ∀ x ∈ xs, 0 ≤ x ∧ x < (n.length : Int)) : Ev (fun k => impl_RunSteps.f k n ys (strOfNums l) xs) (runR n ys l xs) := by
  have hs := sizeL ok
  have h8 := ok.few
  have hw : wrap64 ((n.length : Int) - 1) = (n.length : Int) - 1 := wrap_small (by omega) (by omega)
  have hare : Ev (fun k => impl_areIn.f k xs (xs.length : Int) 0 ((n.length : Int) - 1)) true := by
    unfold impl_areIn.f
    refine ev_pos rfl (ev_of (areD_loop (n.length : Int) xs (by omega) xs [] rfl) ?_)
    rw [List.all_eq_true]
    intro x h
    have := hin x h
    simp only [inD, Bool.and_eq_true, decide_eq_true_eq]
    omega
  unfold impl_RunSteps.f
  refine Ev.bind (code_val hg hd ok) (ev_pos rfl (ev_neg (by omega) ?_))
  rw [hw]
  refine Ev.bind hare (Ev.step (fun k => by rw [impl_RunSteps.j0]) (ev_neg (by simp) (Ev.bind (set_ev _ (by omega)) ?_)))
  rw [strOf_bytes ok.fast]
  exact impl_steps n ys xs (by omega) hin xs [] l rfl ok
theorem change_val (i : Int) (h0 : 0 ≤ i) (h1 : i < (n.length : Int)) : Ev (fun k => impl_ChangeLine.f k n ys (strOfNums l) i) (if changeC n ys l i = 0 then (strOfNums (flipL l i), 0) else ((⟨#[]⟩ : ByteArray), changeC n ys l i)) := by
  unfold impl_ChangeLine.f
  refine Ev.bind (run_val hg hd ok [i] (by simp) (fun x hx => by rw [List.mem_singleton.1 hx]; exact ⟨h0, h1⟩)) (ev_of (Ev.now _) ?_)
  rw [runR, runR]
theorem held_val : Ev (fun k => impl_HeldBy.f k n ys (strOfNums l)) (heldL l ys, 0) := by
  have hs := sizeL ok
  have h8 := ok.few
  have hln := ok.len
  have hli := ok.lines
  have hlines : linesIn (l.length : Int) ys := by rw [hln]; exact hli
  unfold impl_HeldBy.f
  refine Ev.bind (code_val hg hd ok) (ev_pos rfl (Ev.bind (set_ev _ (by omega)) ?_))
  rw [strOf_bytes ok.fast]
  exact Ev.bind (impl_held n ys l (by omega) hlines) (Ev.now _)
end
end Go.Proofs.YtfkiamccipoioaaB
end
