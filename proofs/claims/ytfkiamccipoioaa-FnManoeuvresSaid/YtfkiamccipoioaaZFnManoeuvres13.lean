/- Texts of this claim, packed: PureFnManoeuvres, WSized, LawFnManoeuvres. -/
import Derived.SizedLaws
import Derived.ChangeSlices
import Derived.Test.YtfkiamccipoioaaRows
import Derived.WalkKit
import Derived.ProofKit
import Derived.OpenShut
import Derived.ShutString
import Derived.ChangeOld
import Derived.Below
import Derived.Test.YtfkiamccipoioaaZFnManoeuvres12
section
/- FnManoeuvres: its plain statement: walks of changes that are allowed leave no yard loose, and the told steps are no more and lead to the same state. -/
namespace Go.Proofs.Ytfkiamccipoioaa.Pure
open Go.RowKit Go.Proofs.Ytfkiamccipoioaa.P Go.Proofs.YtfkiamccipoioaaW.PrintWords Go.Proofs.YtfkiamccipoioaaW.PrintLast Go.Proofs.YtfkiamccipoioaaB

theorem ws {i : Int} (h0 : -9223372036854775808 ≤ i) (h1 : i ≤ 9223372036854775807) : wrap64 i = i := Go.Proofs.YtfkiamccipoioaaB.wrap_small h0 h1
section
variable {n : List Int} {ys : List (List Int)} (hg : GoodDeck n ys) (hd : deckB n ys = true) {l : List Int} (ok : DeckOk n ys l)
include hg hd ok
theorem end_val (xs q : List Int) (hx : xs.length ≤ 7) (hgo : Goes n ys l xs q) : Ev (fun k => laws_FnManoeuvres.j2 k (strOfNums l) (strOfNums q) xs n ys) true := by
  obtain ⟨w, hw, hwl, hE⟩ := short_val hg hd ok xs hgo
  have okq := hgo.ok xs l q ok
  have h1 := run_val hg hd ok xs (by omega) (hgo.lines xs l q)
  have h2 := run_val hg hd ok w (by omega) (hw.lines w l q)
  rw [hgo.run xs l q] at h1
  rw [hw.run w l q] at h2
  have p1 := hgo.par xs l q ok.len
  have p2 := hw.par w l q ok.len
  refine Ev.step (fun k => by rw [laws_FnManoeuvres.j2]) (Ev.bind h1 (Ev.bind hE ?_))
  dsimp only
  refine ev_pos rfl (ev_pos rfl (ev_pos rfl (ev_neg (by omega) (ev_pos (by omega) (Ev.bind h2 ?_)))))
  dsimp only
  exact ev_pos rfl (ev_of (Ev.now _) (by simp))
theorem walk_val {c2 : List Int} (hc : Go.Proofs.YtfkiamccipoioaaB.Code c2) (_hc3 : c2.length ≤ 1000000) : ∀ (m : Nat) (xs q : List Int), xs.length + m = 7 → Goes n ys l xs q → Ev (fun k => laws_FnManoeuvres.l0 k c2 (strOfNums l) (strOfNums q) xs (xs.length : Int) n ys) true := by
  intro m
  induction m with
  | zero =>
    intro xs q hm hgo
    refine Ev.step (fun k => by rw [laws_FnManoeuvres.l0]) ?_
    exact ev_neg (by omega) (end_val hg hd ok xs q (by omega) hgo)
  | succ m ih =>
    intro xs q hm hgo
    have okq := hgo.ok xs l q ok
    have h8 := ok.few
    have hsl := sizeL ok
    have hcl := chF_length n ys q n.length 0
    have hri : riseB (n.length : Int) none (chF n ys q n.length 0) = true := chF_rise q _ n.length 0 none (by omega) (by simp)
    have hr := a2rises_ev (n.length : Int) (chF n ys q n.length 0) (by omega)
    rw [hri] at hr
    refine Ev.step (fun k => by rw [laws_FnManoeuvres.l0]) (ev_pos (by omega) (Ev.bind (changes_val hg hd okq) ?_))
    dsimp only
    rw [hsl]
    refine ev_pos rfl (Ev.bind hr (Ev.step (fun k => by rw [laws_FnManoeuvres.j1]) (ev_neg (by simp) ?_)))
    by_cases h0 : ((chF n ys q n.length 0).length : Int) = 0
    · exact ev_pos h0 (end_val hg hd ok xs q (by omega) hgo)
    · have hat : ∃ t : Int, laws_a2At.f c2 (xs.length : Int) ((chF n ys q n.length 0).length : Int) = some t ∧ 0 ≤ t ∧ t < ((chF n ys q n.length 0).length : Int) := by
        have hcode := rd_code hc (xs.length : Int)
        unfold laws_a2At.f
        by_cases h3 : (xs.length : Int) ≥ (c2.length : Int)
        · rw [if_pos h3]; exact ⟨0, rfl, by omega, by omega⟩
        · rw [if_neg h3, if_neg (by omega), if_pos (by omega), if_pos (by omega), if_neg h0, ws (by omega) (by omega)]
          exact ⟨_, rfl, Int.tmod_nonneg _ (by omega), Int.tmod_lt_of_pos _ (by omega)⟩
      obtain ⟨t, ht, t0, t1⟩ := hat
      obtain ⟨x, hx, hxm⟩ : ∃ x, rd (chF n ys q n.length 0) t = x ∧ x ∈ chF n ys q n.length 0 := ⟨_, rfl, by
        unfold rd
        rw [List.getD_eq_getElem?_getD, List.getElem?_eq_getElem (by omega)]
        exact List.getElem_mem _⟩
      obtain ⟨x0, x1, x2⟩ := (chF_mem q n.length 0 x).1 hxm
      have hch := change_val hg hd okq x (by omega) (by omega)
      rw [if_pos x2] at hch
      have okf := okq.flip x
      have hlo := loose_val hg hd okf
      have hnl : looseF 0 (heldL (flipL q x) ys) = [] := by
        have h5 := looseF_has (heldL (flipL q x) ys) 0
        have h6 : (heldL (flipL q x) ys).contains 0 = false := by
          unfold changeC at x2
          split at x2
          · omega
          · split at x2
            · omega
            · exact Bool.eq_false_iff.2 ‹_›
        rw [h6] at h5
        have h7 := of_decide_eq_false h5
        exact List.length_eq_zero_iff.1 (by omega)
      rw [hnl] at hlo
      have hgo2 := Goes.snoc xs l q x hgo (by omega) (by omega) x2
      have hw : wrap64 ((xs.length : Int) + 1) = ((xs ++ [x]).length : Int) := wrap_next xs x (by omega)
      refine ev_neg h0 (ev_bind0 ht (ev_pos t0 (ev_pos t1 ?_)))
      rw [hx]
      refine Ev.bind hch (Ev.bind hlo ?_)
      dsimp only
      refine ev_pos rfl (ev_pos (by rw [sizeL okf, sizeL ok]) (ev_pos rfl (ev_pos rfl (ev_pos (by omega) ?_))))
      rw [hw]
      exact ih (xs ++ [x]) (flipL q x) (by simp; omega) hgo2
end
theorem FnManoeuvres : laws_FnManoeuvres.Pure := by
  intro l0 l1 _ h1 hc _ h2 hc2
  unfold maxLen at *
  refine Ev.rounds (?_ : Ev (fun k => laws_FnManoeuvres.f k l0 l1) true)
  unfold laws_FnManoeuvres.f
  by_cases hl : (l0.length : Int) > 3000 ∨ (l1.length : Int) > 3000
  · refine ev_bind0 (a := true) ?_ (ev_pos rfl (Ev.now _))
    unfold laws_a2Long.f
    by_cases h3 : (l0.length : Int) > 3000
    · rw [if_pos h3]
    · rw [if_neg h3, decide_eq_true (by omega)]
  · refine ev_bind0 (a := false) ?_ (ev_neg (by simp) ?_)
    · unfold laws_a2Long.f
      rw [if_neg (by omega), decide_eq_false (by omega)]
    · obtain ⟨n, ys, s, hE, h6, hco, hd, hg, hok⟩ := draw_a2 (code_of hc)
      refine Ev.bind hE ?_
      dsimp only
      have hs : s = strOfNums (bytesOf s) := (bytes_strOf s hok.fast).symm
      have := walk_val hg hd hok (c2 := l1) (code_of hc2) (by omega) 7 [] (bytesOf s) rfl rfl
      rw [← hs] at this
      exact this
end Go.Proofs.Ytfkiamccipoioaa.Pure
end

section
namespace Go.Proofs.YtfkiamccipoioaaW.PrintWords
open Go.ChangeShapes Go.WideShapes
/-- A row's slice of whole numbers is no longer than its weight allows. -/
theorem sized_ints {H : Type} {enc : TypeId × Value → H} {P : Program} {W : World} {base : Nat} {spare : Nat → Bool} {held : Bool} {t e : TypeId} {k : IntKind} {a : Option Addr} {len cap : Nat} {d : DataW H} {ps : List MemPlace} {ts : List TypeId} {ds : List (DataW H)} {j : Nat}
    (hsz : (DataW.weightsEach P ts ds).all (· ≤ reachBytes) = true) (ht : ts[j]? = some t) (hd : ds[j]? = some d) (hu : P.underlying t = some (.slice e)) (he : P.underlying e = some (.int k)) (hc : P.cellsOf e = 1) {B : Nat} (hB : P.bytesOf e = B)
    (h : DataW.Trod enc P W base spare held t (.slice a len cap) d ps) : len * B ≤ 140737488351232 := by
  obtain ⟨fuel, hf⟩ := h
  rcases open_ints hu he hc hf with ⟨hcs, _⟩ | ⟨x, l, c, zs, hcs, _, hl, _, hz, hx, _, _⟩
  · simp [Value.cells] at hcs
    obtain ⟨rfl, rfl, rfl⟩ := hcs
    simp
  · simp [Value.cells] at hcs
    obtain ⟨rfl, rfl, rfl⟩ := hcs
    obtain ⟨hx, _⟩ := Prod.mk.inj hx
    subst hx
    have z := sized_slice hsz ht hd hu
    rw [hB] at z
    have hl2 : len ≤ zs.length := by
      rw [hz]
      split
      · exact hl
      · exact Nat.le_refl _
    have h1 : (lits (H := H) k (zs.take len)).length + (lits (H := H) k (zs.drop len)).length = zs.length := by
      simp [lits]
      omega
    rw [h1] at z
    exact Nat.le_trans (Nat.mul_le_mul_right _ hl2) z
end Go.Proofs.YtfkiamccipoioaaW.PrintWords
end

section
namespace Go.Proofs.Ytfkiamccipoioaa.fnManoeuvres
open Go.ChangeShapes Go.WideShapes Go.ChangeAt Go.RowKit
open Go.ChangeMaps (open_string shut_string)
set_option linter.unusedVariables false
theorem own : ownKnob Try.prog.godebug = none := by kernel_rfl
theorem laidOut : laidOutB Try.prog = true := by kernel_rfl
def IsRow (k : IntKind) (w : World) (a : Option Addr) (len cap : Nat) (zs : List Int) : Prop :=
  (a = none ∧ len = 0 ∧ cap = 0 ∧ zs = []) ∨
  ∃ x, a = some x ∧ len ≤ cap ∧ cap ≤ maxLen ∧ zs.length = cap ∧ (∀ i, i < zs.length → w.cell? (x.add i) = some (.int k (zs.getD i 0))) ∧ ∀ n ∈ zs, (Lit.int k n).wf = true
set_option maxRecDepth 100000 in
theorem lifted (os : Os) (started : os.Started) (H : Type) (enc : TypeId × Value → H) :
    ReturnsInHanded {} Try.checked os 13 .any (Rows.fnManoeuvresSpec.pre6 enc Try.prog Try.f13 Rows.fnManoeuvresRow.domain false) (Rows.fnManoeuvresSpec.post enc Try.prog Try.f13 false true false false) := by
  refine returnsInHanded_of_change_sized (C := Try.checked) own started (by kernel_rfl) Try.func13
    (ChangeSpec.witness6 (enc := enc) (C := Try.checked) false ⟨#[], #[.slice none 0 0, .slice none 0 0], []⟩ 8 (by kernel_rfl) (by kernel_rfl) (by kernel_rfl) (by kernel_rfl)) ?_
  intro W base args ds gs before hval0 hW hcnd hsz0 _
  have hsz : (DataW.weightsEach Try.prog (Try.f13.params.toList ++ Rows.fnManoeuvresSpec.plain.varTypes Try.prog) (ds ++ gs)).all (· ≤ reachBytes) = true := hsz0
  have hval : ∀ (j : Nat) t v, Try.f13.params[j]? = some t → args[j]? = some v → Value.okWide Try.prog W .any base t v := hval0
  have hW' := hW
  obtain ⟨p, q, hA0, hV, rfl, hfz, hnd⟩ := hW
  have hA : DataW.TrodAll enc Try.prog W 0 (fun _ => true) true Try.f13.params.toList args.toList ds p := hA0
  rw [Try.params13] at hA hval hsz
  obtain ⟨v0, vs0, d0, ds0, p0, q0, hargs, rfl, rfl, h0, r0⟩ := trodAll_cons hA
  obtain ⟨v1, vs1, d1, ds1, p1, q1, rfl, rfl, rfl, h1, r1⟩ := trodAll_cons r0
  obtain ⟨rfl, rfl, rfl⟩ := trodAll_nil r1
  obtain rfl : args = #[v0, v1] := by cases args; simp_all
  obtain ⟨rfl, rfl⟩ := trodVars_none hV
  obtain ⟨a0, len0, cap0, rfl⟩ := okWide_slice Try.underlying49 (hval 0 49 v0 rfl rfl)
  have k0 := h0
  have lt0 : ∀ x ∈ p0, x.block < W.heap.size := by obtain ⟨m, hm⟩ := k0; exact DataW.trod_lt m _ _ _ hm
  obtain ⟨z0, w0⟩ : ∃ zs, IsRow .u8 W a0 len0 cap0 zs := by
    obtain ⟨fuel, hf⟩ := h0
    rcases open_ints Try.underlying49 Try.underlying5 (by kernel_rfl) hf with ⟨hcs, _⟩ | ⟨x, l, c, zs, hcs, _, hl, hm, hz, _, hcell, hwz⟩
    · simp [Value.cells] at hcs
      obtain ⟨rfl, rfl, rfl⟩ := hcs
      exact ⟨[], .inl ⟨rfl, rfl, rfl, rfl⟩⟩
    · simp [Value.cells] at hcs
      obtain ⟨rfl, rfl, rfl⟩ := hcs
      exact ⟨zs, .inr ⟨_, rfl, hl, hm, by simpa using hz, hcell, hwz⟩⟩
  have y0 : len0 * 1 ≤ 140737488351232 := Go.Proofs.YtfkiamccipoioaaW.PrintWords.sized_ints hsz (j := 0) (t := 49) rfl rfl Try.underlying49 Try.underlying5 (by kernel_rfl) (by kernel_rfl) h0
  obtain ⟨a1, len1, cap1, rfl⟩ := okWide_slice Try.underlying49 (hval 1 49 v1 rfl rfl)
  have k1 := h1
  have lt1 : ∀ x ∈ p1, x.block < W.heap.size := by obtain ⟨m, hm⟩ := k1; exact DataW.trod_lt m _ _ _ hm
  obtain ⟨z1, w1⟩ : ∃ zs, IsRow .u8 W a1 len1 cap1 zs := by
    obtain ⟨fuel, hf⟩ := h1
    rcases open_ints Try.underlying49 Try.underlying5 (by kernel_rfl) hf with ⟨hcs, _⟩ | ⟨x, l, c, zs, hcs, _, hl, hm, hz, _, hcell, hwz⟩
    · simp [Value.cells] at hcs
      obtain ⟨rfl, rfl, rfl⟩ := hcs
      exact ⟨[], .inl ⟨rfl, rfl, rfl, rfl⟩⟩
    · simp [Value.cells] at hcs
      obtain ⟨rfl, rfl, rfl⟩ := hcs
      exact ⟨zs, .inr ⟨_, rfl, hl, hm, by simpa using hz, hcell, hwz⟩⟩
  have y1 : len1 * 1 ≤ 140737488351232 := Go.Proofs.YtfkiamccipoioaaW.PrintWords.sized_ints hsz (j := 1) (t := 49) rfl rfl Try.underlying49 Try.underlying5 (by kernel_rfl) (by kernel_rfl) h1
  clear hA0 hval0 hsz0 hsz
  refine (P.laws_FnManoeuvres.walk Pure.FnManoeuvres a0 len0 cap0 z0 a1 len1 cap1 z1 W w0 y0 w1 y1).mono fun e W' ⟨he, bel⟩ => ?_
  subst he
  exact ⟨_, rfl, _, _, _, [], _, [], hW', trodAll_mk1 (shut_bool Try.underlying4 _), (trodAll_cons_mk (Below.trod laidOut (by kernel_rfl) (of_decide_eq_true (by kernel_rfl)) k0 bel lt0) (trodAll_cons_mk (Below.trod laidOut (by kernel_rfl) (of_decide_eq_true (by kernel_rfl)) k1 bel lt1) trodAll_mk0)), rfl, bel.frame _, fun h => by cases h⟩
theorem over : Rows.fnManoeuvresRow.holds Try.pinned (OpenSpec.ofChange Rows.fnManoeuvresSpec) :=
  OpenClaim.holds_of_wide 13 Try.f13 rfl rfl rfl rfl rfl rfl rfl ⟨rfl, rfl, rfl, rfl, rfl⟩ rfl rfl rfl rfl rfl (by kernel_rfl) Try.func13 (by kernel_rfl)
    (of_decide_eq_true (by kernel_rfl)) (by unfold Func.isWrapper; first | (rw [if_pos (by decide +kernel)]; kernel_rfl) | (rw [if_neg (by decide +kernel)]; exact ⟨rfl, rfl⟩))
    (fun os started H enc _ => lifted os started H enc)
theorem proved : Rows.FnManoeuvresSaid := over
#print axioms proved
end Go.Proofs.Ytfkiamccipoioaa.fnManoeuvres
namespace Go.Proofs.Ytfkiamccipoioaa
/-- The row, under a short name, for the claim. -/
theorem fnManoeuvres_holds : Rows.FnManoeuvresSaid := fnManoeuvres.proved
end Go.Proofs.Ytfkiamccipoioaa
end
