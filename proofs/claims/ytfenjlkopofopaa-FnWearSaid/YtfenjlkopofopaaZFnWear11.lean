/- Texts of this claim, packed: GearDraw, PureFnWear, WSized, LawFnWear. -/
import Derived.SizedLaws
import Derived.ChangeSlices
import Derived.Test.YtfenjlkopofopaaRows
import Derived.WalkKit
import Derived.ProofKit
import Derived.OpenShut
import Derived.ShutString
import Derived.ChangeOld
import Derived.Below
import Derived.Test.YtfenjlkopofopaaZFnWear10
section
/- The gear and the inspections that are drawn: small lists. -/
namespace Go.Proofs.YtfenjlkopofopaaB
open Go.RowKit Go.Proofs.YtfenjlkopofopaaW.PrintWords Go.Proofs.YtfenjlkopofopaaW.PrintLast Go.Proofs.Ytfenjlkopofopaa.P

theorem rdG_mem (l : List G) (i : Int) (h0 : 0 ≤ i) (h1 : i < (l.length : Int)) : rd_T72 l i ∈ l := by
  unfold rd_T72
  rw [List.getD_eq_getElem?_getD, List.getElem?_eq_getElem (by omega)]
  exact List.getElem_mem _
theorem rdK_mem (l : List K) (i : Int) (h0 : 0 ≤ i) (h1 : i < (l.length : Int)) : rd_T75 l i ∈ l := by
  unfold rd_T75
  rw [List.getD_eq_getElem?_getD, List.getElem?_eq_getElem (by omega)]
  exact List.getElem_mem _
section
variable {c : List Int} (hc : Code c)
include hc
theorem new_gear (a : ByteArray) (ha : a.size ≤ 1048576) (at_ seed : Int) (h0 : 0 ≤ at_) (h1 : at_ ≤ 100000) : ∃ f1 f2 f3 at' s', spec_l21New.f c at_ seed a = some (a, f1, f2, f3, at', s') ∧ GoodGear ⟨a, f1, f2, f3⟩ ∧ at_ ≤ at' ∧ at' ≤ at_ + 6 := by
  obtain ⟨u, t1, s1, e1, u0, u1, p0, p1⟩ := pick_some hc at_ seed 100 ⟨h0, by omega⟩ (by omega)
  obtain ⟨v, t2, s2, e2, v0, v1, p2, p3⟩ := pick_some hc t1 s1 20 ⟨by omega, by omega⟩ (by omega)
  obtain ⟨w, t3, s3, e3, w0, w1, p4, p5⟩ := pick_some hc t2 s2 100 ⟨by omega, by omega⟩ (by omega)
  have u2 := u1 (by omega)
  have v2 := v1 (by omega)
  have w2 := w1 (by omega)
  unfold spec_l21New.f
  rw [e1, Option.bind_some]
  dsimp only
  rw [e2, Option.bind_some]
  dsimp only
  rw [e3, Option.bind_some]
  dsimp only
  rw [wrap_small (i := 10 * w) (by omega) (by omega), wrap_small (by omega) (by omega)]
  refine ⟨_, _, _, _, _, rfl, ⟨ha, ?_, ?_, ?_⟩, by omega, by omega⟩
  · show I64 u; unfold I64; omega
  · show I64 v; unfold I64; omega
  · show I64 (50 + 10 * w); unfold I64; omega
theorem draw_gears (names : List ByteArray) (hn : names.length = 6) (hs : ∀ b ∈ names, b.size ≤ 1048576) : ∀ (d : Nat) (l : List G) (at_ seed : Int), l.length + d ≤ 6 → 0 ≤ at_ → at_ + 6 * d ≤ 10000 → (∀ x ∈ l, GoodGear x) →
    ∃ r at' s', Ev (fun k => spec_l21Draw.l0 k names l (d : Int) c at_ seed) (r, at', s') ∧ r.length ≤ 6 ∧ (∀ x ∈ r, GoodGear x) ∧ at_ ≤ at' ∧ at' ≤ at_ + 6 * d := by
  intro d
  induction d with
  | zero =>
    intro l at_ seed hl h0 h1 hg
    exact ⟨l, at_, seed, Ev.step (fun k => by rw [spec_l21Draw.l0]) (ev_neg (by omega) (Ev.now _)), by omega, hg, by omega, by omega⟩
  | succ d ih =>
    intro l at_ seed hl h0 h1 hg
    have hm : rdOf ByteArray.empty names (l.length : Int) ∈ names := by
      unfold rdOf
      rw [List.getD_eq_getElem?_getD, List.getElem?_eq_getElem (by omega)]
      exact List.getElem_mem _
    obtain ⟨f1, f2, f3, t, s, e, g, t0, t1⟩ := new_gear hc _ (hs _ hm) at_ seed h0 (by omega)
    obtain ⟨r, t', s', k1, k2, k3, k4, k5⟩ := ih (l ++ [⟨rdOf ByteArray.empty names (l.length : Int), f1, f2, f3⟩]) t s (by simp; omega) (by omega) (by omega) (fun x hx => by
      rcases List.mem_append.1 hx with h | h
      · exact hg x h
      · rw [List.mem_singleton.1 h]; exact g)
    refine ⟨r, t', s', ?_, k2, k3, by omega, by omega⟩
    refine Ev.step (fun k => by rw [spec_l21Draw.l0]) (ev_pos (by omega) (ev_pos (by omega) (ev_pos (by omega) (ev_bind0 e ?_))))
    dsimp only
    refine ev_pos (by omega) ?_
    rw [wrap_small (i := ((d + 1 : Nat) : Int) - 1) (by omega) (by omega), show ((d + 1 : Nat) : Int) - 1 = (d : Int) by omega]
    exact k1
omit hc in
theorem set_good {l : List G} (hg : ∀ x ∈ l, GoodGear x) (i : Nat) {y : G} (hy : GoodGear y) : ∀ x ∈ l.set i y, GoodGear x := fun x hx => by
  rcases List.mem_or_eq_of_mem_set hx with h | rfl
  · exact hg x h
  · exact hy
theorem bent_end (l : List G) (hl : l.length ≤ 41) (hg : ∀ x ∈ l, GoodGear x) (at_ seed : Int) (h0 : 0 ≤ at_) (h1 : at_ ≤ 100000) :
    ∃ r at' s', Ev (fun k => spec_l21Bent.j1 k l c at_ seed) (r, at', s') ∧ r.length ≤ 41 ∧ (∀ x ∈ r, GoodGear x) ∧ at_ ≤ at' ∧ at' ≤ at_ + 6 := by
  by_cases hz : (l.length : Int) = 0
  · exact ⟨l, at_, seed, Ev.step (fun k => by rw [spec_l21Bent.j1]) (ev_pos hz (Ev.now _)), hl, hg, by omega, by omega⟩
  · obtain ⟨i, t1, s1, e1, i0, i1, p0, p1⟩ := pick_some hc at_ seed (l.length : Int) ⟨h0, by omega⟩ (by omega)
    obtain ⟨v, t2, s2, e2, v0, v1, p2, p3⟩ := pick_some hc t1 s1 24 ⟨by omega, by omega⟩ (by omega)
    have i2 := i1 (by omega)
    have hm := hg _ (rdG_mem l i i0 i2)
    obtain ⟨m0, m1, m2, m3⟩ := hm
    have go : ∀ {r : List G × Int × Int}, Ev (fun k => (spec_l00Src_pick.f c t1 s1 24).bind fun bt179 => (if bt179.1 = 0 then ((spec_l00Src_text.f c bt179.2.1 bt179.2.2 (([(⟨#[]⟩ : ByteArray), (⟨#[66, 111, 108, 116]⟩ : ByteArray), (⟨#[98, 97, 99, 107, 115, 116, 97, 121]⟩ : ByteArray)] : List ByteArray))).bind fun bt185 => (some ((l.set (i : Int).toNat (⟨bt185.1, (rd_T72 l i).f1, (rd_T72 l i).f2, (rd_T72 l i).f3⟩ : G)), bt185.2.1, bt185.2.2))) else (if bt179.1 = 1 then ((spec_l00Src_among.f c bt179.2.1 bt179.2.2 (([(-1), 0, 20000, 20001, (-9223372036854775808)] : List Int))).bind fun bt192 => (some ((l.set (i : Int).toNat (⟨(rd_T72 l i).f0, bt192.1, (rd_T72 l i).f2, (rd_T72 l i).f3⟩ : G)), bt192.2.1, bt192.2.2))) else (if bt179.1 = 2 then ((spec_l00Src_among.f c bt179.2.1 bt179.2.2 (([(-1), 0, 1000, 1001] : List Int))).bind fun bt199 => (some ((l.set (i : Int).toNat (⟨(rd_T72 l i).f0, (rd_T72 l i).f1, bt199.1, (rd_T72 l i).f3⟩ : G)), bt199.2.1, bt199.2.2))) else (if bt179.1 = 3 then ((spec_l00Src_among.f c bt179.2.1 bt179.2.2 (([0, 1, 1000000, 1000001] : List Int))).bind fun bt206 => (some ((l.set (i : Int).toNat (⟨(rd_T72 l i).f0, (rd_T72 l i).f1, (rd_T72 l i).f2, bt206.1⟩ : G)), bt206.2.1, bt206.2.2))) else (some (l, bt179.2.1, bt179.2.2))))))) r → Ev (fun k => spec_l21Bent.j1 k l c at_ seed) r := fun h =>
      Ev.step (fun k => by rw [spec_l21Bent.j1]) (ev_neg hz (ev_bind0 e1 (ev_pos i0 (ev_pos i2 h))))
    by_cases h2 : v = 0
    · obtain ⟨b, t3, s3, e3, hb, p4, p5⟩ := text_some hc t2 s2 [(⟨#[]⟩ : ByteArray), (⟨#[66, 111, 108, 116]⟩ : ByteArray), (⟨#[98, 97, 99, 107, 115, 116, 97, 121]⟩ : ByteArray)] (by omega) (by omega) (by simp) (by simp)
      have hbs : b.size ≤ 1048576 := by
        simp only [List.mem_cons, List.not_mem_nil, or_false] at hb
        rcases hb with rfl | rfl | rfl <;> decide
      exact ⟨_, t3, s3, go (ev_bind0 e2 (ev_pos h2 (ev_bind0 e3 (Ev.now _)))), by rw [List.length_set]; exact hl, set_good hg _ ⟨hbs, m1, m2, m3⟩, by omega, by omega⟩
    · by_cases h3 : v = 1
      · obtain ⟨b, t3, s3, e3, hb, p4, p5⟩ := among_some hc t2 s2 [(-1), 0, 20000, 20001, (-9223372036854775808)] (by omega) (by omega) (by simp) (by simp)
        have hbs : I64 b := by
          simp only [List.mem_cons, List.not_mem_nil, or_false] at hb
          unfold I64; omega
        exact ⟨_, t3, s3, go (ev_bind0 e2 (ev_neg h2 (ev_pos h3 (ev_bind0 e3 (Ev.now _))))), by rw [List.length_set]; exact hl, set_good hg _ ⟨m0, hbs, m2, m3⟩, by omega, by omega⟩
      · by_cases h4 : v = 2
        · obtain ⟨b, t3, s3, e3, hb, p4, p5⟩ := among_some hc t2 s2 [(-1), 0, 1000, 1001] (by omega) (by omega) (by simp) (by simp)
          have hbs : I64 b := by
            simp only [List.mem_cons, List.not_mem_nil, or_false] at hb
            unfold I64; omega
          exact ⟨_, t3, s3, go (ev_bind0 e2 (ev_neg h2 (ev_neg h3 (ev_pos h4 (ev_bind0 e3 (Ev.now _)))))), by rw [List.length_set]; exact hl, set_good hg _ ⟨m0, m1, hbs, m3⟩, by omega, by omega⟩
        · by_cases h5 : v = 3
          · obtain ⟨b, t3, s3, e3, hb, p4, p5⟩ := among_some hc t2 s2 [0, 1, 1000000, 1000001] (by omega) (by omega) (by simp) (by simp)
            have hbs : I64 b := by
              simp only [List.mem_cons, List.not_mem_nil, or_false] at hb
              unfold I64; omega
            exact ⟨_, t3, s3, go (ev_bind0 e2 (ev_neg h2 (ev_neg h3 (ev_neg h4 (ev_pos h5 (ev_bind0 e3 (Ev.now _))))))), by rw [List.length_set]; exact hl, set_good hg _ ⟨m0, m1, m2, hbs⟩, by omega, by omega⟩
          · exact ⟨_, t2, s2, go (ev_bind0 e2 (ev_neg h2 (ev_neg h3 (ev_neg h4 (ev_neg h5 (Ev.now _)))))), hl, hg, by omega, by omega⟩
theorem bent_loop : ∀ (d : Nat) (l : List G) (at_ seed : Int), l.length + d ≤ 41 → 0 ≤ at_ → at_ + 6 * d ≤ 10000 → (∀ x ∈ l, GoodGear x) →
    ∃ r at' s', Ev (fun k => spec_l21Bent.l0 k l (d : Int) c at_ seed) (r, at', s') ∧ r.length ≤ 41 ∧ (∀ x ∈ r, GoodGear x) ∧ at_ ≤ at' ∧ at' ≤ at_ + 6 * d + 6 := by
  intro d
  induction d with
  | zero =>
    intro l at_ seed hl h0 h1 hg
    obtain ⟨r, t, s, e, g1, g2, g3, g4⟩ := bent_end hc l (by omega) hg at_ seed h0 (by omega)
    exact ⟨r, t, s, Ev.step (fun k => by rw [spec_l21Bent.l0]) (ev_neg (by omega) e), g1, g2, by omega, by omega⟩
  | succ d ih =>
    intro l at_ seed hl h0 h1 hg
    obtain ⟨f1, f2, f3, t, s, e, g, t0, t1⟩ := new_gear hc (strOfNums [97 + ((l.length : Int) % 256) / 26, 97 + ((l.length : Int) % 256) % 26]) (by
      have := bytes_length (strOfNums [97 + ((l.length : Int) % 256) / 26, 97 + ((l.length : Int) % 256) % 26])
      have h2 : (bytesOf (strOfNums [97 + ((l.length : Int) % 256) / 26, 97 + ((l.length : Int) % 256) % 26])).length = 2 := by unfold bytesOf; rw [strOfNums_data]; simp
      omega) at_ seed h0 (by omega)
    obtain ⟨r, t', s', k1, k2, k3, k4, k5⟩ := ih (l ++ [⟨strOfNums [97 + ((l.length : Int) % 256) / 26, 97 + ((l.length : Int) % 256) % 26], f1, f2, f3⟩]) t s (by simp; omega) (by omega) (by omega) (fun x hx => by
      rcases List.mem_append.1 hx with h | h
      · exact hg x h
      · rw [List.mem_singleton.1 h]; exact g)
    refine ⟨r, t', s', ?_, k2, k3, by omega, by omega⟩
    refine Ev.step (fun k => by rw [spec_l21Bent.l0]) (ev_pos (by omega) (ev_bind0 e ?_))
    dsimp only
    refine ev_pos (by omega) ?_
    rw [wrap_small (i := ((d + 1 : Nat) : Int) - 1) (by omega) (by omega), show ((d + 1 : Nat) : Int) - 1 = (d : Int) by omega]
    exact k1
theorem bent_gears (at_ seed : Int) (h0 : 0 ≤ at_) (h1 : at_ ≤ 1000) : ∃ g at' s', Ev (fun k => spec_l21Bent.f k c at_ seed) (g, at', s') ∧ g.length ≤ 41 ∧ (∀ x ∈ g, GoodGear x) ∧ at_ ≤ at' ∧ at' ≤ at_ + 400 := by
  obtain ⟨v, t1, s1, e1, v0, v1, p0, p1⟩ := pick_some hc at_ seed 7 ⟨h0, by omega⟩ (by omega)
  have v2 := v1 (by omega)
  obtain ⟨g, t2, s2, e2, g1, g2, p2, p3⟩ := draw_gears hc [(⟨#[98, 97, 99, 107, 115, 116, 97, 121]⟩ : ByteArray), (⟨#[102, 111, 114, 101, 115, 116, 97, 121]⟩ : ByteArray), (⟨#[104, 97, 108, 121, 97, 114, 100]⟩ : ByteArray), (⟨#[108, 97, 110, 121, 97, 114, 100]⟩ : ByteArray), (⟨#[115, 104, 114, 111, 117, 100, 45, 49]⟩ : ByteArray), (⟨#[115, 104, 114, 111, 117, 100, 45, 50]⟩ : ByteArray)] rfl (fun b hb => by
    simp only [List.mem_cons, List.not_mem_nil, or_false] at hb
    rcases hb with rfl | rfl | rfl | rfl | rfl | rfl <;> decide) v.toNat [] t1 s1 (by simp; omega) (by omega) (by omega) (by simp)
  rw [Int.toNat_of_nonneg v0] at e2
  have hd : Ev (fun k => spec_l21Draw.f k c at_ seed) (g, t2, s2) := by
    unfold spec_l21Draw.f
    exact ev_bind0 e1 e2
  obtain ⟨b, t3, s3, e3, p4, p5⟩ := one_some hc t2 s2 24 (by omega) (by omega) (by omega)
  cases b with
  | true =>
    obtain ⟨w, t4, s4, e4, w0, w1, p6, p7⟩ := pick_some hc t3 s3 2 ⟨by omega, by omega⟩ (by omega)
    have w2 := w1 (by omega)
    obtain ⟨r, t5, s5, e5, r1, r2, p8, p9⟩ := bent_loop hc (40 + w).toNat [] t4 s4 (by simp; omega) (by omega) (by omega) (by simp)
    rw [Int.toNat_of_nonneg (by omega)] at e5
    refine ⟨r, t5, s5, ?_, r1, r2, by omega, by omega⟩
    unfold spec_l21Bent.f
    refine Ev.bind hd (ev_bind0 e3 (ev_pos rfl (ev_bind0 e4 ?_)))
    dsimp only
    rw [wrap_small (i := 40 + w) (by omega) (by omega)]
    exact e5
  | false =>
    obtain ⟨r, t5, s5, e5, r1, r2, p8, p9⟩ := bent_end hc g (by omega) g2 t3 s3 (by omega) (by omega)
    refine ⟨r, t5, s5, ?_, r1, r2, by omega, by omega⟩
    unfold spec_l21Bent.f
    exact Ev.bind hd (ev_bind0 e3 (ev_neg (by simp) e5))
end
/-! ### an inspection that is added -/
theorem spec_put (g : List G) (l : List K) (x : K) (hg : GoodGears g) (hl : (l.length : Int) < 60) (hx : GoodCheck x) (hlg : ∀ y ∈ l, GoodCheck y) : ∀ (r xs : List K), l = r.reverse ++ xs →
    ∃ q, Ev (fun k => spec_AddCheck.l0 k g l (r.length : Int) x.f0 x.f1 x.f2) q ∧ q.1.length ≤ 60 ∧ ∀ y ∈ q.1, GoodCheck y := by
  have fin : ∀ n : List K, n.length ≤ 60 → (∀ y ∈ n, GoodCheck y) → ∃ q, Ev (fun k => (spec_l21Checks.f k g n).bind fun t => if t = true then some (n, (0 : Int)) else some ([], 9)) q ∧ q.1.length ≤ 60 ∧ ∀ y ∈ q.1, GoodCheck y := by
    intro n hn hng
    obtain ⟨r, h1, _, _⟩ := code_both g n hg ⟨by omega, hng⟩
    cases r with
    | true => exact ⟨(n, 0), Ev.bind h1 (ev_pos rfl (Ev.now _)), hn, hng⟩
    | false => exact ⟨([], 9), Ev.bind h1 (ev_neg (by simp) (Ev.now _)), by simp, by simp⟩
  intro r
  induction r with
  | nil =>
    intro xs h
    obtain ⟨q, h1, h2, h3⟩ := fin (x :: l) (by simp; omega) (fun y hy => by
      rcases List.mem_cons.1 hy with rfl | hy
      · exact hx
      · exact hlg y hy)
    refine ⟨q, ?_, h2, h3⟩
    refine Ev.step (fun k => by rw [spec_AddCheck.l0]) (ev_neg (by simp) ?_)
    simp only [Option.bind_some, List.nil_append]
    refine ev_pos (by simp) (ev_pos (by simp) (ev_pos (by simp) (ev_pos (by simp) (ev_pos (by simp; omega) ?_))))
    simpa using h1
  | cons y r ih =>
    intro xs h
    have hrl : (r.length : Int) + 1 + xs.length = l.length := by rw [h]; simp; omega
    have e2 : (((y :: r).length : Nat) : Int) = (r.length : Int) + 1 := by simp
    have hw : wrap64 ((((y :: r).length : Nat) : Int) - 1) = (r.length : Int) := by
      rw [wrap_small (by omega) (by omega)]
      omega
    have ht : (List.take (((y :: r).length : Nat) : Int).toNat l).length ≤ l.length := by rw [List.length_take]; omega
    have htd : (List.take (((y :: r).length : Nat) : Int).toNat l).length + (List.drop (((y :: r).length : Nat) : Int).toNat l).length = l.length := by rw [List.length_take, List.length_drop]; omega
    obtain ⟨q1, h1, h2, h3⟩ := ih (y :: xs) (by rw [h]; simp)
    obtain ⟨q2, g1, g2, g3⟩ := fin (List.take (((y :: r).length : Nat) : Int).toNat l ++ [x] ++ List.drop (((y :: r).length : Nat) : Int).toNat l) (by rw [List.length_append, List.length_append, List.length_singleton]; omega) (fun z hz => by
      rcases List.mem_append.1 hz with hz | hz
      · rcases List.mem_append.1 hz with hz | hz
        · exact hlg z (List.mem_of_mem_take hz)
        · rw [List.mem_singleton.1 hz]; exact hx
      · exact hlg z (List.mem_of_mem_drop hz))
    by_cases hd : (rd_T75 l (r.length : Int)).f1 > x.f1
    · refine ⟨q1, Ev.step (fun k => by rw [spec_AddCheck.l0]) ?_, h2, h3⟩
      refine ev_pos (by omega) ?_
      rw [hw]
      exact ev_pos (by omega) (ev_pos (by omega) (ev_pos hd h1))
    · refine ⟨q2, Ev.step (fun k => by rw [spec_AddCheck.l0]) ?_, g2, g3⟩
      refine ev_pos (by omega) ?_
      rw [hw]
      refine ev_pos (by omega) (ev_pos (by omega) (ev_neg hd ?_))
      simp only [Option.bind_some, List.nil_append]
      refine ev_pos (by omega) (ev_pos (by omega) (ev_pos (by rw [List.length_nil]; omega) (ev_pos (by omega) (ev_pos (by rw [List.length_append, List.length_singleton]; omega) ?_))))
      exact g1
theorem spec_add (g : List G) (l : List K) (x : K) (hg : GoodGears g) (hl : l.length ≤ 60) (hx : GoodCheck x) (hlg : ∀ y ∈ l, GoodCheck y) : ∃ q, Ev (fun k => spec_AddCheck.f k g l x.f0 x.f1 x.f2) q ∧ q.1.length ≤ 60 ∧ ∀ y ∈ q.1, GoodCheck y := by
  obtain ⟨r, h1, _, _⟩ := code_both g l hg ⟨by omega, hlg⟩
  unfold spec_AddCheck.f
  cases r with
  | false => exact ⟨([], 1), Ev.bind h1 (ev_neg (by simp) (Ev.now _)), by simp, by simp⟩
  | true =>
    have h2 := spec_check g x hg.1
    cases hb : checkB g x with
    | false =>
      rw [hb] at h2
      exact ⟨([], 2), Ev.bind h1 (ev_pos rfl (Ev.bind h2 (ev_neg (by simp) (Ev.now _)))), by simp, by simp⟩
    | true =>
      rw [hb] at h2
      by_cases h6 : (l.length : Int) ≥ 60
      · exact ⟨([], 5), Ev.bind h1 (ev_pos rfl (Ev.bind h2 (ev_pos rfl (ev_pos h6 (Ev.now _))))), by simp, by simp⟩
      · obtain ⟨q, k1, k2, k3⟩ := spec_put g l x hg (by omega) hx hlg l.reverse [] (by simp)
        rw [List.length_reverse] at k1
        exact ⟨q, Ev.bind h1 (ev_pos rfl (Ev.bind h2 (ev_pos rfl (ev_neg h6 k1)))), k2, k3⟩
section
variable {c : List Int} (hc : Code c) {g : List G} (hg : GoodGears g) (hg41 : g.length ≤ 41)
theorem setK_good {l : List K} (hlg : ∀ x ∈ l, GoodCheck x) (i : Nat) {y : K} (hy : GoodCheck y) : ∀ x ∈ l.set i y, GoodCheck x := fun x hx => by
  rcases List.mem_or_eq_of_mem_set hx with h | rfl
  · exact hlg x h
  · exact hy
include hc
theorem checks_end (l : List K) (hl : l.length ≤ 61) (hlg : ∀ x ∈ l, GoodCheck x) (at_ seed : Int) (h0 : 0 ≤ at_) (h1 : at_ ≤ 100000) :
    ∃ r at' s', Ev (fun k => spec_l21DrawChecks.j4 k l c at_ seed) (r, at', s') ∧ r.length ≤ 61 ∧ (∀ x ∈ r, GoodCheck x) ∧ at_ ≤ at' ∧ at' ≤ at_ + 6 := by
  by_cases hz : (l.length : Int) > 0
  · obtain ⟨i, t1, s1, e1, i0, i1, p0, p1⟩ := pick_some hc at_ seed (l.length : Int) ⟨h0, by omega⟩ (by omega)
    obtain ⟨v, t2, s2, e2, v0, v1, p2, p3⟩ := pick_some hc t1 s1 20 ⟨by omega, by omega⟩ (by omega)
    have i2 := i1 (by omega)
    obtain ⟨m0, m1, m2⟩ := hlg _ (rdK_mem l i i0 i2)
    have go : ∀ {r : List K × Int × Int}, Ev (fun k => (spec_l00Src_pick.f c t1 s1 20).bind fun bt321 => (if bt321.1 = 0 then ((spec_l00Src_among.f c bt321.2.1 bt321.2.2 (([(-1), 0, 20000, 20001] : List Int))).bind fun bt327 => (some ((l.set (i : Int).toNat (⟨(rd_T75 l i).f0, bt327.1, (rd_T75 l i).f2⟩ : K)), bt327.2.1, bt327.2.2))) else (if bt321.1 = 1 then ((spec_l00Src_among.f c bt321.2.1 bt321.2.2 (([(-1), 0, 1000000, 1000001] : List Int))).bind fun bt334 => (some ((l.set (i : Int).toNat (⟨(rd_T75 l i).f0, (rd_T75 l i).f1, bt334.1⟩ : K)), bt334.2.1, bt334.2.2))) else (if bt321.1 = 2 then ((spec_l00Src_text.f c bt321.2.1 bt321.2.2 (([(⟨#[]⟩ : ByteArray), (⟨#[110, 111, 110, 101]⟩ : ByteArray), (⟨#[98, 97, 99, 107, 115, 116, 97, 121]⟩ : ByteArray)] : List ByteArray))).bind fun bt341 => (some ((l.set (i : Int).toNat (⟨bt341.1, (rd_T75 l i).f1, (rd_T75 l i).f2⟩ : K)), bt341.2.1, bt341.2.2))) else (some (l, bt321.2.1, bt321.2.2)))))) r → Ev (fun k => spec_l21DrawChecks.j4 k l c at_ seed) r := fun h =>
      Ev.step (fun k => by rw [spec_l21DrawChecks.j4]) (ev_pos hz (ev_bind0 e1 (ev_pos i0 (ev_pos i2 h))))
    by_cases h2 : v = 0
    · obtain ⟨b, t3, s3, e3, hb, p4, p5⟩ := among_some hc t2 s2 [(-1), 0, 20000, 20001] (by omega) (by omega) (by simp) (by simp)
      have hbs : I64 b := by
        simp only [List.mem_cons, List.not_mem_nil, or_false] at hb
        unfold I64; omega
      exact ⟨_, t3, s3, go (ev_bind0 e2 (ev_pos h2 (ev_bind0 e3 (Ev.now _)))), by rw [List.length_set]; exact hl, setK_good hlg _ ⟨m0, hbs, m2⟩, by omega, by omega⟩
    · by_cases h3 : v = 1
      · obtain ⟨b, t3, s3, e3, hb, p4, p5⟩ := among_some hc t2 s2 [(-1), 0, 1000000, 1000001] (by omega) (by omega) (by simp) (by simp)
        have hbs : I64 b := by
          simp only [List.mem_cons, List.not_mem_nil, or_false] at hb
          unfold I64; omega
        exact ⟨_, t3, s3, go (ev_bind0 e2 (ev_neg h2 (ev_pos h3 (ev_bind0 e3 (Ev.now _))))), by rw [List.length_set]; exact hl, setK_good hlg _ ⟨m0, m1, hbs⟩, by omega, by omega⟩
      · by_cases h4 : v = 2
        · obtain ⟨b, t3, s3, e3, hb, p4, p5⟩ := text_some hc t2 s2 [(⟨#[]⟩ : ByteArray), (⟨#[110, 111, 110, 101]⟩ : ByteArray), (⟨#[98, 97, 99, 107, 115, 116, 97, 121]⟩ : ByteArray)] (by omega) (by omega) (by simp) (by simp)
          have hbs : b.size ≤ 1048576 := by
            simp only [List.mem_cons, List.not_mem_nil, or_false] at hb
            rcases hb with rfl | rfl | rfl <;> decide
          exact ⟨_, t3, s3, go (ev_bind0 e2 (ev_neg h2 (ev_neg h3 (ev_pos h4 (ev_bind0 e3 (Ev.now _)))))), by rw [List.length_set]; exact hl, setK_good hlg _ ⟨hbs, m1, m2⟩, by omega, by omega⟩
        · exact ⟨_, t2, s2, go (ev_bind0 e2 (ev_neg h2 (ev_neg h3 (ev_neg h4 (Ev.now _))))), hl, hlg, by omega, by omega⟩
  · exact ⟨l, at_, seed, Ev.step (fun k => by rw [spec_l21DrawChecks.j4]) (ev_neg hz (Ev.now _)), hl, hlg, by omega, by omega⟩
include hg hg41
theorem checks_many (hp : 0 < g.length) : ∀ (d : Nat) (l : List K) (at_ seed : Int), l.length + d ≤ 61 → 0 ≤ at_ → at_ ≤ 100000 → (∀ x ∈ l, GoodCheck x) →
    ∃ r at' s', Ev (fun k => spec_l21DrawChecks.l1 k g l (d : Int) c at_ seed) (r, at', s') ∧ r.length ≤ 61 ∧ (∀ x ∈ r, GoodCheck x) ∧ at_ ≤ at' ∧ at' ≤ at_ + 6 := by
  intro d
  induction d with
  | zero =>
    intro l at_ seed hl h0 h1 hlg
    obtain ⟨r, t, s, e, g1, g2, g3, g4⟩ := checks_end hc l (by omega) hlg at_ seed h0 h1
    exact ⟨r, t, s, Ev.step (fun k => by rw [spec_l21DrawChecks.l1]) (ev_neg (by omega) e), g1, g2, g3, g4⟩
  | succ d ih =>
    intro l at_ seed hl h0 h1 hlg
    have hw : wrap64 (100 + (l.length : Int)) = 100 + (l.length : Int) := wrap_small (by omega) (by omega)
    have hm := (hg.2 _ (rdG_mem g 0 (by omega) (by omega))).1
    obtain ⟨r, t', s', k1, k2, k3, k4, k5⟩ := ih (l ++ [⟨(rd_T72 g 0).f0, wrap64 (100 + (l.length : Int)), 0⟩]) at_ seed (by simp; omega) h0 h1 (fun x hx => by
      rcases List.mem_append.1 hx with h | h
      · exact hlg x h
      · rw [List.mem_singleton.1 h]
        refine ⟨hm, ?_, ?_⟩
        · show I64 (wrap64 (100 + (l.length : Int))); rw [hw]; unfold I64; omega
        · show I64 0; unfold I64; omega)
    refine ⟨r, t', s', ?_, k2, k3, k4, k5⟩
    refine Ev.step (fun k => by rw [spec_l21DrawChecks.l1]) (ev_pos (by omega) (ev_pos (by omega) (ev_pos (by omega) ?_)))
    rw [wrap_small (i := ((d + 1 : Nat) : Int) - 1) (by omega) (by omega), show ((d + 1 : Nat) : Int) - 1 = (d : Int) by omega]
    exact k1
theorem checks_mid (b : Bool) (hb : b = true → 0 < g.length) (l : List K) (at_ seed : Int) (hl : l.length ≤ 61) (h0 : 0 ≤ at_) (h1 : at_ ≤ 10000) (hlg : ∀ x ∈ l, GoodCheck x) :
    ∃ r at' s', Ev (fun k => spec_l21DrawChecks.j2 k g l b c at_ seed) (r, at', s') ∧ r.length ≤ 61 ∧ (∀ x ∈ r, GoodCheck x) ∧ at_ ≤ at' ∧ at' ≤ at_ + 8 := by
  cases b with
  | true =>
    obtain ⟨w, t4, s4, e4, w0, w1, p6, p7⟩ := pick_some hc at_ seed 2 ⟨by omega, by omega⟩ (by omega)
    have w2 := w1 (by omega)
    obtain ⟨r, t5, s5, e5, r1, r2, p8, p9⟩ := checks_many hc hg hg41 (hb rfl) (60 + w).toNat [] t4 s4 (by simp; omega) (by omega) (by omega) (by simp)
    rw [Int.toNat_of_nonneg (by omega)] at e5
    refine ⟨r, t5, s5, ?_, r1, r2, by omega, by omega⟩
    refine Ev.step (fun k => by rw [spec_l21DrawChecks.j2]) (ev_pos rfl (ev_bind0 e4 ?_))
    dsimp only
    rw [wrap_small (i := 60 + w) (by omega) (by omega)]
    exact e5
  | false =>
    obtain ⟨r, t5, s5, e5, r1, r2, p8, p9⟩ := checks_end hc l hl hlg at_ seed h0 (by omega)
    exact ⟨r, t5, s5, Ev.step (fun k => by rw [spec_l21DrawChecks.j2]) (ev_neg (by simp) e5), r1, r2, by omega, by omega⟩
theorem checks_rest (day x7 : Int) (l : List K) (at_ seed : Int) (hl : l.length ≤ 61) (h0 : 0 ≤ at_) (h1 : at_ ≤ 1000) (hlg : ∀ x ∈ l, GoodCheck x) :
    ∃ r at' s', Ev (fun k => spec_l21DrawChecks.j1 k g l day x7 false c at_ seed) (r, at', s') ∧ r.length ≤ 61 ∧ (∀ x ∈ r, GoodCheck x) ∧ at_ ≤ at' ∧ at' ≤ at_ + 10 := by
  by_cases hp : (g.length : Int) > 0
  · obtain ⟨b, t1, s1, e1, p0, p1⟩ := one_some hc at_ seed 20 h0 (by omega) (by omega)
    obtain ⟨r, t2, s2, e2, r1, r2, p2, p3⟩ := checks_mid hc hg hg41 b (fun _ => by omega) l t1 s1 hl (by omega) (by omega) hlg
    refine ⟨r, t2, s2, ?_, r1, r2, by omega, by omega⟩
    exact Ev.step (fun k => by rw [spec_l21DrawChecks.j1]) (ev_neg (by simp) (ev_pos hp (ev_bind0 e1 e2)))
  · obtain ⟨r, t2, s2, e2, r1, r2, p2, p3⟩ := checks_mid hc hg hg41 false (by simp) l at_ seed hl (by omega) (by omega) hlg
    refine ⟨r, t2, s2, ?_, r1, r2, by omega, by omega⟩
    exact Ev.step (fun k => by rw [spec_l21DrawChecks.j1]) (ev_neg (by simp) (ev_neg hp e2))
theorem checks_loop0 : ∀ (d : Nat) (l : List K) (day at_ seed : Int), d ≤ 8 → l.length ≤ 60 → 0 ≤ at_ → at_ + 6 * d ≤ 900 → 0 ≤ day → day + 30 * d ≤ 10000 → (∀ x ∈ l, GoodCheck x) →
    ∃ r at' s', Ev (fun k => spec_l21DrawChecks.l0 k g l day (d : Int) c at_ seed) (r, at', s') ∧ r.length ≤ 61 ∧ (∀ x ∈ r, GoodCheck x) ∧ at_ ≤ at' ∧ at' ≤ at_ + 6 * d + 10 := by
  intro d
  induction d with
  | zero =>
    intro l day at_ seed hd hl h0 h1 y0 y1 hlg
    obtain ⟨r, t2, s2, e2, r1, r2, p2, p3⟩ := checks_rest hc hg hg41 day ((0 : Nat) : Int) l at_ seed (by omega) h0 (by omega) hlg
    exact ⟨r, t2, s2, Ev.step (fun k => by rw [spec_l21DrawChecks.l0]) (ev_neg (by omega) e2), r1, r2, by omega, by omega⟩
  | succ d ih =>
    intro l day at_ seed hd hl h0 h1 y0 y1 hlg
    by_cases hp : (g.length : Int) > 0
    · obtain ⟨i, t1, s1, e1, i0, i1, p0, p1⟩ := pick_some hc at_ seed (g.length : Int) ⟨h0, by omega⟩ (by omega)
      obtain ⟨v, t2, s2, e2, v0, v1, p2, p3⟩ := pick_some hc t1 s1 40 ⟨by omega, by omega⟩ (by omega)
      obtain ⟨u, t3, s3, e3, u0, u1, p4, p5⟩ := pick_some hc t2 s2 30 ⟨by omega, by omega⟩ (by omega)
      have i2 := i1 (by omega)
      have v2 := v1 (by omega)
      have u2 := u1 (by omega)
      have hm := (hg.2 _ (rdG_mem g i i0 i2)).1
      have hx : GoodCheck ⟨(rd_T72 g i).f0, day, 10 * v⟩ := by
        refine ⟨hm, ?_, ?_⟩
        · show I64 day; unfold I64; omega
        · show I64 (10 * v); unfold I64; omega
      obtain ⟨q, ea, q1, q2⟩ := spec_add g l ⟨(rd_T72 g i).f0, day, 10 * v⟩ hg hl hx hlg
      have hw : wrap64 (10 * v) = 10 * v := wrap_small (by omega) (by omega)
      have hw2 : wrap64 (day + u) = day + u := wrap_small (by omega) (by omega)
      have hw3 : wrap64 (((d + 1 : Nat) : Int) - 1) = (d : Int) := (wrap_small (by omega) (by omega)).trans (by omega)
      have step : ∀ {r : List K × Int × Int}, (if q.2 = 0 then Ev (fun k => spec_l21DrawChecks.l0 k g q.1 (day + u) (d : Int) c t3 s3) r else Ev (fun k => spec_l21DrawChecks.l0 k g l (day + u) (d : Int) c t3 s3) r) → Ev (fun k => spec_l21DrawChecks.l0 k g l day ((d + 1 : Nat) : Int) c at_ seed) r := by
        intro r h
        refine Ev.step (fun k => by rw [spec_l21DrawChecks.l0]) (ev_pos (by omega) ?_)
        rw [decide_eq_true hp]
        refine Ev.step (fun k => by rw [spec_l21DrawChecks.j1]) (ev_pos rfl (ev_bind0 e1 (ev_pos i0 (ev_pos i2 (ev_bind0 e2 (ev_bind0 e3 ?_))))))
        dsimp only
        rw [hw, hw2, hw3]
        refine Ev.bind ea ?_
        by_cases h5 : q.2 = 0
        · rw [if_pos h5] at h; exact ev_pos h5 h
        · rw [if_neg h5] at h; exact ev_neg h5 h
      by_cases h5 : q.2 = 0
      · obtain ⟨r, t', s', k1, k2, k3, k4, k5⟩ := ih q.1 (day + u) t3 s3 (by omega) q1 (by omega) (by omega) (by omega) (by omega) q2
        exact ⟨r, t', s', step (by rw [if_pos h5]; exact k1), k2, k3, by omega, by omega⟩
      · obtain ⟨r, t', s', k1, k2, k3, k4, k5⟩ := ih l (day + u) t3 s3 (by omega) hl (by omega) (by omega) (by omega) (by omega) hlg
        exact ⟨r, t', s', step (by rw [if_neg h5]; exact k1), k2, k3, by omega, by omega⟩
    · obtain ⟨r, t2, s2, e2, r1, r2, p2, p3⟩ := checks_rest hc hg hg41 day ((d + 1 : Nat) : Int) l at_ seed (by omega) h0 (by omega) hlg
      refine ⟨r, t2, s2, Ev.step (fun k => by rw [spec_l21DrawChecks.l0]) (ev_pos (by omega) ?_), r1, r2, by omega, by omega⟩
      rw [decide_eq_false hp]
      exact e2
theorem draw_checks (at_ seed : Int) (h0 : 0 ≤ at_) (h1 : at_ ≤ 800) : ∃ l at' s', Ev (fun k => spec_l21DrawChecks.f k c at_ seed g) (l, at', s') ∧ l.length ≤ 61 ∧ (∀ x ∈ l, GoodCheck x) ∧ at_ ≤ at' ∧ at' ≤ at_ + 100 := by
  obtain ⟨v, t1, s1, e1, v0, v1, p0, p1⟩ := pick_some hc at_ seed 9 ⟨h0, by omega⟩ (by omega)
  have v2 := v1 (by omega)
  obtain ⟨r, t2, s2, e2, r1, r2, p2, p3⟩ := checks_loop0 hc hg hg41 v.toNat [] 100 t1 s1 (by omega) (by simp) (by omega) (by omega) (by omega) (by omega) (by simp)
  rw [Int.toNat_of_nonneg v0] at e2
  refine ⟨r, t2, s2, ?_, r1, r2, by omega, by omega⟩
  unfold spec_l21DrawChecks.f
  exact ev_bind0 e1 e2
theorem draw_name (at_ seed : Int) (h0 : 0 ≤ at_) (h1 : at_ ≤ 10000) : ∃ a at' s', Ev (fun k => spec_l21Name.f k c at_ seed g) (a, at', s') ∧ a.size ≤ 1048576 ∧ at_ ≤ at' ∧ at' ≤ at_ + 4 := by
  have fin : ∀ (t1 s1 : Int), 0 ≤ t1 → t1 ≤ 100000 → ∃ a at' s', Ev (fun k => spec_l21Name.j0 k g false c t1 s1) (a, at', s') ∧ a.size ≤ 1048576 ∧ t1 ≤ at' ∧ at' ≤ t1 + 2 := by
    intro t1 s1 h0 h1
    obtain ⟨b, t3, s3, e3, hb, p4, p5⟩ := text_some hc t1 s1 [(⟨#[]⟩ : ByteArray), (⟨#[110, 111, 110, 101]⟩ : ByteArray), (⟨#[98, 97, 99, 107, 115, 116, 97, 121]⟩ : ByteArray)] h0 (by omega) (by simp) (by simp)
    have hbs : b.size ≤ 1048576 := by
      simp only [List.mem_cons, List.not_mem_nil, or_false] at hb
      rcases hb with rfl | rfl | rfl <;> decide
    exact ⟨b, t3, s3, Ev.step (fun k => by rw [spec_l21Name.j0]) (ev_neg (by simp) (ev_bind0 e3 (Ev.now _))), hbs, p4, p5⟩
  unfold spec_l21Name.f
  by_cases hp : (g.length : Int) > 0
  · obtain ⟨b, t1, s1, e1, p0, p1⟩ := one_some hc at_ seed 8 h0 (by omega) (by omega)
    cases b with
    | true =>
      obtain ⟨a, t2, s2, e2, a1, p2, p3⟩ := fin t1 s1 (by omega) (by omega)
      exact ⟨a, t2, s2, ev_pos hp (ev_bind0 e1 e2), a1, by omega, by omega⟩
    | false =>
      obtain ⟨i, t2, s2, e2, i0, i1, p2, p3⟩ := pick_some hc t1 s1 (g.length : Int) ⟨by omega, by omega⟩ (by omega)
      have i2 := i1 (by omega)
      have hm := (hg.2 _ (rdG_mem g i i0 i2)).1
      refine ⟨_, t2, s2, ev_pos hp (ev_bind0 e1 ?_), hm, by omega, by omega⟩
      refine Ev.step (fun k => by rw [spec_l21Name.j0]) ?_
      exact ev_pos (show (!false) = true from rfl) (ev_bind0 e2 (ev_pos i0 (ev_pos i2 (Ev.now _))))
  · obtain ⟨a, t2, s2, e2, a1, p2, p3⟩ := fin at_ seed h0 (by omega)
    exact ⟨a, t2, s2, ev_neg hp e2, a1, by omega, by omega⟩
end
section
variable {c : List Int} (hc : Code c)
include hc
theorem draw_day (at_ seed : Int) (h0 : 0 ≤ at_) (h1 : at_ ≤ 10000) : ∃ d at' s', spec_l21DrawDay.f c at_ seed = some (d, at', s') ∧ I64 d := by
  obtain ⟨b, t1, s1, e1, p0, p1⟩ := one_some hc at_ seed 8 h0 (by omega) (by omega)
  unfold spec_l21DrawDay.f
  rw [e1, Option.bind_some]
  dsimp only
  cases b with
  | true =>
    obtain ⟨b, t3, s3, e3, hb, p4, p5⟩ := among_some hc t1 s1 [(-1), 0, 20000, 20001, (-9223372036854775808)] (by omega) (by omega) (by simp) (by simp)
    rw [if_pos rfl, e3, Option.bind_some]
    refine ⟨_, _, _, rfl, ?_⟩
    simp only [List.mem_cons, List.not_mem_nil, or_false] at hb
    show I64 b
    unfold I64; omega
  | false =>
    obtain ⟨v, t2, s2, e2, v0, v1, p2, p3⟩ := pick_some hc t1 s1 400 ⟨by omega, by omega⟩ (by omega)
    have v2 := v1 (by omega)
    rw [if_neg (by simp), e2, Option.bind_some]
    refine ⟨_, _, _, rfl, ?_⟩
    show I64 v
    unfold I64; omega
theorem draw_both : ∃ g l at' s', Ev (fun k => spec_l21Both.f k c 0 0) (g, l, at', s') ∧ GoodGears g ∧ GoodChecks l ∧ g.length ≤ 41 ∧ 0 ≤ at' ∧ at' ≤ 1000 := by
  obtain ⟨g, t1, s1, e1, g1, g2, p0, p1⟩ := bent_gears hc 0 0 (by omega) (by omega)
  obtain ⟨l, t2, s2, e2, l1, l2, p2, p3⟩ := draw_checks hc (g := g) ⟨by omega, g2⟩ g1 t1 s1 (by omega) (by omega)
  refine ⟨g, l, t2, s2, ?_, ⟨by omega, g2⟩, ⟨by omega, l2⟩, g1, by omega, by omega⟩
  unfold spec_l21Both.f
  exact Ev.bind e1 (Ev.bind e2 (Ev.now _))
theorem draw_wearOn : ∃ g l a d, Ev (fun k => spec_DrawWearOn.f k c) (g, l, a, d) ∧ GoodGears g ∧ GoodChecks l ∧ a.size ≤ 1048576 ∧ I64 d := by
  obtain ⟨g, l, t, s, e, hg, hl, h41, p0, p1⟩ := draw_both hc
  obtain ⟨a, t2, s2, e2, a1, p2, p3⟩ := draw_name hc hg h41 t s p0 (by omega)
  obtain ⟨d, t3, s3, e3, d1⟩ := draw_day hc t2 s2 (by omega) (by omega)
  refine ⟨g, l, a, d, ?_, hg, hl, a1, d1⟩
  unfold spec_DrawWearOn.f spec_l00From.f
  exact Ev.bind (Ev.now _) (Ev.bind e (Ev.bind e2 (ev_bind0 e3 (Ev.now _))))
theorem draw_endOf : ∃ g l a, Ev (fun k => spec_DrawDayOfEnd.f k c) (g, l, a) ∧ GoodGears g ∧ GoodChecks l ∧ a.size ≤ 1048576 := by
  obtain ⟨g, l, t, s, e, hg, hl, h41, p0, p1⟩ := draw_both hc
  obtain ⟨a, t2, s2, e2, a1, p2, p3⟩ := draw_name hc hg h41 t s p0 (by omega)
  refine ⟨g, l, a, ?_, hg, hl, a1⟩
  unfold spec_DrawDayOfEnd.f spec_l21Ask.f spec_l00From.f
  exact Ev.bind (a := (g, l, a)) (Ev.bind (Ev.now _) (Ev.bind e (Ev.bind e2 (Ev.now _)))) (Ev.now _)
theorem draw_wornOn : ∃ g l d, Ev (fun k => spec_DrawWornOn.f k c) (g, l, d) ∧ GoodGears g ∧ GoodChecks l ∧ I64 d := by
  obtain ⟨g, l, t, s, e, hg, hl, h41, p0, p1⟩ := draw_both hc
  obtain ⟨d, t3, s3, e3, d1⟩ := draw_day hc t s (by omega) (by omega)
  refine ⟨g, l, d, ?_, hg, hl, d1⟩
  unfold spec_DrawWornOn.f spec_l21Dated.f spec_l00From.f
  exact Ev.bind (a := (g, l, d)) (Ev.bind (Ev.now _) (Ev.bind e (ev_bind0 e3 (Ev.now _)))) (Ev.now _)
end
end Go.Proofs.YtfenjlkopofopaaB
end

section
/- FnWear: its plain statement: both answers are equal, wear grows from day to day between inspections, a part stands it until the day before its end, and worn parts are those that do not. -/
namespace Go.Proofs.Ytfenjlkopofopaa.Pure
open Go.RowKit Go.Proofs.Ytfenjlkopofopaa.P Go.Proofs.YtfenjlkopofopaaW.PrintWords Go.Proofs.YtfenjlkopofopaaW.PrintLast Go.Proofs.YtfenjlkopofopaaB

theorem ws {i : Int} (h0 : -9223372036854775808 ≤ i) (h1 : i ≤ 9223372036854775807) : wrap64 i = i := Go.Proofs.YtfenjlkopofopaaB.wrap_small h0 h1
theorem texts_loop : ∀ (xs p : List ByteArray), p.length + xs.length ≤ 4611686018427387904 → Ev (fun k => laws_f6texts.l0 k (p ++ xs) (p ++ xs) (p.length : Int)) true := by
  intro xs
  induction xs with
  | nil =>
    intro p _
    refine Ev.step (fun k => by rw [laws_f6texts.l0]) ?_
    exact ev_neg (not_lt_end p) (Ev.now _)
  | cons x xs ih =>
    intro p hl
    rw [List.length_cons] at hl
    have hw : wrap64 ((p.length : Int) + 1) = ((p ++ [x]).length : Int) := wrap_next p x (by omega)
    have hi := ih (p ++ [x]) (by rw [List.length_append]; simp; omega)
    refine Ev.step (fun k => by rw [laws_f6texts.l0]) ?_
    refine ev_pos (lt_mid p x xs) (ev_pos (Int.natCast_nonneg _) (ev_pos (lt_mid p x xs) (ev_pos rfl ?_)))
    rw [hw, push_mid p x xs]
    exact hi
theorem texts_refl (l : List ByteArray) (h : l.length ≤ 1048576) : Ev (fun k => laws_f6texts.f k l l) true := by
  unfold laws_f6texts.f
  exact ev_pos rfl (texts_loop l [] (by simp; omega))
theorem word_loop (a : ByteArray) : ∀ (xs p : List ByteArray), p.length + xs.length ≤ 4611686018427387904 → Ev (fun k => laws_f6word.l0 k (p ++ xs) a (p.length : Int)) (xs.any fun b => b.toList == a.toList) := by
  intro xs
  induction xs with
  | nil =>
    intro p _
    refine Ev.step (fun k => by rw [laws_f6word.l0]) ?_
    exact ev_neg (not_lt_end p) (Ev.now _)
  | cons x xs ih =>
    intro p hl
    rw [List.length_cons] at hl
    have hw : wrap64 ((p.length : Int) + 1) = ((p ++ [x]).length : Int) := wrap_next p x (by omega)
    have hi := ih (p ++ [x]) (by rw [List.length_append]; simp; omega)
    refine Ev.step (fun k => by rw [laws_f6word.l0]) ?_
    refine ev_pos (lt_mid p x xs) (ev_pos (Int.natCast_nonneg _) ?_)
    rw [rdOf_mid, hw, push_mid p x xs, List.any_cons]
    refine ev_ite (fun h => ?_) (fun h => ?_)
    · exact ev_of (Ev.now _) (by rw [h]; simp)
    · refine ev_of hi ?_
      have : (x.toList == a.toList) = false := by simpa using h
      rw [this, Bool.false_or]
theorem word_ev (l : List ByteArray) (a : ByteArray) (h : l.length ≤ 1048576) : Ev (fun k => laws_f6word.f k l a) (l.any fun b => b.toList == a.toList) := by
  unfold laws_f6word.f
  exact word_loop a l [] (by simp; omega)
section
variable {x3 : List G} {x4 : List K} {x5 : ByteArray} {x6 : Int} {r3 : Bool} (hg3 : GoodGears x3) (hl4 : GoodChecks x4)
  (h23 : ∀ d, Ev (fun k => impl_gearCode.f k x3 x4 d) (codeOf r3 d)) (h33 : r3 = true → GearsIn x3 ∧ ChecksIn x4)
include hg3 hl4 h23 h33
omit hg3 h23 in
theorem checks_left (x : G) (hx : GearIn x) (hr : r3 = true) (hd0 : 0 ≤ x6) (hd1 : x6 < 20000) : ∀ (xs p : List K), x4 = p ++ xs → (∀ z ∈ p, z.f0.toList = x5.toList → z.f1 ≠ x6 + 1) →
    Ev (fun k => laws_FnWear.l2 k x4 x5 x6 (wearV x x6 (lastOf x4 x5 x6)) (wearV x (x6 + 1) (lastOf x4 x5 (x6 + 1))) (p.length : Int)) true := by
  have hci := (h33 hr).2
  have hw1 : wrap64 (x6 + 1) = x6 + 1 := ws (by omega) (by omega)
  intro xs
  induction xs with
  | nil =>
    intro p hp hno
    rw [List.append_nil] at hp
    refine Ev.step (fun k => by rw [laws_FnWear.l2]) ?_
    refine ev_neg (by rw [hp]; omega) (ev_of (Ev.now _) ?_)
    rw [lastOf_next x4 x5 x6 (by rw [hp]; exact hno)]
    exact decide_eq_true (wear_next x x6 _ hx hd0 hd1 (fun z hz => ⟨hci.2.1 z (lastOf_in hz).1, (lastOf_in hz).2⟩))
  | cons z xs ih =>
    intro p hp hno
    have hpl : (p.length : Int) + (xs.length + 1) = x4.length := by rw [hp]; simp
    have hl := hl4.1
    have hz : rd_T75 x4 (p.length : Int) = z := by rw [hp]; exact rd75_mid p z xs
    have hw : wrap64 ((p.length : Int) + 1) = ((p ++ [z]).length : Int) := wrap_next p z (by omega)
    have hzm : z ∈ x4 := by rw [hp]; simp
    refine Ev.step (fun k => by rw [laws_FnWear.l2]) (ev_pos (by omega) (ev_pos (by omega) ?_))
    rw [hz, hw, hw1]
    by_cases hn : z.f0.toList = x5.toList
    · by_cases hd : z.f1 = x6 + 1
      · refine ev_pos hn (ev_pos hd (ev_of (Ev.now _) ?_))
        rw [lastOf_at x5 (x6 + 1) hci.2.2 z hzm hn hd, wear_at x (x6 + 1) z (hci.2.1 z hzm) hd]
        simp
      · refine ev_pos hn (ev_neg hd (ih (p ++ [z]) (by rw [hp]; simp) (fun y hy => ?_)))
        rcases List.mem_append.1 hy with h | h
        · exact hno y h
        · rw [List.mem_singleton.1 h]; exact fun _ => hd
    · refine ev_neg hn (ih (p ++ [z]) (by rw [hp]; simp) (fun y hy => ?_))
      rcases List.mem_append.1 hy with h | h
      · exact hno y h
      · rw [List.mem_singleton.1 h]; exact fun h2 => absurd h2 hn
omit hg3 in
theorem last_part : Ev (fun k => laws_FnWear.j4 k x3 x4 x5 x6 (wearOnV r3 x3 x4 x5 x6).2 (wearOnV r3 x3 x4 x5 x6).1) true := by
  refine Ev.step (fun k => by rw [laws_FnWear.j4]) ?_
  by_cases h0 : (wearOnV r3 x3 x4 x5 x6).2 = 0
  · refine ev_pos h0 ?_
    cases hr : r3 with
    | false => rw [hr] at h0; simp [wearOnV] at h0
    | true =>
      rw [hr] at h0
      unfold wearOnV at h0 ⊢
      rw [if_pos rfl] at h0 ⊢
      by_cases hd : dayB x6 = true
      · rw [if_pos hd] at h0 ⊢
        have hr2 := goG_range x3 x5 0
        by_cases hn : goG x3 x5 0 < 0
        · rw [if_pos hn] at h0; simp at h0
        · rw [if_neg hn]
          have hx := rdG_goG hn
          have hd2 : 0 ≤ x6 ∧ x6 ≤ 20000 := by simpa [dayB] using hd
          refine Ev.step (fun k => by rw [laws_FnWear.j5]) ?_
          by_cases he : x6 = 20000
          · exact ev_pos (by rw [he]; rfl) (Ev.now _)
          · have hw := wearOn_val hl4.1 h23 x5 (x6 + 1)
            unfold wearOnV at hw
            have hd3 : dayB (x6 + 1) = true := by simp [dayB]; omega
            rw [if_pos hr, if_pos hd3, if_neg hn] at hw
            refine ev_neg (by simpa using he) ?_
            rw [ws (i := x6 + 1) (by omega) (by omega)]
            refine Ev.bind hw (ev_pos rfl ?_)
            exact checks_left hl4 h33 (rd_T72 x3 (goG x3 x5 0)) ((h33 hr).1.2 _ hx.1) hr hd2.1 (by omega) x4 [] rfl (by simp)
      · rw [if_neg hd] at h0; simp at h0
  · exact ev_neg h0 (Ev.step (fun k => by rw [laws_FnWear.j5]) (ev_pos rfl (Ev.now _)))
end
theorem names_inj {g : List G} (h : Names g) {x y : G} (hx : x ∈ g) (hy : y ∈ g) (e : x.f0 = y.f0) : x = y := by
  obtain ⟨q, zs, h1⟩ := List.append_of_mem hx
  obtain ⟨q2, zs2, h2⟩ := List.append_of_mem hy
  have a1 := h q x zs h1
  have a2 := h q2 y zs2 h2
  rw [e, a2] at a1
  have e2 := h1.symm.trans h2
  have := List.append_inj e2 (by omega)
  injection this.2
theorem worn_has {g : List G} {l : List K} (h : Names g) (d : Int) (x : G) (hx : x ∈ g) : ((wornL l d g).any fun b => b.toList == x.f0.toList) = decide (wearV x d (lastOf l x.f0 d) > x.f3) := by
  rw [Bool.eq_iff_iff, List.any_eq_true, decide_eq_true_iff]
  unfold wornL
  constructor
  · rintro ⟨b, hb, he⟩
    obtain ⟨z, hz, rfl⟩ := List.mem_map.1 hb
    have hz2 := List.mem_filter.1 hz
    have e : z.f0 = x.f0 := toList_inj (by simpa using he)
    have := names_inj h hz2.1 hx e
    subst this
    exact of_decide_eq_true hz2.2
  · intro hw
    exact ⟨x.f0, List.mem_map.2 ⟨x, List.mem_filter.2 ⟨hx, decide_eq_true hw⟩, rfl⟩, by simp⟩
section
variable {x3 : List G} {x4 : List K} {x5 : ByteArray} {x6 x8 x9 : Int} (hlast : Ev (fun k => laws_FnWear.j4 k x3 x4 x5 x6 x8 x9) true)
include hlast
theorem stands_loop (g : List G) (part : ByteArray) (day date at_ : Int) (hg : g.length ≤ 1048576) (hn : Names g) (hf : ¬ goG g part 0 < 0) (hat : at_ > (rd_T72 g (goG g part 0)).f3) (hdate : date ≤ day) :
    ∀ (xs p : List G) (s : Int), g = p ++ xs → (rd_T72 g (goG g part 0) ∈ p → s = (rd_T72 g (goG g part 0)).f3) →
    Ev (fun k => laws_FnWear.l1 k x3 x4 x5 x6 x8 x9 g part day 0 date at_ 0 s (p.length : Int)) true := by
  obtain ⟨hy, hyn⟩ := rdG_goG hf
  generalize rd_T72 g (goG g part 0) = y at hat hy hyn
  intro xs
  induction xs with
  | nil =>
    intro p s hp hs
    rw [List.append_nil] at hp
    have := hs (hp ▸ hy)
    refine Ev.step (fun k => by rw [laws_FnWear.l1]) ?_
    exact ev_neg (by rw [hp]; omega) (ev_pos rfl (ev_neg (by omega) (ev_pos rfl (ev_neg (by omega) hlast))))
  | cons x xs ih =>
    intro p s hp hs
    have hpl : (p.length : Int) + (xs.length + 1) = g.length := by rw [hp]; simp
    have hx : rd_T72 g (p.length : Int) = x := by rw [hp]; exact rd72_mid p x xs
    have hw : wrap64 ((p.length : Int) + 1) = ((p ++ [x]).length : Int) := wrap_next p x (by omega)
    have hxm : x ∈ g := by rw [hp]; simp
    refine Ev.step (fun k => by rw [laws_FnWear.l1]) (ev_pos (by omega) (ev_pos (by omega) ?_))
    rw [hx, hw]
    refine ev_ite (fun h => ?_) (fun h => ?_)
    · have e := names_inj hn hxm hy ((toList_inj h).trans hyn.symm)
      exact ih (p ++ [x]) x.f3 (by rw [hp]; simp) (fun _ => by rw [e])
    · refine ih (p ++ [x]) s (by rw [hp]; simp) (fun hm => ?_)
      rcases List.mem_append.1 hm with hm | hm
      · exact hs hm
      · rw [List.mem_singleton.1 hm] at hyn
        exact absurd (by rw [hyn]) h
theorem end_part {g : List G} {l : List K} {r : Bool} (part : ByteArray) (q : ByteArray × Int × Int) (hg : GoodGears g) (hl : GoodChecks l) (h1 : Ev (fun k => spec_l21Checks.f k g l) r)
    (h2 : ∀ d, Ev (fun k => impl_gearCode.f k g l d) (codeOf r d)) (h3 : r = true → GearsIn g ∧ ChecksIn l) (hq : Ev (fun k => spec_NextToFail.f k g l) q) :
    Ev (fun k => laws_FnWear.j2 k x3 x4 x5 x6 x8 x9 g l part (dayOfEndV r g l part).2 (dayOfEndV r g l part).1 q.2.2 q.2.1) true := by
  refine Ev.step (fun k => by rw [laws_FnWear.j2]) ?_
  by_cases h0 : (dayOfEndV r g l part).2 = 0
  · refine ev_pos h0 ?_
    cases r with
    | false => simp [dayOfEndV] at h0
    | true =>
      have hin := h3 rfl
      unfold dayOfEndV at h0 ⊢
      rw [if_pos rfl] at h0 ⊢
      have hr2 := goG_range g part 0
      by_cases hn : goG g part 0 < 0
      · rw [if_pos hn] at h0; simp at h0
      · rw [if_neg hn] at h0 ⊢
        obtain ⟨hy, hyn⟩ := rdG_goG hn
        by_cases he : endV (rd_T72 g (goG g part 0)) l < 0
        · rw [if_pos he] at h0; simp at h0
        · rw [if_neg he]
          have hyi := hin.1.2 _ hy
          have hle := endV_le _ l hyi hin.2.2.1
          have hwe := wear_end _ l hyi hin.2.2.1 (by omega)
          have hw := wearOn_val hl.1 h2 part (endV (rd_T72 g (goG g part 0)) l)
          have hd3 : dayB (endV (rd_T72 g (goG g part 0)) l) = true := by simp [dayB]; omega
          unfold wearOnV at hw
          rw [if_pos rfl, if_pos hd3, if_neg hn] at hw
          rw [hyn] at hwe
          obtain ⟨q2, k1, _, k3⟩ := next_loop g l hl.1 hin.2.2.1 hin.1.2 hg.1 g [] rfl (-1) 0 (.inl rfl)
          have hq2 : q = q2 := ev_one hq (by unfold spec_NextToFail.f; exact Ev.bind h1 (ev_pos rfl k1))
          have hk := k3 _ hy (by omega)
          subst hq2
          refine Ev.bind hw ?_
          dsimp only
          rw [hk.1]
          exact stands_loop hlast g part _ q.2.1 _ hg.1 (names_of hg h1) hn hwe hk.2 g [] 0 rfl (by simp)
  · exact ev_neg h0 hlast
end
section
variable {x3 : List G} {x4 : List K} {x5 : ByteArray} {x6 x8 x9 : Int} {x11 : List G} {x12 : List K} {x13 : ByteArray} {x15 x16 x27 x29 : Int}
  (hnext : Ev (fun k => laws_FnWear.j2 k x3 x4 x5 x6 x8 x9 x11 x12 x13 x15 x16 x27 x29) true)
include hnext
theorem worn_part {g : List G} {l : List K} (on : Int) (hg : GoodGears g) (hl : GoodChecks l) (h1 : Ev (fun k => spec_l21Checks.f k g l) true)
    (h2 : ∀ d, Ev (fun k => impl_gearCode.f k g l d) (codeOf true d)) (hd : dayB on = true) : ∀ (xs p : List G), g = p ++ xs →
    Ev (fun k => laws_FnWear.l0 k x3 x4 x5 x6 x8 x9 x11 x12 x13 x15 x16 g l on (wornL l on g) x27 x29 (p.length : Int)) true := by
  have hn := names_of hg h1
  have hgl := hg.1
  have hwl := wornL_length l on g
  intro xs
  induction xs with
  | nil =>
    intro p hp
    rw [List.append_nil] at hp
    refine Ev.step (fun k => by rw [laws_FnWear.l0]) ?_
    exact ev_neg (by rw [hp]; omega) hnext
  | cons x xs ih =>
    intro p hp
    have hpl : (p.length : Int) + (xs.length + 1) = g.length := by rw [hp]; simp
    have hx : rd_T72 g (p.length : Int) = x := by rw [hp]; exact rd72_mid p x xs
    have hw : wrap64 ((p.length : Int) + 1) = ((p ++ [x]).length : Int) := wrap_next p x (by omega)
    have hxm : x ∈ g := by rw [hp]; simp
    have hgo := hn p x xs hp
    have hv := wearOn_val hl.1 h2 x.f0 on
    unfold wearOnV at hv
    rw [if_pos rfl, if_pos hd, hgo, if_neg (by omega), hx] at hv
    have hf := word_ev (wornL l on g) x.f0 (by omega)
    rw [worn_has hn on x hxm] at hf
    refine Ev.step (fun k => by rw [laws_FnWear.l0]) (ev_pos (by omega) (ev_pos (by omega) ?_))
    rw [hx, hw]
    refine Ev.bind hv (ev_pos rfl (Ev.bind hf (ev_neg (by simp) ?_)))
    exact ih (p ++ [x]) (by rw [hp]; simp)
end
theorem FnWear : laws_FnWear.Pure := by
  intro l0 _ h1 hc
  unfold maxLen at *
  refine Ev.rounds (?_ : Ev (fun k => laws_FnWear.f k l0) true)
  unfold laws_FnWear.f laws_f6big.f
  by_cases hb : (l0.length : Int) > 4096
  · exact ev_bind0 (a := true) (by rw [decide_eq_true hb]) (ev_pos rfl (Ev.now _))
  · refine ev_bind0 (a := false) (by rw [decide_eq_false hb]) (ev_neg (by simp) ?_)
    have hcode := code_of hc
    obtain ⟨g1, l1, a1, d1, e1, hg1, hl1, ha1, hd1⟩ := draw_wearOn hcode
    obtain ⟨g2, l2, a2, e2, hg2, hl2, ha2⟩ := draw_endOf hcode
    obtain ⟨g3, l3, d3, e3, hg3, hl3, hd3⟩ := draw_wornOn hcode
    obtain ⟨r1, c1, i1, f1⟩ := code_both g1 l1 hg1 hl1
    obtain ⟨r2, c2, i2, f2⟩ := code_both g2 l2 hg2 hl2
    obtain ⟨r3, c3, i3, f3⟩ := code_both g3 l3 hg3 hl3
    obtain ⟨v1, s1, w1, _⟩ := WearOn_both g1 l1 a1 d1 hg1 hl1 ha1 hd1
    obtain ⟨v2, s2, w2, _⟩ := DayOfEnd_both g2 l2 a2 hg2 hl2 ha2
    obtain ⟨v3, s3, w3, hv3⟩ := WornOn_both g3 l3 d3 hg3 hl3 hd3
    obtain ⟨v4, s4, w4, _⟩ := NextToFail_both g2 l2 hg2 hl2
    obtain ⟨v5, s5, w5, _⟩ := ValidGear_both g1 hg1
    have hv1 : v1 = wearOnV r1 g1 l1 a1 d1 := ev_one w1 (wearOn_val hl1.1 i1 a1 d1)
    have hv2 : v2 = dayOfEndV r2 g2 l2 a2 := ev_one w2 (dayOfEnd_val hl2.1 i2 f2 a2)
    refine Ev.bind e1 (Ev.bind w1 (Ev.bind s1 (Ev.bind e2 (Ev.bind w2 (Ev.bind s2 (Ev.bind e3 (Ev.bind w3 (Ev.bind s3 (Ev.bind w4 (Ev.bind s4 ?_))))))))))
    dsimp only
    refine ev_pos rfl (ev_pos rfl (ev_pos rfl (ev_pos rfl (ev_pos rfl (Ev.bind (texts_refl v3.1 hv3) (ev_pos rfl (ev_pos rfl (ev_pos rfl (ev_pos rfl (Ev.bind w5 (Ev.bind s5 ?_)))))))))))
    refine Ev.step (fun k => by rw [laws_FnWear.j0]) (ev_neg (by simp) ?_)
    have hlast : Ev (fun k => laws_FnWear.j4 k g1 l1 a1 d1 v1.2 v1.1) true := by
      rw [hv1]
      exact last_part hl1 i1 f1
    have hend : Ev (fun k => laws_FnWear.j2 k g1 l1 a1 d1 v1.2 v1.1 g2 l2 a2 v2.2 v2.1 v4.2.2 v4.2.1) true := by
      rw [hv2]
      exact end_part hlast a2 v4 hg2 hl2 c2 i2 f2 s4
    by_cases h0 : v3.2 = 0
    · refine ev_pos h0 ?_
      have hs3 := s3
      unfold spec_WornOn.f at hs3
      cases hr : r3 with
      | false =>
        rw [hr] at c3
        have := ev_one hs3 (Ev.bind c3 (ev_neg (by simp) (Ev.now _)))
        rw [this] at h0; simp at h0
      | true =>
        rw [hr] at c3 i3
        by_cases hd : dayB d3 = true
        · have := ev_one hs3 (Ev.bind c3 (ev_pos rfl (ev_bind0 (day_some d3) (ev_pos hd (worn_spec l3 d3 hl3.1 g3 [] [] (by have := hg3.1; simp; omega) (by simp))))))
          rw [this]
          exact worn_part hend d3 hg3 hl3 c3 i3 hd g3 [] rfl
        · have := ev_one hs3 (Ev.bind c3 (ev_pos rfl (ev_bind0 (day_some d3) (ev_neg hd (Ev.now _)))))
          rw [this] at h0; simp at h0
    · exact ev_neg h0 hend
end Go.Proofs.Ytfenjlkopofopaa.Pure
end

section
namespace Go.Proofs.YtfenjlkopofopaaW.PrintWords
open Go.ChangeShapes Go.WideShapes
/-- A row's slice of whole numbers is no longer than its weight allows. -/
theorem sized_ints {H : Type} {enc : TypeId × Value → H} {P : Program} {W : World} {base : Nat} {spare : Nat → Bool} {held : Bool} {t e : TypeId} {k : IntKind} {a : Option Addr} {len cap : Nat} {d : DataW H} {ps : List MemPlace} {ts : List TypeId} {ds : List (DataW H)} {j : Nat}
    (hsz : (DataW.weightsEach P ts ds).all (· ≤ reachBytes) = true) (ht : ts[j]? = some t) (hd : ds[j]? = some d) (hu : P.underlying t = some (.slice e)) (he : P.underlying e = some (.int k)) (hc : P.cellsOf e = 1) {B : Nat} (hB : P.bytesOf e = B)
    (h : DataW.Trod enc P W base spare held t (.slice a len cap) d ps) : len * B ≤ 140737488351232 := by
  obtain ⟨fuel, hf⟩ := h
  rcases open_ints hu he hc hf with ⟨hcs, _⟩ | ⟨x, l, c, zs, hcs, _, hl, _, hz, hx, _, _⟩
  · simp [Value.cells] at hcs
    obtain ⟨rfl, rfl, rfl⟩ := hcs
    simp
  · simp [Value.cells] at hcs
    obtain ⟨rfl, rfl, rfl⟩ := hcs
    obtain ⟨hx, _⟩ := Prod.mk.inj hx
    subst hx
    have z := sized_slice hsz ht hd hu
    rw [hB] at z
    have hl2 : len ≤ zs.length := by
      rw [hz]
      split
      · exact hl
      · exact Nat.le_refl _
    have h1 : (lits (H := H) k (zs.take len)).length + (lits (H := H) k (zs.drop len)).length = zs.length := by
      simp [lits]
      omega
    rw [h1] at z
    exact Nat.le_trans (Nat.mul_le_mul_right _ hl2) z
end Go.Proofs.YtfenjlkopofopaaW.PrintWords
end

section
namespace Go.Proofs.Ytfenjlkopofopaa.fnWear
open Go.ChangeShapes Go.WideShapes Go.ChangeAt Go.RowKit
open Go.ChangeMaps (open_string shut_string)
set_option linter.unusedVariables false
theorem own : ownKnob Try.prog.godebug = none := by kernel_rfl
theorem laidOut : laidOutB Try.prog = true := by kernel_rfl
def IsRow (k : IntKind) (w : World) (a : Option Addr) (len cap : Nat) (zs : List Int) : Prop :=
  (a = none ∧ len = 0 ∧ cap = 0 ∧ zs = []) ∨
  ∃ x, a = some x ∧ len ≤ cap ∧ cap ≤ maxLen ∧ zs.length = cap ∧ (∀ i, i < zs.length → w.cell? (x.add i) = some (.int k (zs.getD i 0))) ∧ ∀ n ∈ zs, (Lit.int k n).wf = true
set_option maxRecDepth 100000 in
theorem lifted (os : Os) (started : os.Started) (H : Type) (enc : TypeId × Value → H) :
    ReturnsInHanded {} Try.checked os 5 .any (Rows.fnWearSpec.pre6 enc Try.prog Try.f5 Rows.fnWearRow.domain false) (Rows.fnWearSpec.post enc Try.prog Try.f5 false true false false) := by
  refine returnsInHanded_of_change_sized (C := Try.checked) own started (by kernel_rfl) Try.func5
    (ChangeSpec.witness6 (enc := enc) (C := Try.checked) false ⟨#[], #[.slice none 0 0], []⟩ 8 (by kernel_rfl) (by kernel_rfl) (by kernel_rfl) (by kernel_rfl)) ?_
  intro W base args ds gs before hval0 hW hcnd hsz0 _
  have hsz : (DataW.weightsEach Try.prog (Try.f5.params.toList ++ Rows.fnWearSpec.plain.varTypes Try.prog) (ds ++ gs)).all (· ≤ reachBytes) = true := hsz0
  have hval : ∀ (j : Nat) t v, Try.f5.params[j]? = some t → args[j]? = some v → Value.okWide Try.prog W .any base t v := hval0
  have hW' := hW
  obtain ⟨p, q, hA0, hV, rfl, hfz, hnd⟩ := hW
  have hA : DataW.TrodAll enc Try.prog W 0 (fun _ => true) true Try.f5.params.toList args.toList ds p := hA0
  rw [Try.params5] at hA hval hsz
  obtain ⟨v0, vs0, d0, ds0, p0, q0, hargs, rfl, rfl, h0, r0⟩ := trodAll_cons hA
  obtain ⟨rfl, rfl, rfl⟩ := trodAll_nil r0
  obtain rfl : args = #[v0] := by cases args; simp_all
  obtain ⟨rfl, rfl⟩ := trodVars_none hV
  obtain ⟨a0, len0, cap0, rfl⟩ := okWide_slice Try.underlying22 (hval 0 22 v0 rfl rfl)
  have k0 := h0
  have lt0 : ∀ x ∈ p0, x.block < W.heap.size := by obtain ⟨m, hm⟩ := k0; exact DataW.trod_lt m _ _ _ hm
  obtain ⟨z0, w0⟩ : ∃ zs, IsRow .u8 W a0 len0 cap0 zs := by
    obtain ⟨fuel, hf⟩ := h0
    rcases open_ints Try.underlying22 Try.underlying5 (by kernel_rfl) hf with ⟨hcs, _⟩ | ⟨x, l, c, zs, hcs, _, hl, hm, hz, _, hcell, hwz⟩
    · simp [Value.cells] at hcs
      obtain ⟨rfl, rfl, rfl⟩ := hcs
      exact ⟨[], .inl ⟨rfl, rfl, rfl, rfl⟩⟩
    · simp [Value.cells] at hcs
      obtain ⟨rfl, rfl, rfl⟩ := hcs
      exact ⟨zs, .inr ⟨_, rfl, hl, hm, by simpa using hz, hcell, hwz⟩⟩
  have y0 : len0 * 1 ≤ 140737488351232 := Go.Proofs.YtfenjlkopofopaaW.PrintWords.sized_ints hsz (j := 0) (t := 22) rfl rfl Try.underlying22 Try.underlying5 (by kernel_rfl) (by kernel_rfl) h0
  clear hA0 hval0 hsz0 hsz
  refine (P.laws_FnWear.walk Pure.FnWear a0 len0 cap0 z0 W w0 y0).mono fun e W' ⟨he, bel⟩ => ?_
  subst he
  exact ⟨_, rfl, _, _, _, [], _, [], hW', trodAll_mk1 (shut_bool Try.underlying4 _), (trodAll_cons_mk (Below.trod laidOut (by kernel_rfl) (of_decide_eq_true (by kernel_rfl)) k0 bel lt0) trodAll_mk0), rfl, bel.frame _, fun h => by cases h⟩
theorem over : Rows.fnWearRow.holds Try.pinned (OpenSpec.ofChange Rows.fnWearSpec) :=
  OpenClaim.holds_of_wide 5 Try.f5 rfl rfl rfl rfl rfl rfl rfl ⟨rfl, rfl, rfl, rfl, rfl⟩ rfl rfl rfl rfl rfl (by kernel_rfl) Try.func5 (by kernel_rfl)
    (of_decide_eq_true (by kernel_rfl)) (by unfold Func.isWrapper; first | (rw [if_pos (by decide +kernel)]; kernel_rfl) | (rw [if_neg (by decide +kernel)]; exact ⟨rfl, rfl⟩))
    (fun os started H enc _ => lifted os started H enc)
theorem proved : Rows.FnWearSaid := over
#print axioms proved
end Go.Proofs.Ytfenjlkopofopaa.fnWear
namespace Go.Proofs.Ytfenjlkopofopaa
/-- The row, under a short name, for the claim. -/
theorem fnWear_holds : Rows.FnWearSaid := fnWear.proved
end Go.Proofs.Ytfenjlkopofopaa
end
