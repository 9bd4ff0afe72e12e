/- Texts of this claim, packed: Px2. -/
import Derived.Test.YtcenjcgfdghfnaaZFnExactCastOff1
section
-- Written by gprint.py (own program, over the printer of the kit) out of the translation. Lean checks it.
namespace Go.Proofs.Ytcenjcgfdghfnaa.P
open Go.RowKit Go.Proofs.YtcenjcgfdghfnaaW.PrintWords Go.Proofs.YtcenjcgfdghfnaaW.PrintLast Go.Proofs.YtcenjcgfdghfnaaW.PrintMore Go.Proofs.YtcenjcgfdghfnaaW.Pk
open Bool renaming true → T_, false → F_
open List renaming setIfInBounds_toArray → sT_, set_cons_zero → s0_, set_cons_succ → sS_
attribute [local go_sem] max2_int min2_int max_two min_two max_three min_three max_four min_four   -- for this text's walks alone
set_option linter.unusedVariables false
set_option linter.unusedSimpArgs false

/-! ### spec_l19Own: function 39 -/
open Go.Proofs.YtcenjcgfdghfnaaW.Hand
def spec_l19Own.f (l0_0 : List (S91)) (l0_1 : List ByteArray) (l0_2 : List (S41)) : Option ((List (S91)) × List ByteArray × (List (S41))) := (some (([] : List (S91)) : List (S91))).bind fun y188 => (if y188.length + l0_0.length < 3518437208883 then ((some (([] : List ByteArray) : List ByteArray)).bind fun y194 => (if y194.length + l0_1.length < 8796093022208 then ((some (([] : List (S41)) : List (S41))).bind fun y200 => (if y200.length + l0_2.length < 3518437208883 then (some ((y188 ++ l0_0), (y194 ++ l0_1), (y200 ++ l0_2))) else (none))) else (none))) else (none))
def spec_l19Own.T1 : Bool × List (List Nat × List Nat) := (true, [([], []), ([], []), ([1], [1]), ([2], [2]), ([3], [3]), ([0, 4], [0, 4]), ([], []), ([], []), ([7], [7]), ([8], [8]), ([9], [9]), ([6, 10, 5], [6, 10]), ([], []), ([], []), ([13], [13]), ([14], [14]), ([15], [15]), ([12, 16, 11], [12, 16]), ([5, 11, 17], [5, 11, 17]), ([18, 17, 0, 1, 2, 3, 4, 5, 6, 7, 8, 9, 10, 11, 12, 13, 14, 15, 16, 17, 18], [18])])
def spec_l19Own.B1 : List Nat := [0, 0, 2, 6, 14, 31, 0, 0, 128, 384, 896, 2047, 0, 0, 8192, 24576, 57344, 131071, 262143, 524287]
theorem spec_l19Own.tab1 : rtab .any (opsOf Try.f39 1) = spec_l19Own.T1 := by kernel_rfl
theorem spec_l19Own.bits1 : waitsOk spec_l19Own.T1.2 spec_l19Own.B1 = true := by kernel_rfl
set_option maxHeartbeats 8000000 in
set_option maxRecDepth 100000 in
theorem spec_l19Own.core (gb186 : Nat) (A0_0 : Option Addr) (c0_0 : Nat) (l0_0 : List (S91)) (A0_1 : Option Addr) (c0_1 : Nat) (l0_1 : List ByteArray) (A0_2 : Option Addr) (c0_2 : Nat) (l0_2 : List (S41)) (r1 : List (S91)) (r2 : List ByteArray) (r3 : List (S41)) (w : World) (hb0 : w.heap[gb186]? = some (.cells #[.slice A0_0 l0_0.length c0_0, .slice A0_1 l0_1.length c0_1, .slice A0_2 l0_2.length c0_2] 31 (0, 0))) (hr0_0 : Kd.C k91 w A0_0 l0_0.length l0_0) (hr0_1 : Kd.C Kd.string w A0_1 l0_1.length l0_1) (hr0_2 : Kd.C k41 w A0_2 l0_2.length l0_2) (h : spec_l19Own.f l0_0 l0_1 l0_2 = some (r1, r2, r3)) :
  Calls Try.prog 39 #[.pointer (some ⟨gb186, 0, none⟩)] w fun e w' => ∃ v0_ v1_ v2_ : Value, e = .returned (.agg #[v0_, v1_, v2_]) ∧ Kd.R k91 91 w' w.heap.size (fun _ => True) v0_ r1 ∧ Kd.R Kd.string 9 w' w.heap.size (fun _ => True) v1_ r2 ∧ Kd.R k41 41 w' w.heap.size (fun _ => True) v2_ r3 ∧ Below w.heap.size w w' := by
 have hu31 := Try.underlying31
 have HR0_0 := ak_ hr0_0
 clear hr0_0
 have HR0_1 := ak_ hr0_1
 clear hr0_1
 have HR0_2 := ak_ hr0_2
 clear hr0_2
 have HB := ak_ (Below.refl w.heap.size w)
 have H : ((some (([] : List (S91)) : List (S91))).bind fun y188 => (if y188.length + l0_0.length < 3518437208883 then ((some (([] : List ByteArray) : List ByteArray)).bind fun y194 => (if y194.length + l0_1.length < 8796093022208 then ((some (([] : List (S41)) : List (S41))).bind fun y200 => (if y200.length + l0_2.length < 3518437208883 then (some ((y188 ++ l0_0), (y194 ++ l0_1), (y200 ++ l0_2))) else (none))) else (none))) else (none))) = some (r1, r2, r3) := h
 clear h
 obtain ⟨y188, hy188⟩ : ∃ y_ : List (S91), y_ = (([] : List (S91))) := ⟨_, rfl⟩
 replace H : (if y188.length + l0_0.length < 3518437208883 then ((some (([] : List ByteArray) : List ByteArray)).bind fun y194 => (if y194.length + l0_1.length < 8796093022208 then ((some (([] : List (S41)) : List (S41))).bind fun y200 => (if y200.length + l0_2.length < 3518437208883 then (some ((y188 ++ l0_0), (y194 ++ l0_1), (y200 ++ l0_2))) else (none))) else (none))) else (none)) = some (r1, r2, r3) := by first | (rw [hy188]; with_reducible exact H) | (have H2_ := (Option.bind_some _ _).symm.trans H; rw [hy188]; with_reducible exact H2_) | (have H2_ := (Option.bind_some _ _).symm.trans H; with_reducible exact H2_) | with_reducible exact H | (rw [hy188]; exact H) | exact H
 have Ny188 := ak_ hy188
 clear hy188
 by_cases c2 : y188.length + l0_0.length < 3518437208883
 ·rw [if_pos c2] at H
  have LMc2 := ak_ c2
  clear c2
  obtain ⟨y191, hy191⟩ : ∃ y_ : List (S91), y_ = (y188 ++ l0_0) := ⟨_, rfl⟩
  replace H : ((some (([] : List ByteArray) : List ByteArray)).bind fun y194 => (if y194.length + l0_1.length < 8796093022208 then ((some (([] : List (S41)) : List (S41))).bind fun y200 => (if y200.length + l0_2.length < 3518437208883 then (some (y191, (y194 ++ l0_1), (y200 ++ l0_2))) else (none))) else (none))) = some (r1, r2, r3) := by first | (rw [hy191]; with_reducible exact H) | (have H2_ := (Option.bind_some _ _).symm.trans H; rw [hy191]; with_reducible exact H2_) | (have H2_ := (Option.bind_some _ _).symm.trans H; with_reducible exact H2_) | with_reducible exact H | (rw [hy191]; exact H) | exact H
  have Ny191 := ak_ hy191
  clear hy191
  obtain ⟨y194, hy194⟩ : ∃ y_ : List ByteArray, y_ = (([] : List ByteArray)) := ⟨_, rfl⟩
  replace H : (if y194.length + l0_1.length < 8796093022208 then ((some (([] : List (S41)) : List (S41))).bind fun y200 => (if y200.length + l0_2.length < 3518437208883 then (some (y191, (y194 ++ l0_1), (y200 ++ l0_2))) else (none))) else (none)) = some (r1, r2, r3) := by first | (rw [hy194]; with_reducible exact H) | (have H2_ := (Option.bind_some _ _).symm.trans H; rw [hy194]; with_reducible exact H2_) | (have H2_ := (Option.bind_some _ _).symm.trans H; with_reducible exact H2_) | with_reducible exact H | (rw [hy194]; exact H) | exact H
  have Ny194 := ak_ hy194
  clear hy194
  by_cases c3 : y194.length + l0_1.length < 8796093022208
  ·rw [if_pos c3] at H
   have LMc3 := ak_ c3
   clear c3
   obtain ⟨y197, hy197⟩ : ∃ y_ : List ByteArray, y_ = (y194 ++ l0_1) := ⟨_, rfl⟩
   replace H : ((some (([] : List (S41)) : List (S41))).bind fun y200 => (if y200.length + l0_2.length < 3518437208883 then (some (y191, y197, (y200 ++ l0_2))) else (none))) = some (r1, r2, r3) := by first | (rw [hy197]; with_reducible exact H) | (have H2_ := (Option.bind_some _ _).symm.trans H; rw [hy197]; with_reducible exact H2_) | (have H2_ := (Option.bind_some _ _).symm.trans H; with_reducible exact H2_) | with_reducible exact H | (rw [hy197]; exact H) | exact H
   have Ny197 := ak_ hy197
   clear hy197
   obtain ⟨y200, hy200⟩ : ∃ y_ : List (S41), y_ = (([] : List (S41))) := ⟨_, rfl⟩
   replace H : (if y200.length + l0_2.length < 3518437208883 then (some (y191, y197, (y200 ++ l0_2))) else (none)) = some (r1, r2, r3) := by first | (rw [hy200]; with_reducible exact H) | (have H2_ := (Option.bind_some _ _).symm.trans H; rw [hy200]; with_reducible exact H2_) | (have H2_ := (Option.bind_some _ _).symm.trans H; with_reducible exact H2_) | with_reducible exact H | (rw [hy200]; exact H) | exact H
   have Ny200 := ak_ hy200
   clear hy200
   by_cases c4 : y200.length + l0_2.length < 3518437208883
   ·rw [if_pos c4] at H
    have LMc4 := ak_ c4
    clear c4
    obtain ⟨y203, hy203⟩ : ∃ y_ : List (S41), y_ = (y200 ++ l0_2) := ⟨_, rfl⟩
    replace H : (some (y191, y197, y203)) = some (r1, r2, r3) := by first | (rw [hy203]; with_reducible exact H) | (have H2_ := (Option.bind_some _ _).symm.trans H; rw [hy203]; with_reducible exact H2_) | (have H2_ := (Option.bind_some _ _).symm.trans H; with_reducible exact H2_) | with_reducible exact H | (rw [hy203]; exact H) | exact H
    have Ny203 := ak_ hy203
    clear hy203
    simp only [Option.some.injEq, Prod.mk.injEq] at H
    obtain ⟨rfl, rfl, rfl⟩ := H
    go_enter Try.func39, Try.ntmps39
    have BK186 := ak_ hb0
    have GE186 := ak_ trivial
    try go_wp2_with (first | ((with_reducible refine gate_dst (N := 2) rfl ?_); refine box_event ?hg (N := 2) ?hd (cs := #[.slice none 0 0, .slice none 0 0, .slice none 0 0]) (t := 31) ?hr ?_; (case hd => rfl); (case hg => rfl); (case hr => first | (go_simp; done) | (go_simp; rfl)); intro gb187 hg w6 hbox hb; have BK187 := ak_ (hbox); have GW187 := ak_ ((by rw [hg]; exact (below_size (hg_ GE186)) : w.heap.size ≤ gb187)); have GE187 := ak_ ((by rw [hg]; exact (below_size (hg_ GE186)) : w.heap.size ≤ gb187)); replace HB := ak_ (below_step (hg_ GE186) hb); have NB186_187 := ak_ ((by rw [hg]; exact Nat.ne_of_lt (blk_lt (g := gb186) (o := .cells #[.slice A0_0 l0_0.length c0_0, .slice A0_1 l0_1.length c0_1, .slice A0_2 l0_2.length c0_2] 31 (0, 0)) (bk_ BK186)) : gb186 ≠ gb187)); have NB187_186 := ak_ ((by rw [hg]; exact Nat.ne_of_gt (blk_lt (g := gb186) (o := .cells #[.slice A0_0 l0_0.length c0_0, .slice A0_1 l0_1.length c0_1, .slice A0_2 l0_2.length c0_2] 31 (0, 0)) (bk_ BK186)) : gb187 ≠ gb186)); replace BK186 := ak_ (blk_below (g := gb186) (o := .cells #[.slice A0_0 l0_0.length c0_0, .slice A0_1 l0_1.length c0_1, .slice A0_2 l0_2.length c0_2] 31 (0, 0)) (bk_ BK186) hb); skip; clear hb hbox hg))
    have n0_ := ak_ (blk_drew BK186.out)
    have n1_ := ak_ (blk_drew BK187.out)
    have n2_ := ak_ (below_drew1 HB.out)
    clear BK186
    clear BK187
    clear HB
    have BK186 := n0_
    have BK187 := n1_
    have HB := n2_
    clear n0_ n1_ n2_
    refine start_ (n := 20) (S := fun w' => w'.cell? ⟨gb186, 0, none⟩ = some (.slice A0_0 l0_0.length c0_0) ∧ w'.cell? ⟨gb186, 1, none⟩ = some (.slice A0_1 l0_1.length c0_1) ∧ w'.cell? ⟨gb186, 2, none⟩ = some (.slice A0_2 l0_2.length c0_2)) (ds := []) #[F_,F_,F_,F_,F_,F_,F_,F_,F_,F_,F_,F_,F_,F_,F_,F_,F_,F_,F_,F_] (by kernel_rfl) rfl rfl ⟨(blk_cell BK186.out 0).trans rfl, (blk_cell BK186.out 1).trans rfl, (blk_cell BK186.out 2).trans rfl⟩ (fun hHeld => ?_); refine with_tabW spec_l19Own.tab1 spec_l19Own.bits1 (fun HT_ HW_ => ?_)
    generalize w6.drew = w7 at BK186 BK187 HB hHeld ⊢
    refine pv (i := 1) (N := some 4) HT_ ?_
    refine pv (i := 2) (N := some 5) HT_ ?_
    refine pv (i := 3) (N := some 6) HT_ ?_
    refine pv (i := 7) (N := some 10) HT_ ?_
    refine pv (i := 8) (N := some 11) HT_ ?_
    refine pv (i := 9) (N := some 12) HT_ ?_
    refine pv (i := 13) (N := some 16) HT_ ?_
    refine pv (i := 14) (N := some 17) HT_ ?_
    refine pv (i := 15) (N := some 18) HT_ ?_
    refine take_ (i := 4) (N := some 7) (v := ?_) (a' := ?_) #[F_,T_,T_,T_,T_,F_,F_,T_,T_,T_,F_,F_,F_,T_,T_,T_,F_,F_,F_,F_] rfl rfl (take_ofW HT_.out HW_.out (by kernel_rfl)) (fun _ _ _ h => h) (Or.inl ⟨by rfl, ?_⟩) hHeld ?_ ?_
    rotate_left
    ·rintro w' ⟨s0, s1, s2⟩
     go_simp
     with_reducible rfl
    rotate_left
    ·simp only [Act.put, sT_, s0_, sS_, i64_w, i32_w]
     rfl
    refine take_ (i := 10) (N := some 13) (v := ?_) (a' := ?_) #[F_,T_,T_,T_,T_,F_,F_,T_,T_,T_,T_,F_,F_,T_,T_,T_,F_,F_,F_,F_] rfl rfl (take_ofW HT_.out HW_.out (by kernel_rfl)) (fun _ _ _ h => h) (Or.inl ⟨by rfl, ?_⟩) hHeld ?_ ?_
    rotate_left
    ·rintro w' ⟨s0, s1, s2⟩
     go_simp
     with_reducible rfl
    rotate_left
    ·simp only [Act.put, sT_, s0_, sS_, i64_w, i32_w]
     rfl
    refine take_ (i := 16) (N := some 19) (v := ?_) (a' := ?_) #[F_,T_,T_,T_,T_,F_,F_,T_,T_,T_,T_,F_,F_,T_,T_,T_,T_,F_,F_,F_] rfl rfl (take_ofW HT_.out HW_.out (by kernel_rfl)) (fun _ _ _ h => h) (Or.inl ⟨by rfl, ?_⟩) hHeld ?_ ?_
    rotate_left
    ·rintro w' ⟨s0, s1, s2⟩
     go_simp
     with_reducible rfl
    rotate_left
    ·simp only [Act.put, sT_, s0_, sS_, i64_w, i32_w]
     rfl
    refine join_ (σ := Value × Value × Value × Value × Value) 3 #[T_,T_,T_,T_,T_,T_,T_,T_,T_,T_,T_,T_,T_,T_,T_,T_,T_,F_,F_,F_] (fun s_ => [(3, s_.1), (8, s_.2.1), (9, s_.2.2.1), (14, s_.2.2.2.1), (15, s_.2.2.2.2)]) (fun s_ w' => (w'.cell? ⟨gb186, 0, none⟩ = some (.slice A0_0 l0_0.length c0_0) ∧ w'.cell? ⟨gb186, 1, none⟩ = some (.slice A0_1 l0_1.length c0_1) ∧ w'.cell? ⟨gb186, 2, none⟩ = some (.slice A0_2 l0_2.length c0_2)) ∧ (Kd.R k91 91 w' w.heap.size (fun _ => True) s_.2.1 y191) ∧ (Kd.R Kd.string 9 w' w.heap.size (fun _ => True) s_.2.2.2.1 y197) ∧ (Kd.R k41 41 w' w.heap.size (fun _ => True) s_.2.2.2.2 y200) ∧ (w'.heap[gb186]? = some (.cells #[.slice A0_0 l0_0.length c0_0, .slice A0_1 l0_1.length c0_1, .slice A0_2 l0_2.length c0_2] 31 (0, 0))) ∧ (w'.heap[gb187]? = some (.cells #[.slice none 0 0, .slice none 0 0, .slice none 0 0] 31 (0, 0))) ∧ (Below w.heap.size w w')) ?_ ?_
    rotate_left
    ·intro hJ0_3_4_7_8
     refine join_ (σ := Value × Value × Value × Value) 4 #[T_,T_,T_,T_,T_,T_,T_,T_,T_,T_,T_,T_,F_,T_,T_,T_,T_,F_,F_,F_] (fun s_ => [(3, s_.1), (8, s_.2.1), (9, s_.2.2.1), (14, s_.2.2.2)]) (fun s_ w' => (w'.cell? ⟨gb186, 0, none⟩ = some (.slice A0_0 l0_0.length c0_0) ∧ w'.cell? ⟨gb186, 1, none⟩ = some (.slice A0_1 l0_1.length c0_1) ∧ w'.cell? ⟨gb186, 2, none⟩ = some (.slice A0_2 l0_2.length c0_2)) ∧ (Kd.R k91 91 w' w.heap.size (fun _ => True) s_.2.1 y191) ∧ (Kd.R Kd.string 9 w' w.heap.size (fun _ => True) s_.2.2.2 y197) ∧ (w'.heap[gb186]? = some (.cells #[.slice A0_0 l0_0.length c0_0, .slice A0_1 l0_1.length c0_1, .slice A0_2 l0_2.length c0_2] 31 (0, 0))) ∧ (w'.heap[gb187]? = some (.cells #[.slice none 0 0, .slice none 0 0, .slice none 0 0] 31 (0, 0))) ∧ (Below w.heap.size w w')) ?_ ?_
     rotate_left
     ·intro hJ0_3_4_7
      refine join_ (σ := Value × Value × Value × Value) 4 #[T_,T_,T_,T_,T_,T_,T_,T_,T_,T_,T_,F_,T_,T_,T_,T_,T_,F_,F_,F_] (fun s_ => [(3, s_.1), (8, s_.2.1), (9, s_.2.2.1), (15, s_.2.2.2)]) (fun s_ w' => (w'.cell? ⟨gb186, 0, none⟩ = some (.slice A0_0 l0_0.length c0_0) ∧ w'.cell? ⟨gb186, 1, none⟩ = some (.slice A0_1 l0_1.length c0_1) ∧ w'.cell? ⟨gb186, 2, none⟩ = some (.slice A0_2 l0_2.length c0_2)) ∧ (Kd.R k91 91 w' w.heap.size (fun _ => True) s_.2.1 y191) ∧ (Kd.R Kd.string 9 w' w.heap.size (fun _ => True) s_.2.2.1 y194) ∧ (Kd.R k41 41 w' w.heap.size (fun _ => True) s_.2.2.2 y200) ∧ (w'.heap[gb186]? = some (.cells #[.slice A0_0 l0_0.length c0_0, .slice A0_1 l0_1.length c0_1, .slice A0_2 l0_2.length c0_2] 31 (0, 0))) ∧ (w'.heap[gb187]? = some (.cells #[.slice none 0 0, .slice none 0 0, .slice none 0 0] 31 (0, 0))) ∧ (Below w.heap.size w w')) ?_ ?_
      rotate_left
      ·intro hJ0_3_4_8
       refine join_ (σ := Value × Value × Value) 5 #[T_,T_,T_,T_,T_,T_,T_,T_,T_,T_,T_,F_,F_,T_,T_,T_,T_,F_,F_,F_] (fun s_ => [(3, s_.1), (8, s_.2.1), (9, s_.2.2)]) (fun s_ w' => (w'.cell? ⟨gb186, 0, none⟩ = some (.slice A0_0 l0_0.length c0_0) ∧ w'.cell? ⟨gb186, 1, none⟩ = some (.slice A0_1 l0_1.length c0_1) ∧ w'.cell? ⟨gb186, 2, none⟩ = some (.slice A0_2 l0_2.length c0_2)) ∧ (Kd.R k91 91 w' w.heap.size (fun _ => True) s_.2.1 y191) ∧ (Kd.R Kd.string 9 w' w.heap.size (fun _ => True) s_.2.2 y194) ∧ (w'.heap[gb186]? = some (.cells #[.slice A0_0 l0_0.length c0_0, .slice A0_1 l0_1.length c0_1, .slice A0_2 l0_2.length c0_2] 31 (0, 0))) ∧ (w'.heap[gb187]? = some (.cells #[.slice none 0 0, .slice none 0 0, .slice none 0 0] 31 (0, 0))) ∧ (Below w.heap.size w w')) ?_ ?_
       rotate_left
       ·intro hJ0_3_4
        refine join_ (σ := Value × Value × Value) 5 #[T_,T_,T_,T_,T_,T_,F_,T_,T_,T_,T_,F_,T_,T_,T_,T_,T_,F_,F_,F_] (fun s_ => [(3, s_.1), (8, s_.2.1), (15, s_.2.2)]) (fun s_ w' => (w'.cell? ⟨gb186, 0, none⟩ = some (.slice A0_0 l0_0.length c0_0) ∧ w'.cell? ⟨gb186, 1, none⟩ = some (.slice A0_1 l0_1.length c0_1) ∧ w'.cell? ⟨gb186, 2, none⟩ = some (.slice A0_2 l0_2.length c0_2)) ∧ (Kd.R k91 91 w' w.heap.size (fun _ => True) s_.2.1 y191) ∧ (Kd.R k41 41 w' w.heap.size (fun _ => True) s_.2.2 y200) ∧ (w'.heap[gb186]? = some (.cells #[.slice A0_0 l0_0.length c0_0, .slice A0_1 l0_1.length c0_1, .slice A0_2 l0_2.length c0_2] 31 (0, 0))) ∧ (w'.heap[gb187]? = some (.cells #[.slice none 0 0, .slice none 0 0, .slice none 0 0] 31 (0, 0))) ∧ (Below w.heap.size w w')) ?_ ?_
        rotate_left
        ·intro hJ0_3_8
         refine join_ (σ := Value × Value × Value) 5 #[T_,T_,T_,T_,T_,F_,T_,T_,T_,T_,T_,F_,T_,T_,T_,T_,T_,F_,F_,F_] (fun s_ => [(3, s_.1), (9, s_.2.1), (15, s_.2.2)]) (fun s_ w' => (w'.cell? ⟨gb186, 0, none⟩ = some (.slice A0_0 l0_0.length c0_0) ∧ w'.cell? ⟨gb186, 1, none⟩ = some (.slice A0_1 l0_1.length c0_1) ∧ w'.cell? ⟨gb186, 2, none⟩ = some (.slice A0_2 l0_2.length c0_2)) ∧ (Kd.R k91 91 w' w.heap.size (fun _ => True) s_.1 y188) ∧ (Kd.R Kd.string 9 w' w.heap.size (fun _ => True) s_.2.1 y194) ∧ (Kd.R k41 41 w' w.heap.size (fun _ => True) s_.2.2 y200) ∧ (w'.heap[gb186]? = some (.cells #[.slice A0_0 l0_0.length c0_0, .slice A0_1 l0_1.length c0_1, .slice A0_2 l0_2.length c0_2] 31 (0, 0))) ∧ (w'.heap[gb187]? = some (.cells #[.slice none 0 0, .slice none 0 0, .slice none 0 0] 31 (0, 0))) ∧ (Below w.heap.size w w')) ?_ ?_
         rotate_left
         ·intro hJ0_4_8
          refine join_ (σ := Value × Value) 6 #[T_,T_,T_,T_,T_,T_,F_,T_,T_,T_,T_,F_,F_,T_,T_,T_,T_,F_,F_,F_] (fun s_ => [(3, s_.1), (8, s_.2)]) (fun s_ w' => (w'.cell? ⟨gb186, 0, none⟩ = some (.slice A0_0 l0_0.length c0_0) ∧ w'.cell? ⟨gb186, 1, none⟩ = some (.slice A0_1 l0_1.length c0_1) ∧ w'.cell? ⟨gb186, 2, none⟩ = some (.slice A0_2 l0_2.length c0_2)) ∧ (Kd.R k91 91 w' w.heap.size (fun _ => True) s_.2 y191) ∧ (w'.heap[gb186]? = some (.cells #[.slice A0_0 l0_0.length c0_0, .slice A0_1 l0_1.length c0_1, .slice A0_2 l0_2.length c0_2] 31 (0, 0))) ∧ (w'.heap[gb187]? = some (.cells #[.slice none 0 0, .slice none 0 0, .slice none 0 0] 31 (0, 0))) ∧ (Below w.heap.size w w')) ?_ ?_
          rotate_left
          ·intro hJ0_3
           refine join_ (σ := Value × Value) 6 #[T_,T_,T_,T_,T_,F_,T_,T_,T_,T_,T_,F_,F_,T_,T_,T_,T_,F_,F_,F_] (fun s_ => [(3, s_.1), (9, s_.2)]) (fun s_ w' => (w'.cell? ⟨gb186, 0, none⟩ = some (.slice A0_0 l0_0.length c0_0) ∧ w'.cell? ⟨gb186, 1, none⟩ = some (.slice A0_1 l0_1.length c0_1) ∧ w'.cell? ⟨gb186, 2, none⟩ = some (.slice A0_2 l0_2.length c0_2)) ∧ (Kd.R k91 91 w' w.heap.size (fun _ => True) s_.1 y188) ∧ (Kd.R Kd.string 9 w' w.heap.size (fun _ => True) s_.2 y194) ∧ (w'.heap[gb186]? = some (.cells #[.slice A0_0 l0_0.length c0_0, .slice A0_1 l0_1.length c0_1, .slice A0_2 l0_2.length c0_2] 31 (0, 0))) ∧ (w'.heap[gb187]? = some (.cells #[.slice none 0 0, .slice none 0 0, .slice none 0 0] 31 (0, 0))) ∧ (Below w.heap.size w w')) ?_ ?_
           rotate_left
           ·intro hJ0_4
            refine join_ (σ := Value × Value) 6 #[T_,T_,T_,T_,T_,F_,F_,T_,T_,T_,T_,F_,T_,T_,T_,T_,T_,F_,F_,F_] (fun s_ => [(3, s_.1), (15, s_.2)]) (fun s_ w' => (w'.cell? ⟨gb186, 0, none⟩ = some (.slice A0_0 l0_0.length c0_0) ∧ w'.cell? ⟨gb186, 1, none⟩ = some (.slice A0_1 l0_1.length c0_1) ∧ w'.cell? ⟨gb186, 2, none⟩ = some (.slice A0_2 l0_2.length c0_2)) ∧ (Kd.R k91 91 w' w.heap.size (fun _ => True) s_.1 y188) ∧ (Kd.R k41 41 w' w.heap.size (fun _ => True) s_.2 y200) ∧ (w'.heap[gb186]? = some (.cells #[.slice A0_0 l0_0.length c0_0, .slice A0_1 l0_1.length c0_1, .slice A0_2 l0_2.length c0_2] 31 (0, 0))) ∧ (w'.heap[gb187]? = some (.cells #[.slice none 0 0, .slice none 0 0, .slice none 0 0] 31 (0, 0))) ∧ (Below w.heap.size w w')) ?_ ?_
            rotate_left
            ·intro hJ0_8
             refine join_ (σ := Value × Value) 6 #[F_,T_,T_,T_,T_,F_,T_,T_,T_,T_,T_,F_,T_,T_,T_,T_,T_,F_,F_,F_] (fun s_ => [(9, s_.1), (15, s_.2)]) (fun s_ w' => (w'.cell? ⟨gb186, 0, none⟩ = some (.slice A0_0 l0_0.length c0_0) ∧ w'.cell? ⟨gb186, 1, none⟩ = some (.slice A0_1 l0_1.length c0_1) ∧ w'.cell? ⟨gb186, 2, none⟩ = some (.slice A0_2 l0_2.length c0_2)) ∧ (Kd.R Kd.string 9 w' w.heap.size (fun _ => True) s_.1 y194) ∧ (Kd.R k41 41 w' w.heap.size (fun _ => True) s_.2 y200) ∧ (w'.heap[gb186]? = some (.cells #[.slice A0_0 l0_0.length c0_0, .slice A0_1 l0_1.length c0_1, .slice A0_2 l0_2.length c0_2] 31 (0, 0))) ∧ (w'.heap[gb187]? = some (.cells #[.slice none 0 0, .slice none 0 0, .slice none 0 0] 31 (0, 0))) ∧ (Below w.heap.size w w')) ?_ ?_
             rotate_left
             ·intro hJ4_8
              refine join_ (σ := Value) 7 #[T_,T_,T_,T_,T_,F_,F_,T_,T_,T_,T_,F_,F_,T_,T_,T_,T_,F_,F_,F_] (fun s_ => [(3, s_)]) (fun s_ w' => (w'.cell? ⟨gb186, 0, none⟩ = some (.slice A0_0 l0_0.length c0_0) ∧ w'.cell? ⟨gb186, 1, none⟩ = some (.slice A0_1 l0_1.length c0_1) ∧ w'.cell? ⟨gb186, 2, none⟩ = some (.slice A0_2 l0_2.length c0_2)) ∧ (Kd.R k91 91 w' w.heap.size (fun _ => True) s_ y188) ∧ (w'.heap[gb186]? = some (.cells #[.slice A0_0 l0_0.length c0_0, .slice A0_1 l0_1.length c0_1, .slice A0_2 l0_2.length c0_2] 31 (0, 0))) ∧ (w'.heap[gb187]? = some (.cells #[.slice none 0 0, .slice none 0 0, .slice none 0 0] 31 (0, 0))) ∧ (Below w.heap.size w w')) ?_ ?_
              rotate_left
              ·intro hJ0
               refine join_ (σ := Value) 7 #[F_,T_,T_,T_,T_,F_,T_,T_,T_,T_,T_,F_,F_,T_,T_,T_,T_,F_,F_,F_] (fun s_ => [(9, s_)]) (fun s_ w' => (w'.cell? ⟨gb186, 0, none⟩ = some (.slice A0_0 l0_0.length c0_0) ∧ w'.cell? ⟨gb186, 1, none⟩ = some (.slice A0_1 l0_1.length c0_1) ∧ w'.cell? ⟨gb186, 2, none⟩ = some (.slice A0_2 l0_2.length c0_2)) ∧ (Kd.R Kd.string 9 w' w.heap.size (fun _ => True) s_ y194) ∧ (w'.heap[gb186]? = some (.cells #[.slice A0_0 l0_0.length c0_0, .slice A0_1 l0_1.length c0_1, .slice A0_2 l0_2.length c0_2] 31 (0, 0))) ∧ (w'.heap[gb187]? = some (.cells #[.slice none 0 0, .slice none 0 0, .slice none 0 0] 31 (0, 0))) ∧ (Below w.heap.size w w')) ?_ ?_
               rotate_left
               ·intro hJ4
                refine join_ (σ := Value) 7 #[F_,T_,T_,T_,T_,F_,F_,T_,T_,T_,T_,F_,T_,T_,T_,T_,T_,F_,F_,F_] (fun s_ => [(15, s_)]) (fun s_ w' => (w'.cell? ⟨gb186, 0, none⟩ = some (.slice A0_0 l0_0.length c0_0) ∧ w'.cell? ⟨gb186, 1, none⟩ = some (.slice A0_1 l0_1.length c0_1) ∧ w'.cell? ⟨gb186, 2, none⟩ = some (.slice A0_2 l0_2.length c0_2)) ∧ (Kd.R k41 41 w' w.heap.size (fun _ => True) s_ y200) ∧ (w'.heap[gb186]? = some (.cells #[.slice A0_0 l0_0.length c0_0, .slice A0_1 l0_1.length c0_1, .slice A0_2 l0_2.length c0_2] 31 (0, 0))) ∧ (w'.heap[gb187]? = some (.cells #[.slice none 0 0, .slice none 0 0, .slice none 0 0] 31 (0, 0))) ∧ (Below w.heap.size w w')) ?_ ?_
                rotate_left
                ·intro hJ8
                 refine three_ (i := 0) (j := 6) (k := 12) (Ni := some 3) (Nj := some 9) (Nk := some 15) #[T_,T_,T_,T_,T_,F_,F_,T_,T_,T_,T_,F_,F_,T_,T_,T_,T_,F_,F_,F_] #[F_,T_,T_,T_,T_,F_,T_,T_,T_,T_,T_,F_,F_,T_,T_,T_,T_,F_,F_,F_] #[F_,T_,T_,T_,T_,F_,F_,T_,T_,T_,T_,F_,T_,T_,T_,T_,T_,F_,F_,F_] rfl rfl rfl rfl rfl rfl (three_of HT_.out (by kernel_rfl)) (by decide) (by decide) (by decide) (fun K hK => ?_) (fun K hK => ?_) (fun K hK => ?_)
                 ·skip
                  refine Kd.R_lit_step k91 _ 91 ?hg (N := 3) ?hd (xs := ([] : List (S91))) (inner := []) (ok := fun _ => True) (okp := fun _ => True) ?hr ?hp (fun _ hk => hk) trivial (Below.refl _ _) (Nat.le_refl _) (by simp) ?_; (case hd => rfl); (case hg => rfl); (case hr => first | (go_simp; done) | (go_simp; rfl)); (case hp => exact (Reps.none _ _))
                  intro v189 w8 ho9 hb hg_ hnew_
                  clear hg_ hnew_
                  (first | rw [← Ny188.out] at ho9 | (simp only [Int.reduceToNat] at ho9; rw [← Ny188.out] at ho9))
                  have n0_ := ak_ (Kd.R_lower ho9 (below_size (hg2_ GE186 GE187)))
                  have n1_ := ak_ (blk_below (g := gb186) (o := .cells #[.slice A0_0 l0_0.length c0_0, .slice A0_1 l0_1.length c0_1, .slice A0_2 l0_2.length c0_2] 31 (0, 0)) (bk_ BK186) hb)
                  have n2_ := ak_ (blk_below (g := gb187) (o := .cells #[.slice none 0 0, .slice none 0 0, .slice none 0 0] 31 (0, 0)) (bk_ BK187) hb)
                  have n3_ := ak_ (below_step (hg2_ GE186 GE187) hb)
                  clear BK186
                  clear BK187
                  clear HB
                  have HO190 := n0_
                  have BK186 := n1_
                  have BK187 := n2_
                  have HB := n3_
                  clear n0_ n1_ n2_ n3_
                  clear hb ho9
                  refine hK.out _ _ ⟨(blk_cell BK186.out 0).trans rfl, (blk_cell BK186.out 1).trans rfl, (blk_cell BK186.out 2).trans rfl⟩ (fun hHeld => ?_)
                  clear hK K
                  refine norm_ (a' := ?_) ?_ ?_
                  rotate_left
                  ·show Act.put _ (some 3) _ = _
                   simp only [Act.put, sT_, s0_, sS_, i64_w, i32_w]
                   rfl
                  exact norm_ (by first | (simp only [putAll, Act.put, List.setIfInBounds_toArray, List.set_cons_zero, List.set_cons_succ]; done) | (simp only [putAll, Act.put, List.setIfInBounds_toArray, List.set_cons_zero, List.set_cons_succ]; rfl)) (hJ0 (v189) _ ⟨hHeld, (kr_ HO190), (bk_ BK186), (bk_ BK187), (hg2_ GE186 GE187)⟩)
                 ·skip
                  refine Kd.R_lit_step Kd.string _ 9 ?hg (N := 9) ?hd (xs := ([] : List ByteArray)) (inner := []) (ok := fun _ => True) (okp := fun _ => True) ?hr ?hp (fun _ hk => hk) trivial (Below.refl _ _) (Nat.le_refl _) (by simp) ?_; (case hd => rfl); (case hg => rfl); (case hr => first | (go_simp; done) | (go_simp; rfl)); (case hp => exact (Reps.none _ _))
                  intro v195 w8 ho9 hb hg_ hnew_
                  clear hg_ hnew_
                  (first | rw [← Ny194.out] at ho9 | (simp only [Int.reduceToNat] at ho9; rw [← Ny194.out] at ho9))
                  have n0_ := ak_ (Kd.R_lower ho9 (below_size (hg2_ GE186 GE187)))
                  have n1_ := ak_ (blk_below (g := gb186) (o := .cells #[.slice A0_0 l0_0.length c0_0, .slice A0_1 l0_1.length c0_1, .slice A0_2 l0_2.length c0_2] 31 (0, 0)) (bk_ BK186) hb)
                  have n2_ := ak_ (blk_below (g := gb187) (o := .cells #[.slice none 0 0, .slice none 0 0, .slice none 0 0] 31 (0, 0)) (bk_ BK187) hb)
                  have n3_ := ak_ (below_step (hg2_ GE186 GE187) hb)
                  clear BK186
                  clear BK187
                  clear HB
                  have HO196 := n0_
                  have BK186 := n1_
                  have BK187 := n2_
                  have HB := n3_
                  clear n0_ n1_ n2_ n3_
                  clear hb ho9
                  refine hK.out _ _ ⟨(blk_cell BK186.out 0).trans rfl, (blk_cell BK186.out 1).trans rfl, (blk_cell BK186.out 2).trans rfl⟩ (fun hHeld => ?_)
                  clear hK K
                  refine norm_ (a' := ?_) ?_ ?_
                  rotate_left
                  ·show Act.put _ (some 9) _ = _
                   simp only [Act.put, sT_, s0_, sS_, i64_w, i32_w]
                   rfl
                  exact norm_ (by first | (simp only [putAll, Act.put, List.setIfInBounds_toArray, List.set_cons_zero, List.set_cons_succ]; done) | (simp only [putAll, Act.put, List.setIfInBounds_toArray, List.set_cons_zero, List.set_cons_succ]; rfl)) (hJ4 (v195) _ ⟨hHeld, (kr_ HO196), (bk_ BK186), (bk_ BK187), (hg2_ GE186 GE187)⟩)
                 ·skip
                  refine Kd.R_lit_step k41 _ 41 ?hg (N := 15) ?hd (xs := ([] : List (S41))) (inner := []) (ok := fun _ => True) (okp := fun _ => True) ?hr ?hp (fun _ hk => hk) trivial (Below.refl _ _) (Nat.le_refl _) (by simp) ?_; (case hd => rfl); (case hg => rfl); (case hr => first | (go_simp; done) | (go_simp; rfl)); (case hp => exact (Reps.none _ _))
                  intro v201 w8 ho9 hb hg_ hnew_
                  clear hg_ hnew_
                  (first | rw [← Ny200.out] at ho9 | (simp only [Int.reduceToNat] at ho9; rw [← Ny200.out] at ho9))
                  have n0_ := ak_ (Kd.R_lower ho9 (below_size (hg2_ GE186 GE187)))
                  have n1_ := ak_ (blk_below (g := gb186) (o := .cells #[.slice A0_0 l0_0.length c0_0, .slice A0_1 l0_1.length c0_1, .slice A0_2 l0_2.length c0_2] 31 (0, 0)) (bk_ BK186) hb)
                  have n2_ := ak_ (blk_below (g := gb187) (o := .cells #[.slice none 0 0, .slice none 0 0, .slice none 0 0] 31 (0, 0)) (bk_ BK187) hb)
                  have n3_ := ak_ (below_step (hg2_ GE186 GE187) hb)
                  clear BK186
                  clear BK187
                  clear HB
                  have HO202 := n0_
                  have BK186 := n1_
                  have BK187 := n2_
                  have HB := n3_
                  clear n0_ n1_ n2_ n3_
                  clear hb ho9
                  refine hK.out _ _ ⟨(blk_cell BK186.out 0).trans rfl, (blk_cell BK186.out 1).trans rfl, (blk_cell BK186.out 2).trans rfl⟩ (fun hHeld => ?_)
                  clear hK K
                  refine norm_ (a' := ?_) ?_ ?_
                  rotate_left
                  ·show Act.put _ (some 15) _ = _
                   simp only [Act.put, sT_, s0_, sS_, i64_w, i32_w]
                   rfl
                  exact norm_ (by first | (simp only [putAll, Act.put, List.setIfInBounds_toArray, List.set_cons_zero, List.set_cons_succ]; done) | (simp only [putAll, Act.put, List.setIfInBounds_toArray, List.set_cons_zero, List.set_cons_succ]; rfl)) (hJ8 (v201) _ ⟨hHeld, (kr_ HO202), (bk_ BK186), (bk_ BK187), (hg2_ GE186 GE187)⟩)
                ·skip
                 rintro v201 w10 ⟨hS_, h0_, h1_, h2_, h3_⟩
                 have n0_ : Aside0 (Kd.R k41 41 w10 w.heap.size (fun _ => True) v201 y200) := ⟨h0_⟩
                 have n1_ : Aside0 (w10.heap[gb186]? = some (.cells #[.slice A0_0 l0_0.length c0_0, .slice A0_1 l0_1.length c0_1, .slice A0_2 l0_2.length c0_2] 31 (0, 0))) := ⟨h1_⟩
                 have n2_ : Aside0 (w10.heap[gb187]? = some (.cells #[.slice none 0 0, .slice none 0 0, .slice none 0 0] 31 (0, 0))) := ⟨h2_⟩
                 have n3_ : Aside0 (Below w.heap.size w w10) := ⟨h3_⟩
                 clear BK186
                 clear BK187
                 clear HB
                 clear h0_ h1_ h2_ h3_
                 have HO202 := n0_
                 have BK186 := n1_
                 have BK187 := n2_
                 have HB := n3_
                 clear n0_ n1_ n2_ n3_
                 have hHeld : w10.cell? ⟨gb186, 0, none⟩ = some (.slice A0_0 l0_0.length c0_0) ∧ w10.cell? ⟨gb186, 1, none⟩ = some (.slice A0_1 l0_1.length c0_1) ∧ w10.cell? ⟨gb186, 2, none⟩ = some (.slice A0_2 l0_2.length c0_2) := hS_
                 refine norm_ (a' := ?_) ?_ ?_
                 rotate_left
                 ·simp only [putAll, Act.put, List.setIfInBounds_toArray, List.set_cons_zero, List.set_cons_succ]
                  rfl
                 refine two_ (i := 0) (j := 6) (Ni := some 3) (Nj := some 9) #[T_,T_,T_,T_,T_,F_,F_,T_,T_,T_,T_,F_,T_,T_,T_,T_,T_,F_,F_,F_] #[F_,T_,T_,T_,T_,F_,T_,T_,T_,T_,T_,F_,T_,T_,T_,T_,T_,F_,F_,F_] rfl rfl rfl rfl (two_of HT_.out (by kernel_rfl)) (by decide) (by decide) (fun K hK => ?_) (fun K hK => ?_)
                 ·skip
                  refine Kd.R_lit_step k91 _ 91 ?hg (N := 3) ?hd (xs := ([] : List (S91))) (inner := []) (ok := fun _ => True) (okp := fun _ => True) ?hr ?hp (fun _ hk => hk) trivial (Below.refl _ _) (Nat.le_refl _) (by simp) ?_; (case hd => rfl); (case hg => rfl); (case hr => first | (go_simp; done) | (go_simp; rfl)); (case hp => exact (Reps.none _ _))
                  intro v189 w11 ho12 hb hg_ hnew_
                  clear hg_ hnew_
                  (first | rw [← Ny188.out] at ho12 | (simp only [Int.reduceToNat] at ho12; rw [← Ny188.out] at ho12))
                  have n0_ := ak_ (Kd.R_below (kr_ HO202) hb)
                  have n1_ := ak_ (Kd.R_lower ho12 (below_size (hg2_ GE186 GE187)))
                  have n2_ := ak_ (blk_below (g := gb186) (o := .cells #[.slice A0_0 l0_0.length c0_0, .slice A0_1 l0_1.length c0_1, .slice A0_2 l0_2.length c0_2] 31 (0, 0)) (bk_ BK186) hb)
                  have n3_ := ak_ (blk_below (g := gb187) (o := .cells #[.slice none 0 0, .slice none 0 0, .slice none 0 0] 31 (0, 0)) (bk_ BK187) hb)
                  have n4_ := ak_ (below_step (hg2_ GE186 GE187) hb)
                  clear HO202
                  clear BK186
                  clear BK187
                  clear HB
                  have HO202 := n0_
                  have HO190 := n1_
                  have BK186 := n2_
                  have BK187 := n3_
                  have HB := n4_
                  clear n0_ n1_ n2_ n3_ n4_
                  clear hb ho12
                  refine hK.out _ _ ⟨(blk_cell BK186.out 0).trans rfl, (blk_cell BK186.out 1).trans rfl, (blk_cell BK186.out 2).trans rfl⟩ (fun hHeld => ?_)
                  clear hK K
                  refine norm_ (a' := ?_) ?_ ?_
                  rotate_left
                  ·show Act.put _ (some 3) _ = _
                   simp only [Act.put, sT_, s0_, sS_, i64_w, i32_w]
                   rfl
                  exact norm_ (by first | (simp only [putAll, Act.put, List.setIfInBounds_toArray, List.set_cons_zero, List.set_cons_succ]; done) | (simp only [putAll, Act.put, List.setIfInBounds_toArray, List.set_cons_zero, List.set_cons_succ]; rfl)) (hJ0_8 (v189, v201) _ ⟨hHeld, (kr_ HO190), (kr_ HO202), (bk_ BK186), (bk_ BK187), (hg2_ GE186 GE187)⟩)
                 ·skip
                  refine Kd.R_lit_step Kd.string _ 9 ?hg (N := 9) ?hd (xs := ([] : List ByteArray)) (inner := []) (ok := fun _ => True) (okp := fun _ => True) ?hr ?hp (fun _ hk => hk) trivial (Below.refl _ _) (Nat.le_refl _) (by simp) ?_; (case hd => rfl); (case hg => rfl); (case hr => first | (go_simp; done) | (go_simp; rfl)); (case hp => exact (Reps.none _ _))
                  intro v195 w11 ho12 hb hg_ hnew_
                  clear hg_ hnew_
                  (first | rw [← Ny194.out] at ho12 | (simp only [Int.reduceToNat] at ho12; rw [← Ny194.out] at ho12))
                  have n0_ := ak_ (Kd.R_below (kr_ HO202) hb)
                  have n1_ := ak_ (Kd.R_lower ho12 (below_size (hg2_ GE186 GE187)))
                  have n2_ := ak_ (blk_below (g := gb186) (o := .cells #[.slice A0_0 l0_0.length c0_0, .slice A0_1 l0_1.length c0_1, .slice A0_2 l0_2.length c0_2] 31 (0, 0)) (bk_ BK186) hb)
                  have n3_ := ak_ (blk_below (g := gb187) (o := .cells #[.slice none 0 0, .slice none 0 0, .slice none 0 0] 31 (0, 0)) (bk_ BK187) hb)
                  have n4_ := ak_ (below_step (hg2_ GE186 GE187) hb)
                  clear HO202
                  clear BK186
                  clear BK187
                  clear HB
                  have HO202 := n0_
                  have HO196 := n1_
                  have BK186 := n2_
                  have BK187 := n3_
                  have HB := n4_
                  clear n0_ n1_ n2_ n3_ n4_
                  clear hb ho12
                  refine hK.out _ _ ⟨(blk_cell BK186.out 0).trans rfl, (blk_cell BK186.out 1).trans rfl, (blk_cell BK186.out 2).trans rfl⟩ (fun hHeld => ?_)
                  clear hK K
                  refine norm_ (a' := ?_) ?_ ?_
                  rotate_left
                  ·show Act.put _ (some 9) _ = _
                   simp only [Act.put, sT_, s0_, sS_, i64_w, i32_w]
                   rfl
                  exact norm_ (by first | (simp only [putAll, Act.put, List.setIfInBounds_toArray, List.set_cons_zero, List.set_cons_succ]; done) | (simp only [putAll, Act.put, List.setIfInBounds_toArray, List.set_cons_zero, List.set_cons_succ]; rfl)) (hJ4_8 (v195, v201) _ ⟨hHeld, (kr_ HO196), (kr_ HO202), (bk_ BK186), (bk_ BK187), (hg2_ GE186 GE187)⟩)
               ·skip
                rintro v195 w10 ⟨hS_, h0_, h1_, h2_, h3_⟩
                have n0_ : Aside0 (Kd.R Kd.string 9 w10 w.heap.size (fun _ => True) v195 y194) := ⟨h0_⟩
                have n1_ : Aside0 (w10.heap[gb186]? = some (.cells #[.slice A0_0 l0_0.length c0_0, .slice A0_1 l0_1.length c0_1, .slice A0_2 l0_2.length c0_2] 31 (0, 0))) := ⟨h1_⟩
                have n2_ : Aside0 (w10.heap[gb187]? = some (.cells #[.slice none 0 0, .slice none 0 0, .slice none 0 0] 31 (0, 0))) := ⟨h2_⟩
                have n3_ : Aside0 (Below w.heap.size w w10) := ⟨h3_⟩
                clear BK186
                clear BK187
                clear HB
                clear h0_ h1_ h2_ h3_
                have HO196 := n0_
                have BK186 := n1_
                have BK187 := n2_
                have HB := n3_
                clear n0_ n1_ n2_ n3_
                have hHeld : w10.cell? ⟨gb186, 0, none⟩ = some (.slice A0_0 l0_0.length c0_0) ∧ w10.cell? ⟨gb186, 1, none⟩ = some (.slice A0_1 l0_1.length c0_1) ∧ w10.cell? ⟨gb186, 2, none⟩ = some (.slice A0_2 l0_2.length c0_2) := hS_
                refine norm_ (a' := ?_) ?_ ?_
                rotate_left
                ·simp only [putAll, Act.put, List.setIfInBounds_toArray, List.set_cons_zero, List.set_cons_succ]
                 rfl
                refine two_ (i := 0) (j := 12) (Ni := some 3) (Nj := some 15) #[T_,T_,T_,T_,T_,F_,T_,T_,T_,T_,T_,F_,F_,T_,T_,T_,T_,F_,F_,F_] #[F_,T_,T_,T_,T_,F_,T_,T_,T_,T_,T_,F_,T_,T_,T_,T_,T_,F_,F_,F_] rfl rfl rfl rfl (two_of HT_.out (by kernel_rfl)) (by decide) (by decide) (fun K hK => ?_) (fun K hK => ?_)
                ·skip
                 refine Kd.R_lit_step k91 _ 91 ?hg (N := 3) ?hd (xs := ([] : List (S91))) (inner := []) (ok := fun _ => True) (okp := fun _ => True) ?hr ?hp (fun _ hk => hk) trivial (Below.refl _ _) (Nat.le_refl _) (by simp) ?_; (case hd => rfl); (case hg => rfl); (case hr => first | (go_simp; done) | (go_simp; rfl)); (case hp => exact (Reps.none _ _))
                 intro v189 w11 ho12 hb hg_ hnew_
                 clear hg_ hnew_
                 (first | rw [← Ny188.out] at ho12 | (simp only [Int.reduceToNat] at ho12; rw [← Ny188.out] at ho12))
                 have n0_ := ak_ (Kd.R_below (kr_ HO196) hb)
                 have n1_ := ak_ (Kd.R_lower ho12 (below_size (hg2_ GE186 GE187)))
                 have n2_ := ak_ (blk_below (g := gb186) (o := .cells #[.slice A0_0 l0_0.length c0_0, .slice A0_1 l0_1.length c0_1, .slice A0_2 l0_2.length c0_2] 31 (0, 0)) (bk_ BK186) hb)
                 have n3_ := ak_ (blk_below (g := gb187) (o := .cells #[.slice none 0 0, .slice none 0 0, .slice none 0 0] 31 (0, 0)) (bk_ BK187) hb)
                 have n4_ := ak_ (below_step (hg2_ GE186 GE187) hb)
                 clear HO196
                 clear BK186
                 clear BK187
                 clear HB
                 have HO196 := n0_
                 have HO190 := n1_
                 have BK186 := n2_
                 have BK187 := n3_
                 have HB := n4_
                 clear n0_ n1_ n2_ n3_ n4_
                 clear hb ho12
                 refine hK.out _ _ ⟨(blk_cell BK186.out 0).trans rfl, (blk_cell BK186.out 1).trans rfl, (blk_cell BK186.out 2).trans rfl⟩ (fun hHeld => ?_)
                 clear hK K
                 refine norm_ (a' := ?_) ?_ ?_
                 rotate_left
                 ·show Act.put _ (some 3) _ = _
                  simp only [Act.put, sT_, s0_, sS_, i64_w, i32_w]
                  rfl
                 exact norm_ (by first | (simp only [putAll, Act.put, List.setIfInBounds_toArray, List.set_cons_zero, List.set_cons_succ]; done) | (simp only [putAll, Act.put, List.setIfInBounds_toArray, List.set_cons_zero, List.set_cons_succ]; rfl)) (hJ0_4 (v189, v195) _ ⟨hHeld, (kr_ HO190), (kr_ HO196), (bk_ BK186), (bk_ BK187), (hg2_ GE186 GE187)⟩)
                ·skip
                 refine Kd.R_lit_step k41 _ 41 ?hg (N := 15) ?hd (xs := ([] : List (S41))) (inner := []) (ok := fun _ => True) (okp := fun _ => True) ?hr ?hp (fun _ hk => hk) trivial (Below.refl _ _) (Nat.le_refl _) (by simp) ?_; (case hd => rfl); (case hg => rfl); (case hr => first | (go_simp; done) | (go_simp; rfl)); (case hp => exact (Reps.none _ _))
                 intro v201 w11 ho12 hb hg_ hnew_
                 clear hg_ hnew_
                 (first | rw [← Ny200.out] at ho12 | (simp only [Int.reduceToNat] at ho12; rw [← Ny200.out] at ho12))
                 have n0_ := ak_ (Kd.R_below (kr_ HO196) hb)
                 have n1_ := ak_ (Kd.R_lower ho12 (below_size (hg2_ GE186 GE187)))
                 have n2_ := ak_ (blk_below (g := gb186) (o := .cells #[.slice A0_0 l0_0.length c0_0, .slice A0_1 l0_1.length c0_1, .slice A0_2 l0_2.length c0_2] 31 (0, 0)) (bk_ BK186) hb)
                 have n3_ := ak_ (blk_below (g := gb187) (o := .cells #[.slice none 0 0, .slice none 0 0, .slice none 0 0] 31 (0, 0)) (bk_ BK187) hb)
                 have n4_ := ak_ (below_step (hg2_ GE186 GE187) hb)
                 clear HO196
                 clear BK186
                 clear BK187
                 clear HB
                 have HO196 := n0_
                 have HO202 := n1_
                 have BK186 := n2_
                 have BK187 := n3_
                 have HB := n4_
                 clear n0_ n1_ n2_ n3_ n4_
                 clear hb ho12
                 refine hK.out _ _ ⟨(blk_cell BK186.out 0).trans rfl, (blk_cell BK186.out 1).trans rfl, (blk_cell BK186.out 2).trans rfl⟩ (fun hHeld => ?_)
                 clear hK K
                 refine norm_ (a' := ?_) ?_ ?_
                 rotate_left
                 ·show Act.put _ (some 15) _ = _
                  simp only [Act.put, sT_, s0_, sS_, i64_w, i32_w]
                  rfl
                 exact norm_ (by first | (simp only [putAll, Act.put, List.setIfInBounds_toArray, List.set_cons_zero, List.set_cons_succ]; done) | (simp only [putAll, Act.put, List.setIfInBounds_toArray, List.set_cons_zero, List.set_cons_succ]; rfl)) (hJ4_8 (v195, v201) _ ⟨hHeld, (kr_ HO196), (kr_ HO202), (bk_ BK186), (bk_ BK187), (hg2_ GE186 GE187)⟩)
              ·skip
               rintro v189 w10 ⟨hS_, h0_, h1_, h2_, h3_⟩
               have n0_ : Aside0 (Kd.R k91 91 w10 w.heap.size (fun _ => True) v189 y188) := ⟨h0_⟩
               have n1_ : Aside0 (w10.heap[gb186]? = some (.cells #[.slice A0_0 l0_0.length c0_0, .slice A0_1 l0_1.length c0_1, .slice A0_2 l0_2.length c0_2] 31 (0, 0))) := ⟨h1_⟩
               have n2_ : Aside0 (w10.heap[gb187]? = some (.cells #[.slice none 0 0, .slice none 0 0, .slice none 0 0] 31 (0, 0))) := ⟨h2_⟩
               have n3_ : Aside0 (Below w.heap.size w w10) := ⟨h3_⟩
               clear BK186
               clear BK187
               clear HB
               clear h0_ h1_ h2_ h3_
               have HO190 := n0_
               have BK186 := n1_
               have BK187 := n2_
               have HB := n3_
               clear n0_ n1_ n2_ n3_
               have hHeld : w10.cell? ⟨gb186, 0, none⟩ = some (.slice A0_0 l0_0.length c0_0) ∧ w10.cell? ⟨gb186, 1, none⟩ = some (.slice A0_1 l0_1.length c0_1) ∧ w10.cell? ⟨gb186, 2, none⟩ = some (.slice A0_2 l0_2.length c0_2) := hS_
               refine norm_ (a' := ?_) ?_ ?_
               rotate_left
               ·simp only [putAll, Act.put, List.setIfInBounds_toArray, List.set_cons_zero, List.set_cons_succ]
                rfl
               refine three_ (i := 5) (j := 6) (k := 12) (Ni := some 8) (Nj := some 9) (Nk := some 15) #[T_,T_,T_,T_,T_,T_,F_,T_,T_,T_,T_,F_,F_,T_,T_,T_,T_,F_,F_,F_] #[T_,T_,T_,T_,T_,F_,T_,T_,T_,T_,T_,F_,F_,T_,T_,T_,T_,F_,F_,F_] #[T_,T_,T_,T_,T_,F_,F_,T_,T_,T_,T_,F_,T_,T_,T_,T_,T_,F_,F_,F_] rfl rfl rfl rfl rfl rfl (three_of HT_.out (by kernel_rfl)) (by decide) (by decide) (by decide) (fun K hK => ?_) (fun K hK => ?_) (fun K hK => ?_)
               ·skip
                refine Kd.R_append_rows_step k91 (w0 := w) w.heap.size (by rfl) (.tmp 3) (.tmp 7) 28 91 (.agg #[(.string ⟨#[]⟩), (.string ⟨#[]⟩), (.int .i64 0)]) 40 rfl Try.underlying28 info91 rfl (by decide) (by omega) v189 y188 l0_0 _ _ _ (fun _ => True) (fun _ => False) rfl rfl ?aO ?aR (fun _ _ h => h) (fun _ h => h.elim) ?aF ?aB ?aS ?aL ?_
                (case aR => exact kc_ (Kd.C_below HR0_0.out HB.out))
                (case aB => exact (hg2_ GE186 GE187))
                (case aF => exact (fun _ _ => trivial))
                (case aO => exact (kr_ HO190))
                (case aS => exact (below_size (hg2_ GE186 GE187)))
                (case aL => have := LMc2.out; omega)
                intro v192 w11 ho hb hg hat
                rw [← Ny191.out] at ho
                have n0_ := ak_ (blk_grown (g := gb186) (o := .cells #[.slice A0_0 l0_0.length c0_0, .slice A0_1 l0_1.length c0_1, .slice A0_2 l0_2.length c0_2] 31 (0, 0)) (bk_ BK186) hg (Kd.R_ne HO190.out BK186.out (by decide)))
                have n1_ := ak_ (blk_grown (g := gb187) (o := .cells #[.slice none 0 0, .slice none 0 0, .slice none 0 0] 31 (0, 0)) (bk_ BK187) hg (Kd.R_ne HO190.out BK187.out (by decide)))
                have n2_ := ak_ (hb)
                have n3_ := ak_ (ho)
                clear BK186
                clear BK187
                clear HB
                clear HO190
                have BK186 := n0_
                have BK187 := n1_
                have HB := n2_
                have HO193 := n3_
                clear n0_ n1_ n2_ n3_
                clear ho hb hg hat
                refine hK.out _ _ ⟨(blk_cell BK186.out 0).trans rfl, (blk_cell BK186.out 1).trans rfl, (blk_cell BK186.out 2).trans rfl⟩ (fun hHeld => ?_)
                clear hK K
                refine norm_ (a' := ?_) ?_ ?_
                rotate_left
                ·show Act.put _ (some 8) _ = _
                 simp only [Act.put, sT_, s0_, sS_, i64_w, i32_w]
                 rfl
                exact norm_ (by first | (simp only [putAll, Act.put, List.setIfInBounds_toArray, List.set_cons_zero, List.set_cons_succ]; done) | (simp only [putAll, Act.put, List.setIfInBounds_toArray, List.set_cons_zero, List.set_cons_succ]; rfl)) (hJ0_3 (v189, v192) _ ⟨hHeld, (kr_ HO193), (bk_ BK186), (bk_ BK187), (hg2_ GE186 GE187)⟩)
               ·skip
                refine Kd.R_lit_step Kd.string _ 9 ?hg (N := 9) ?hd (xs := ([] : List ByteArray)) (inner := []) (ok := fun _ => True) (okp := fun _ => True) ?hr ?hp (fun _ hk => hk) trivial (Below.refl _ _) (Nat.le_refl _) (by simp) ?_; (case hd => rfl); (case hg => rfl); (case hr => first | (go_simp; done) | (go_simp; rfl)); (case hp => exact (Reps.none _ _))
                intro v195 w11 ho12 hb hg_ hnew_
                clear hg_ hnew_
                (first | rw [← Ny194.out] at ho12 | (simp only [Int.reduceToNat] at ho12; rw [← Ny194.out] at ho12))
                have n0_ := ak_ (Kd.R_below (kr_ HO190) hb)
                have n1_ := ak_ (Kd.R_lower ho12 (below_size (hg2_ GE186 GE187)))
                have n2_ := ak_ (blk_below (g := gb186) (o := .cells #[.slice A0_0 l0_0.length c0_0, .slice A0_1 l0_1.length c0_1, .slice A0_2 l0_2.length c0_2] 31 (0, 0)) (bk_ BK186) hb)
                have n3_ := ak_ (blk_below (g := gb187) (o := .cells #[.slice none 0 0, .slice none 0 0, .slice none 0 0] 31 (0, 0)) (bk_ BK187) hb)
                have n4_ := ak_ (below_step (hg2_ GE186 GE187) hb)
                clear HO190
                clear BK186
                clear BK187
                clear HB
                have HO190 := n0_
                have HO196 := n1_
                have BK186 := n2_
                have BK187 := n3_
                have HB := n4_
                clear n0_ n1_ n2_ n3_ n4_
                clear hb ho12
                refine hK.out _ _ ⟨(blk_cell BK186.out 0).trans rfl, (blk_cell BK186.out 1).trans rfl, (blk_cell BK186.out 2).trans rfl⟩ (fun hHeld => ?_)
                clear hK K
                refine norm_ (a' := ?_) ?_ ?_
                rotate_left
                ·show Act.put _ (some 9) _ = _
                 simp only [Act.put, sT_, s0_, sS_, i64_w, i32_w]
                 rfl
                exact norm_ (by first | (simp only [putAll, Act.put, List.setIfInBounds_toArray, List.set_cons_zero, List.set_cons_succ]; done) | (simp only [putAll, Act.put, List.setIfInBounds_toArray, List.set_cons_zero, List.set_cons_succ]; rfl)) (hJ0_4 (v189, v195) _ ⟨hHeld, (kr_ HO190), (kr_ HO196), (bk_ BK186), (bk_ BK187), (hg2_ GE186 GE187)⟩)
               ·skip
                refine Kd.R_lit_step k41 _ 41 ?hg (N := 15) ?hd (xs := ([] : List (S41))) (inner := []) (ok := fun _ => True) (okp := fun _ => True) ?hr ?hp (fun _ hk => hk) trivial (Below.refl _ _) (Nat.le_refl _) (by simp) ?_; (case hd => rfl); (case hg => rfl); (case hr => first | (go_simp; done) | (go_simp; rfl)); (case hp => exact (Reps.none _ _))
                intro v201 w11 ho12 hb hg_ hnew_
                clear hg_ hnew_
                (first | rw [← Ny200.out] at ho12 | (simp only [Int.reduceToNat] at ho12; rw [← Ny200.out] at ho12))
                have n0_ := ak_ (Kd.R_below (kr_ HO190) hb)
                have n1_ := ak_ (Kd.R_lower ho12 (below_size (hg2_ GE186 GE187)))
                have n2_ := ak_ (blk_below (g := gb186) (o := .cells #[.slice A0_0 l0_0.length c0_0, .slice A0_1 l0_1.length c0_1, .slice A0_2 l0_2.length c0_2] 31 (0, 0)) (bk_ BK186) hb)
                have n3_ := ak_ (blk_below (g := gb187) (o := .cells #[.slice none 0 0, .slice none 0 0, .slice none 0 0] 31 (0, 0)) (bk_ BK187) hb)
                have n4_ := ak_ (below_step (hg2_ GE186 GE187) hb)
                clear HO190
                clear BK186
                clear BK187
                clear HB
                have HO190 := n0_
                have HO202 := n1_
                have BK186 := n2_
                have BK187 := n3_
                have HB := n4_
                clear n0_ n1_ n2_ n3_ n4_
                clear hb ho12
                refine hK.out _ _ ⟨(blk_cell BK186.out 0).trans rfl, (blk_cell BK186.out 1).trans rfl, (blk_cell BK186.out 2).trans rfl⟩ (fun hHeld => ?_)
                clear hK K
                refine norm_ (a' := ?_) ?_ ?_
                rotate_left
                ·show Act.put _ (some 15) _ = _
                 simp only [Act.put, sT_, s0_, sS_, i64_w, i32_w]
                 rfl
                exact norm_ (by first | (simp only [putAll, Act.put, List.setIfInBounds_toArray, List.set_cons_zero, List.set_cons_succ]; done) | (simp only [putAll, Act.put, List.setIfInBounds_toArray, List.set_cons_zero, List.set_cons_succ]; rfl)) (hJ0_8 (v189, v201) _ ⟨hHeld, (kr_ HO190), (kr_ HO202), (bk_ BK186), (bk_ BK187), (hg2_ GE186 GE187)⟩)
             ·skip
              rintro ⟨v195, v201⟩ w12 ⟨hS_, h0_, h1_, h2_, h3_, h4_⟩
              have n0_ : Aside0 (Kd.R Kd.string 9 w12 w.heap.size (fun _ => True) v195 y194) := ⟨h0_⟩
              have n1_ : Aside0 (Kd.R k41 41 w12 w.heap.size (fun _ => True) v201 y200) := ⟨h1_⟩
              have n2_ : Aside0 (w12.heap[gb186]? = some (.cells #[.slice A0_0 l0_0.length c0_0, .slice A0_1 l0_1.length c0_1, .slice A0_2 l0_2.length c0_2] 31 (0, 0))) := ⟨h2_⟩
              have n3_ : Aside0 (w12.heap[gb187]? = some (.cells #[.slice none 0 0, .slice none 0 0, .slice none 0 0] 31 (0, 0))) := ⟨h3_⟩
              have n4_ : Aside0 (Below w.heap.size w w12) := ⟨h4_⟩
              clear BK186
              clear BK187
              clear HB
              clear h0_ h1_ h2_ h3_ h4_
              have HO196 := n0_
              have HO202 := n1_
              have BK186 := n2_
              have BK187 := n3_
              have HB := n4_
              clear n0_ n1_ n2_ n3_ n4_
              have hHeld : w12.cell? ⟨gb186, 0, none⟩ = some (.slice A0_0 l0_0.length c0_0) ∧ w12.cell? ⟨gb186, 1, none⟩ = some (.slice A0_1 l0_1.length c0_1) ∧ w12.cell? ⟨gb186, 2, none⟩ = some (.slice A0_2 l0_2.length c0_2) := hS_
              refine norm_ (a' := ?_) ?_ ?_
              rotate_left
              ·simp only [putAll, Act.put, List.setIfInBounds_toArray, List.set_cons_zero, List.set_cons_succ]
               rfl
              refine one_ (i := 0) (N := some 3) #[T_,T_,T_,T_,T_,F_,T_,T_,T_,T_,T_,F_,T_,T_,T_,T_,T_,F_,F_,F_] rfl rfl (one_of HT_.out (by kernel_rfl)) (by decide) (fun K hK => ?_)
              refine Kd.R_lit_step k91 _ 91 ?hg (N := 3) ?hd (xs := ([] : List (S91))) (inner := []) (ok := fun _ => True) (okp := fun _ => True) ?hr ?hp (fun _ hk => hk) trivial (Below.refl _ _) (Nat.le_refl _) (by simp) ?_; (case hd => rfl); (case hg => rfl); (case hr => first | (go_simp; done) | (go_simp; rfl)); (case hp => exact (Reps.none _ _))
              intro v189 w13 ho14 hb hg_ hnew_
              clear hg_ hnew_
              (first | rw [← Ny188.out] at ho14 | (simp only [Int.reduceToNat] at ho14; rw [← Ny188.out] at ho14))
              have n0_ := ak_ (Kd.R_below (kr_ HO196) hb)
              have n1_ := ak_ (Kd.R_below (kr_ HO202) hb)
              have n2_ := ak_ (Kd.R_lower ho14 (below_size (hg2_ GE186 GE187)))
              have n3_ := ak_ (blk_below (g := gb186) (o := .cells #[.slice A0_0 l0_0.length c0_0, .slice A0_1 l0_1.length c0_1, .slice A0_2 l0_2.length c0_2] 31 (0, 0)) (bk_ BK186) hb)
              have n4_ := ak_ (blk_below (g := gb187) (o := .cells #[.slice none 0 0, .slice none 0 0, .slice none 0 0] 31 (0, 0)) (bk_ BK187) hb)
              have n5_ := ak_ (below_step (hg2_ GE186 GE187) hb)
              clear HO196
              clear HO202
              clear BK186
              clear BK187
              clear HB
              have HO196 := n0_
              have HO202 := n1_
              have HO190 := n2_
              have BK186 := n3_
              have BK187 := n4_
              have HB := n5_
              clear n0_ n1_ n2_ n3_ n4_ n5_
              clear hb ho14
              refine hK.out _ _ ⟨(blk_cell BK186.out 0).trans rfl, (blk_cell BK186.out 1).trans rfl, (blk_cell BK186.out 2).trans rfl⟩ (fun hHeld => ?_)
              clear hK K
              refine norm_ (a' := ?_) ?_ ?_
              rotate_left
              ·show Act.put _ (some 3) _ = _
               simp only [Act.put, sT_, s0_, sS_, i64_w, i32_w]
               rfl
              exact norm_ (by first | (simp only [putAll, Act.put, List.setIfInBounds_toArray, List.set_cons_zero, List.set_cons_succ]; done) | (simp only [putAll, Act.put, List.setIfInBounds_toArray, List.set_cons_zero, List.set_cons_succ]; rfl)) (hJ0_4_8 (v189, v195, v201) _ ⟨hHeld, (kr_ HO190), (kr_ HO196), (kr_ HO202), (bk_ BK186), (bk_ BK187), (hg2_ GE186 GE187)⟩)
            ·skip
             rintro ⟨v189, v201⟩ w12 ⟨hS_, h0_, h1_, h2_, h3_, h4_⟩
             have n0_ : Aside0 (Kd.R k91 91 w12 w.heap.size (fun _ => True) v189 y188) := ⟨h0_⟩
             have n1_ : Aside0 (Kd.R k41 41 w12 w.heap.size (fun _ => True) v201 y200) := ⟨h1_⟩
             have n2_ : Aside0 (w12.heap[gb186]? = some (.cells #[.slice A0_0 l0_0.length c0_0, .slice A0_1 l0_1.length c0_1, .slice A0_2 l0_2.length c0_2] 31 (0, 0))) := ⟨h2_⟩
             have n3_ : Aside0 (w12.heap[gb187]? = some (.cells #[.slice none 0 0, .slice none 0 0, .slice none 0 0] 31 (0, 0))) := ⟨h3_⟩
             have n4_ : Aside0 (Below w.heap.size w w12) := ⟨h4_⟩
             clear BK186
             clear BK187
             clear HB
             clear h0_ h1_ h2_ h3_ h4_
             have HO190 := n0_
             have HO202 := n1_
             have BK186 := n2_
             have BK187 := n3_
             have HB := n4_
             clear n0_ n1_ n2_ n3_ n4_
             have hHeld : w12.cell? ⟨gb186, 0, none⟩ = some (.slice A0_0 l0_0.length c0_0) ∧ w12.cell? ⟨gb186, 1, none⟩ = some (.slice A0_1 l0_1.length c0_1) ∧ w12.cell? ⟨gb186, 2, none⟩ = some (.slice A0_2 l0_2.length c0_2) := hS_
             refine norm_ (a' := ?_) ?_ ?_
             rotate_left
             ·simp only [putAll, Act.put, List.setIfInBounds_toArray, List.set_cons_zero, List.set_cons_succ]
              rfl
             refine two_ (i := 5) (j := 6) (Ni := some 8) (Nj := some 9) #[T_,T_,T_,T_,T_,T_,F_,T_,T_,T_,T_,F_,T_,T_,T_,T_,T_,F_,F_,F_] #[T_,T_,T_,T_,T_,F_,T_,T_,T_,T_,T_,F_,T_,T_,T_,T_,T_,F_,F_,F_] rfl rfl rfl rfl (two_of HT_.out (by kernel_rfl)) (by decide) (by decide) (fun K hK => ?_) (fun K hK => ?_)
             ·skip
              refine Kd.R_append_rows_step k91 (w0 := w) w.heap.size (by rfl) (.tmp 3) (.tmp 7) 28 91 (.agg #[(.string ⟨#[]⟩), (.string ⟨#[]⟩), (.int .i64 0)]) 40 rfl Try.underlying28 info91 rfl (by decide) (by omega) v189 y188 l0_0 _ _ _ (fun _ => True) (fun _ => False) rfl rfl ?aO ?aR (fun _ _ h => h) (fun _ h => h.elim) ?aF ?aB ?aS ?aL ?_
              (case aR => exact kc_ (Kd.C_below HR0_0.out HB.out))
              (case aB => exact (hg2_ GE186 GE187))
              (case aF => exact (fun _ _ => trivial))
              (case aO => exact (kr_ HO190))
              (case aS => exact (below_size (hg2_ GE186 GE187)))
              (case aL => have := LMc2.out; omega)
              intro v192 w13 ho hb hg hat
              rw [← Ny191.out] at ho
              have n0_ := ak_ (blk_grown (g := gb186) (o := .cells #[.slice A0_0 l0_0.length c0_0, .slice A0_1 l0_1.length c0_1, .slice A0_2 l0_2.length c0_2] 31 (0, 0)) (bk_ BK186) hg (Kd.R_ne HO190.out BK186.out (by decide)))
              have n1_ := ak_ (blk_grown (g := gb187) (o := .cells #[.slice none 0 0, .slice none 0 0, .slice none 0 0] 31 (0, 0)) (bk_ BK187) hg (Kd.R_ne HO190.out BK187.out (by decide)))
              have n2_ := ak_ (Kd.R_over' (kr_ HO202) (Kd.R_typed (kr_ HO190)) (by decide) hg)
              have n3_ := ak_ (hb)
              have n4_ := ak_ (ho)
              clear BK186
              clear BK187
              clear HO202
              clear HB
              clear HO190
              have BK186 := n0_
              have BK187 := n1_
              have HO202 := n2_
              have HB := n3_
              have HO193 := n4_
              clear n0_ n1_ n2_ n3_ n4_
              clear ho hb hg hat
              refine hK.out _ _ ⟨(blk_cell BK186.out 0).trans rfl, (blk_cell BK186.out 1).trans rfl, (blk_cell BK186.out 2).trans rfl⟩ (fun hHeld => ?_)
              clear hK K
              refine norm_ (a' := ?_) ?_ ?_
              rotate_left
              ·show Act.put _ (some 8) _ = _
               simp only [Act.put, sT_, s0_, sS_, i64_w, i32_w]
               rfl
              exact norm_ (by first | (simp only [putAll, Act.put, List.setIfInBounds_toArray, List.set_cons_zero, List.set_cons_succ]; done) | (simp only [putAll, Act.put, List.setIfInBounds_toArray, List.set_cons_zero, List.set_cons_succ]; rfl)) (hJ0_3_8 (v189, v192, v201) _ ⟨hHeld, (kr_ HO193), (kr_ HO202), (bk_ BK186), (bk_ BK187), (hg2_ GE186 GE187)⟩)
             ·skip
              refine Kd.R_lit_step Kd.string _ 9 ?hg (N := 9) ?hd (xs := ([] : List ByteArray)) (inner := []) (ok := fun _ => True) (okp := fun _ => True) ?hr ?hp (fun _ hk => hk) trivial (Below.refl _ _) (Nat.le_refl _) (by simp) ?_; (case hd => rfl); (case hg => rfl); (case hr => first | (go_simp; done) | (go_simp; rfl)); (case hp => exact (Reps.none _ _))
              intro v195 w13 ho14 hb hg_ hnew_
              clear hg_ hnew_
              (first | rw [← Ny194.out] at ho14 | (simp only [Int.reduceToNat] at ho14; rw [← Ny194.out] at ho14))
              have n0_ := ak_ (Kd.R_below (kr_ HO190) hb)
              have n1_ := ak_ (Kd.R_below (kr_ HO202) hb)
              have n2_ := ak_ (Kd.R_lower ho14 (below_size (hg2_ GE186 GE187)))
              have n3_ := ak_ (blk_below (g := gb186) (o := .cells #[.slice A0_0 l0_0.length c0_0, .slice A0_1 l0_1.length c0_1, .slice A0_2 l0_2.length c0_2] 31 (0, 0)) (bk_ BK186) hb)
              have n4_ := ak_ (blk_below (g := gb187) (o := .cells #[.slice none 0 0, .slice none 0 0, .slice none 0 0] 31 (0, 0)) (bk_ BK187) hb)
              have n5_ := ak_ (below_step (hg2_ GE186 GE187) hb)
              clear HO190
              clear HO202
              clear BK186
              clear BK187
              clear HB
              have HO190 := n0_
              have HO202 := n1_
              have HO196 := n2_
              have BK186 := n3_
              have BK187 := n4_
              have HB := n5_
              clear n0_ n1_ n2_ n3_ n4_ n5_
              clear hb ho14
              refine hK.out _ _ ⟨(blk_cell BK186.out 0).trans rfl, (blk_cell BK186.out 1).trans rfl, (blk_cell BK186.out 2).trans rfl⟩ (fun hHeld => ?_)
              clear hK K
              refine norm_ (a' := ?_) ?_ ?_
              rotate_left
              ·show Act.put _ (some 9) _ = _
               simp only [Act.put, sT_, s0_, sS_, i64_w, i32_w]
               rfl
              exact norm_ (by first | (simp only [putAll, Act.put, List.setIfInBounds_toArray, List.set_cons_zero, List.set_cons_succ]; done) | (simp only [putAll, Act.put, List.setIfInBounds_toArray, List.set_cons_zero, List.set_cons_succ]; rfl)) (hJ0_4_8 (v189, v195, v201) _ ⟨hHeld, (kr_ HO190), (kr_ HO196), (kr_ HO202), (bk_ BK186), (bk_ BK187), (hg2_ GE186 GE187)⟩)
           ·skip
            rintro ⟨v189, v195⟩ w12 ⟨hS_, h0_, h1_, h2_, h3_, h4_⟩
            have n0_ : Aside0 (Kd.R k91 91 w12 w.heap.size (fun _ => True) v189 y188) := ⟨h0_⟩
            have n1_ : Aside0 (Kd.R Kd.string 9 w12 w.heap.size (fun _ => True) v195 y194) := ⟨h1_⟩
            have n2_ : Aside0 (w12.heap[gb186]? = some (.cells #[.slice A0_0 l0_0.length c0_0, .slice A0_1 l0_1.length c0_1, .slice A0_2 l0_2.length c0_2] 31 (0, 0))) := ⟨h2_⟩
            have n3_ : Aside0 (w12.heap[gb187]? = some (.cells #[.slice none 0 0, .slice none 0 0, .slice none 0 0] 31 (0, 0))) := ⟨h3_⟩
            have n4_ : Aside0 (Below w.heap.size w w12) := ⟨h4_⟩
            clear BK186
            clear BK187
            clear HB
            clear h0_ h1_ h2_ h3_ h4_
            have HO190 := n0_
            have HO196 := n1_
            have BK186 := n2_
            have BK187 := n3_
            have HB := n4_
            clear n0_ n1_ n2_ n3_ n4_
            have hHeld : w12.cell? ⟨gb186, 0, none⟩ = some (.slice A0_0 l0_0.length c0_0) ∧ w12.cell? ⟨gb186, 1, none⟩ = some (.slice A0_1 l0_1.length c0_1) ∧ w12.cell? ⟨gb186, 2, none⟩ = some (.slice A0_2 l0_2.length c0_2) := hS_
            refine norm_ (a' := ?_) ?_ ?_
            rotate_left
            ·simp only [putAll, Act.put, List.setIfInBounds_toArray, List.set_cons_zero, List.set_cons_succ]
             rfl
            refine two_ (i := 5) (j := 12) (Ni := some 8) (Nj := some 15) #[T_,T_,T_,T_,T_,T_,T_,T_,T_,T_,T_,F_,F_,T_,T_,T_,T_,F_,F_,F_] #[T_,T_,T_,T_,T_,F_,T_,T_,T_,T_,T_,F_,T_,T_,T_,T_,T_,F_,F_,F_] rfl rfl rfl rfl (two_of HT_.out (by kernel_rfl)) (by decide) (by decide) (fun K hK => ?_) (fun K hK => ?_)
            ·skip
             refine Kd.R_append_rows_step k91 (w0 := w) w.heap.size (by rfl) (.tmp 3) (.tmp 7) 28 91 (.agg #[(.string ⟨#[]⟩), (.string ⟨#[]⟩), (.int .i64 0)]) 40 rfl Try.underlying28 info91 rfl (by decide) (by omega) v189 y188 l0_0 _ _ _ (fun _ => True) (fun _ => False) rfl rfl ?aO ?aR (fun _ _ h => h) (fun _ h => h.elim) ?aF ?aB ?aS ?aL ?_
             (case aR => exact kc_ (Kd.C_below HR0_0.out HB.out))
             (case aB => exact (hg2_ GE186 GE187))
             (case aF => exact (fun _ _ => trivial))
             (case aO => exact (kr_ HO190))
             (case aS => exact (below_size (hg2_ GE186 GE187)))
             (case aL => have := LMc2.out; omega)
             intro v192 w13 ho hb hg hat
             rw [← Ny191.out] at ho
             have n0_ := ak_ (blk_grown (g := gb186) (o := .cells #[.slice A0_0 l0_0.length c0_0, .slice A0_1 l0_1.length c0_1, .slice A0_2 l0_2.length c0_2] 31 (0, 0)) (bk_ BK186) hg (Kd.R_ne HO190.out BK186.out (by decide)))
             have n1_ := ak_ (blk_grown (g := gb187) (o := .cells #[.slice none 0 0, .slice none 0 0, .slice none 0 0] 31 (0, 0)) (bk_ BK187) hg (Kd.R_ne HO190.out BK187.out (by decide)))
             have n2_ := ak_ (Kd.R_over' (kr_ HO196) (Kd.R_typed (kr_ HO190)) (by decide) hg)
             have n3_ := ak_ (hb)
             have n4_ := ak_ (ho)
             clear BK186
             clear BK187
             clear HO196
             clear HB
             clear HO190
             have BK186 := n0_
             have BK187 := n1_
             have HO196 := n2_
             have HB := n3_
             have HO193 := n4_
             clear n0_ n1_ n2_ n3_ n4_
             clear ho hb hg hat
             refine hK.out _ _ ⟨(blk_cell BK186.out 0).trans rfl, (blk_cell BK186.out 1).trans rfl, (blk_cell BK186.out 2).trans rfl⟩ (fun hHeld => ?_)
             clear hK K
             refine norm_ (a' := ?_) ?_ ?_
             rotate_left
             ·show Act.put _ (some 8) _ = _
              simp only [Act.put, sT_, s0_, sS_, i64_w, i32_w]
              rfl
             exact norm_ (by first | (simp only [putAll, Act.put, List.setIfInBounds_toArray, List.set_cons_zero, List.set_cons_succ]; done) | (simp only [putAll, Act.put, List.setIfInBounds_toArray, List.set_cons_zero, List.set_cons_succ]; rfl)) (hJ0_3_4 (v189, v192, v195) _ ⟨hHeld, (kr_ HO193), (kr_ HO196), (bk_ BK186), (bk_ BK187), (hg2_ GE186 GE187)⟩)
            ·skip
             refine Kd.R_lit_step k41 _ 41 ?hg (N := 15) ?hd (xs := ([] : List (S41))) (inner := []) (ok := fun _ => True) (okp := fun _ => True) ?hr ?hp (fun _ hk => hk) trivial (Below.refl _ _) (Nat.le_refl _) (by simp) ?_; (case hd => rfl); (case hg => rfl); (case hr => first | (go_simp; done) | (go_simp; rfl)); (case hp => exact (Reps.none _ _))
             intro v201 w13 ho14 hb hg_ hnew_
             clear hg_ hnew_
             (first | rw [← Ny200.out] at ho14 | (simp only [Int.reduceToNat] at ho14; rw [← Ny200.out] at ho14))
             have n0_ := ak_ (Kd.R_below (kr_ HO190) hb)
             have n1_ := ak_ (Kd.R_below (kr_ HO196) hb)
             have n2_ := ak_ (Kd.R_lower ho14 (below_size (hg2_ GE186 GE187)))
             have n3_ := ak_ (blk_below (g := gb186) (o := .cells #[.slice A0_0 l0_0.length c0_0, .slice A0_1 l0_1.length c0_1, .slice A0_2 l0_2.length c0_2] 31 (0, 0)) (bk_ BK186) hb)
             have n4_ := ak_ (blk_below (g := gb187) (o := .cells #[.slice none 0 0, .slice none 0 0, .slice none 0 0] 31 (0, 0)) (bk_ BK187) hb)
             have n5_ := ak_ (below_step (hg2_ GE186 GE187) hb)
             clear HO190
             clear HO196
             clear BK186
             clear BK187
             clear HB
             have HO190 := n0_
             have HO196 := n1_
             have HO202 := n2_
             have BK186 := n3_
             have BK187 := n4_
             have HB := n5_
             clear n0_ n1_ n2_ n3_ n4_ n5_
             clear hb ho14
             refine hK.out _ _ ⟨(blk_cell BK186.out 0).trans rfl, (blk_cell BK186.out 1).trans rfl, (blk_cell BK186.out 2).trans rfl⟩ (fun hHeld => ?_)
             clear hK K
             refine norm_ (a' := ?_) ?_ ?_
             rotate_left
             ·show Act.put _ (some 15) _ = _
              simp only [Act.put, sT_, s0_, sS_, i64_w, i32_w]
              rfl
             exact norm_ (by first | (simp only [putAll, Act.put, List.setIfInBounds_toArray, List.set_cons_zero, List.set_cons_succ]; done) | (simp only [putAll, Act.put, List.setIfInBounds_toArray, List.set_cons_zero, List.set_cons_succ]; rfl)) (hJ0_4_8 (v189, v195, v201) _ ⟨hHeld, (kr_ HO190), (kr_ HO196), (kr_ HO202), (bk_ BK186), (bk_ BK187), (hg2_ GE186 GE187)⟩)
          ·skip
           rintro ⟨v189, v192⟩ w11 ⟨hS_, h0_, h1_, h2_, h3_⟩
           have n0_ : Aside0 (Kd.R k91 91 w11 w.heap.size (fun _ => True) v192 y191) := ⟨h0_⟩
           have n1_ : Aside0 (w11.heap[gb186]? = some (.cells #[.slice A0_0 l0_0.length c0_0, .slice A0_1 l0_1.length c0_1, .slice A0_2 l0_2.length c0_2] 31 (0, 0))) := ⟨h1_⟩
           have n2_ : Aside0 (w11.heap[gb187]? = some (.cells #[.slice none 0 0, .slice none 0 0, .slice none 0 0] 31 (0, 0))) := ⟨h2_⟩
           have n3_ : Aside0 (Below w.heap.size w w11) := ⟨h3_⟩
           clear BK186
           clear BK187
           clear HB
           clear h0_ h1_ h2_ h3_
           have HO193 := n0_
           have BK186 := n1_
           have BK187 := n2_
           have HB := n3_
           clear n0_ n1_ n2_ n3_
           have hHeld : w11.cell? ⟨gb186, 0, none⟩ = some (.slice A0_0 l0_0.length c0_0) ∧ w11.cell? ⟨gb186, 1, none⟩ = some (.slice A0_1 l0_1.length c0_1) ∧ w11.cell? ⟨gb186, 2, none⟩ = some (.slice A0_2 l0_2.length c0_2) := hS_
           refine norm_ (a' := ?_) ?_ ?_
           rotate_left
           ·simp only [putAll, Act.put, List.setIfInBounds_toArray, List.set_cons_zero, List.set_cons_succ]
            rfl
           refine two_ (i := 6) (j := 12) (Ni := some 9) (Nj := some 15) #[T_,T_,T_,T_,T_,T_,T_,T_,T_,T_,T_,F_,F_,T_,T_,T_,T_,F_,F_,F_] #[T_,T_,T_,T_,T_,T_,F_,T_,T_,T_,T_,F_,T_,T_,T_,T_,T_,F_,F_,F_] rfl rfl rfl rfl (two_of HT_.out (by kernel_rfl)) (by decide) (by decide) (fun K hK => ?_) (fun K hK => ?_)
           ·skip
            refine Kd.R_lit_step Kd.string _ 9 ?hg (N := 9) ?hd (xs := ([] : List ByteArray)) (inner := []) (ok := fun _ => True) (okp := fun _ => True) ?hr ?hp (fun _ hk => hk) trivial (Below.refl _ _) (Nat.le_refl _) (by simp) ?_; (case hd => rfl); (case hg => rfl); (case hr => first | (go_simp; done) | (go_simp; rfl)); (case hp => exact (Reps.none _ _))
            intro v195 w12 ho13 hb hg_ hnew_
            clear hg_ hnew_
            (first | rw [← Ny194.out] at ho13 | (simp only [Int.reduceToNat] at ho13; rw [← Ny194.out] at ho13))
            have n0_ := ak_ (Kd.R_below (kr_ HO193) hb)
            have n1_ := ak_ (Kd.R_lower ho13 (below_size (hg2_ GE186 GE187)))
            have n2_ := ak_ (blk_below (g := gb186) (o := .cells #[.slice A0_0 l0_0.length c0_0, .slice A0_1 l0_1.length c0_1, .slice A0_2 l0_2.length c0_2] 31 (0, 0)) (bk_ BK186) hb)
            have n3_ := ak_ (blk_below (g := gb187) (o := .cells #[.slice none 0 0, .slice none 0 0, .slice none 0 0] 31 (0, 0)) (bk_ BK187) hb)
            have n4_ := ak_ (below_step (hg2_ GE186 GE187) hb)
            clear HO193
            clear BK186
            clear BK187
            clear HB
            have HO193 := n0_
            have HO196 := n1_
            have BK186 := n2_
            have BK187 := n3_
            have HB := n4_
            clear n0_ n1_ n2_ n3_ n4_
            clear hb ho13
            refine hK.out _ _ ⟨(blk_cell BK186.out 0).trans rfl, (blk_cell BK186.out 1).trans rfl, (blk_cell BK186.out 2).trans rfl⟩ (fun hHeld => ?_)
            clear hK K
            refine norm_ (a' := ?_) ?_ ?_
            rotate_left
            ·show Act.put _ (some 9) _ = _
             simp only [Act.put, sT_, s0_, sS_, i64_w, i32_w]
             rfl
            exact norm_ (by first | (simp only [putAll, Act.put, List.setIfInBounds_toArray, List.set_cons_zero, List.set_cons_succ]; done) | (simp only [putAll, Act.put, List.setIfInBounds_toArray, List.set_cons_zero, List.set_cons_succ]; rfl)) (hJ0_3_4 (v189, v192, v195) _ ⟨hHeld, (kr_ HO193), (kr_ HO196), (bk_ BK186), (bk_ BK187), (hg2_ GE186 GE187)⟩)
           ·skip
            refine Kd.R_lit_step k41 _ 41 ?hg (N := 15) ?hd (xs := ([] : List (S41))) (inner := []) (ok := fun _ => True) (okp := fun _ => True) ?hr ?hp (fun _ hk => hk) trivial (Below.refl _ _) (Nat.le_refl _) (by simp) ?_; (case hd => rfl); (case hg => rfl); (case hr => first | (go_simp; done) | (go_simp; rfl)); (case hp => exact (Reps.none _ _))
            intro v201 w12 ho13 hb hg_ hnew_
            clear hg_ hnew_
            (first | rw [← Ny200.out] at ho13 | (simp only [Int.reduceToNat] at ho13; rw [← Ny200.out] at ho13))
            have n0_ := ak_ (Kd.R_below (kr_ HO193) hb)
            have n1_ := ak_ (Kd.R_lower ho13 (below_size (hg2_ GE186 GE187)))
            have n2_ := ak_ (blk_below (g := gb186) (o := .cells #[.slice A0_0 l0_0.length c0_0, .slice A0_1 l0_1.length c0_1, .slice A0_2 l0_2.length c0_2] 31 (0, 0)) (bk_ BK186) hb)
            have n3_ := ak_ (blk_below (g := gb187) (o := .cells #[.slice none 0 0, .slice none 0 0, .slice none 0 0] 31 (0, 0)) (bk_ BK187) hb)
            have n4_ := ak_ (below_step (hg2_ GE186 GE187) hb)
            clear HO193
            clear BK186
            clear BK187
            clear HB
            have HO193 := n0_
            have HO202 := n1_
            have BK186 := n2_
            have BK187 := n3_
            have HB := n4_
            clear n0_ n1_ n2_ n3_ n4_
            clear hb ho13
            refine hK.out _ _ ⟨(blk_cell BK186.out 0).trans rfl, (blk_cell BK186.out 1).trans rfl, (blk_cell BK186.out 2).trans rfl⟩ (fun hHeld => ?_)
            clear hK K
            refine norm_ (a' := ?_) ?_ ?_
            rotate_left
            ·show Act.put _ (some 15) _ = _
             simp only [Act.put, sT_, s0_, sS_, i64_w, i32_w]
             rfl
            exact norm_ (by first | (simp only [putAll, Act.put, List.setIfInBounds_toArray, List.set_cons_zero, List.set_cons_succ]; done) | (simp only [putAll, Act.put, List.setIfInBounds_toArray, List.set_cons_zero, List.set_cons_succ]; rfl)) (hJ0_3_8 (v189, v192, v201) _ ⟨hHeld, (kr_ HO193), (kr_ HO202), (bk_ BK186), (bk_ BK187), (hg2_ GE186 GE187)⟩)
         ·skip
          rintro ⟨v189, v195, v201⟩ w14 ⟨hS_, h0_, h1_, h2_, h3_, h4_, h5_⟩
          have n0_ : Aside0 (Kd.R k91 91 w14 w.heap.size (fun _ => True) v189 y188) := ⟨h0_⟩
          have n1_ : Aside0 (Kd.R Kd.string 9 w14 w.heap.size (fun _ => True) v195 y194) := ⟨h1_⟩
          have n2_ : Aside0 (Kd.R k41 41 w14 w.heap.size (fun _ => True) v201 y200) := ⟨h2_⟩
          have n3_ : Aside0 (w14.heap[gb186]? = some (.cells #[.slice A0_0 l0_0.length c0_0, .slice A0_1 l0_1.length c0_1, .slice A0_2 l0_2.length c0_2] 31 (0, 0))) := ⟨h3_⟩
          have n4_ : Aside0 (w14.heap[gb187]? = some (.cells #[.slice none 0 0, .slice none 0 0, .slice none 0 0] 31 (0, 0))) := ⟨h4_⟩
          have n5_ : Aside0 (Below w.heap.size w w14) := ⟨h5_⟩
          clear BK186
          clear BK187
          clear HB
          clear h0_ h1_ h2_ h3_ h4_ h5_
          have HO190 := n0_
          have HO196 := n1_
          have HO202 := n2_
          have BK186 := n3_
          have BK187 := n4_
          have HB := n5_
          clear n0_ n1_ n2_ n3_ n4_ n5_
          have hHeld : w14.cell? ⟨gb186, 0, none⟩ = some (.slice A0_0 l0_0.length c0_0) ∧ w14.cell? ⟨gb186, 1, none⟩ = some (.slice A0_1 l0_1.length c0_1) ∧ w14.cell? ⟨gb186, 2, none⟩ = some (.slice A0_2 l0_2.length c0_2) := hS_
          refine norm_ (a' := ?_) ?_ ?_
          rotate_left
          ·simp only [putAll, Act.put, List.setIfInBounds_toArray, List.set_cons_zero, List.set_cons_succ]
           rfl
          refine one_ (i := 5) (N := some 8) #[T_,T_,T_,T_,T_,T_,T_,T_,T_,T_,T_,F_,T_,T_,T_,T_,T_,F_,F_,F_] rfl rfl (one_of HT_.out (by kernel_rfl)) (by decide) (fun K hK => ?_)
          refine Kd.R_append_rows_step k91 (w0 := w) w.heap.size (by rfl) (.tmp 3) (.tmp 7) 28 91 (.agg #[(.string ⟨#[]⟩), (.string ⟨#[]⟩), (.int .i64 0)]) 40 rfl Try.underlying28 info91 rfl (by decide) (by omega) v189 y188 l0_0 _ _ _ (fun _ => True) (fun _ => False) rfl rfl ?aO ?aR (fun _ _ h => h) (fun _ h => h.elim) ?aF ?aB ?aS ?aL ?_
          (case aR => exact kc_ (Kd.C_below HR0_0.out HB.out))
          (case aB => exact (hg2_ GE186 GE187))
          (case aF => exact (fun _ _ => trivial))
          (case aO => exact (kr_ HO190))
          (case aS => exact (below_size (hg2_ GE186 GE187)))
          (case aL => have := LMc2.out; omega)
          intro v192 w15 ho hb hg hat
          rw [← Ny191.out] at ho
          have n0_ := ak_ (blk_grown (g := gb186) (o := .cells #[.slice A0_0 l0_0.length c0_0, .slice A0_1 l0_1.length c0_1, .slice A0_2 l0_2.length c0_2] 31 (0, 0)) (bk_ BK186) hg (Kd.R_ne HO190.out BK186.out (by decide)))
          have n1_ := ak_ (blk_grown (g := gb187) (o := .cells #[.slice none 0 0, .slice none 0 0, .slice none 0 0] 31 (0, 0)) (bk_ BK187) hg (Kd.R_ne HO190.out BK187.out (by decide)))
          have n2_ := ak_ (Kd.R_over' (kr_ HO196) (Kd.R_typed (kr_ HO190)) (by decide) hg)
          have n3_ := ak_ (Kd.R_over' (kr_ HO202) (Kd.R_typed (kr_ HO190)) (by decide) hg)
          have n4_ := ak_ (hb)
          have n5_ := ak_ (ho)
          clear BK186
          clear BK187
          clear HO196
          clear HO202
          clear HB
          clear HO190
          have BK186 := n0_
          have BK187 := n1_
          have HO196 := n2_
          have HO202 := n3_
          have HB := n4_
          have HO193 := n5_
          clear n0_ n1_ n2_ n3_ n4_ n5_
          clear ho hb hg hat
          refine hK.out _ _ ⟨(blk_cell BK186.out 0).trans rfl, (blk_cell BK186.out 1).trans rfl, (blk_cell BK186.out 2).trans rfl⟩ (fun hHeld => ?_)
          clear hK K
          refine norm_ (a' := ?_) ?_ ?_
          rotate_left
          ·show Act.put _ (some 8) _ = _
           simp only [Act.put, sT_, s0_, sS_, i64_w, i32_w]
           rfl
          exact norm_ (by first | (simp only [putAll, Act.put, List.setIfInBounds_toArray, List.set_cons_zero, List.set_cons_succ]; done) | (simp only [putAll, Act.put, List.setIfInBounds_toArray, List.set_cons_zero, List.set_cons_succ]; rfl)) (hJ0_3_4_8 (v189, v192, v195, v201) _ ⟨hHeld, (kr_ HO193), (kr_ HO196), (kr_ HO202), (bk_ BK186), (bk_ BK187), (hg2_ GE186 GE187)⟩)
        ·skip
         rintro ⟨v189, v192, v201⟩ w13 ⟨hS_, h0_, h1_, h2_, h3_, h4_⟩
         have n0_ : Aside0 (Kd.R k91 91 w13 w.heap.size (fun _ => True) v192 y191) := ⟨h0_⟩
         have n1_ : Aside0 (Kd.R k41 41 w13 w.heap.size (fun _ => True) v201 y200) := ⟨h1_⟩
         have n2_ : Aside0 (w13.heap[gb186]? = some (.cells #[.slice A0_0 l0_0.length c0_0, .slice A0_1 l0_1.length c0_1, .slice A0_2 l0_2.length c0_2] 31 (0, 0))) := ⟨h2_⟩
         have n3_ : Aside0 (w13.heap[gb187]? = some (.cells #[.slice none 0 0, .slice none 0 0, .slice none 0 0] 31 (0, 0))) := ⟨h3_⟩
         have n4_ : Aside0 (Below w.heap.size w w13) := ⟨h4_⟩
         clear BK186
         clear BK187
         clear HB
         clear h0_ h1_ h2_ h3_ h4_
         have HO193 := n0_
         have HO202 := n1_
         have BK186 := n2_
         have BK187 := n3_
         have HB := n4_
         clear n0_ n1_ n2_ n3_ n4_
         have hHeld : w13.cell? ⟨gb186, 0, none⟩ = some (.slice A0_0 l0_0.length c0_0) ∧ w13.cell? ⟨gb186, 1, none⟩ = some (.slice A0_1 l0_1.length c0_1) ∧ w13.cell? ⟨gb186, 2, none⟩ = some (.slice A0_2 l0_2.length c0_2) := hS_
         refine norm_ (a' := ?_) ?_ ?_
         rotate_left
         ·simp only [putAll, Act.put, List.setIfInBounds_toArray, List.set_cons_zero, List.set_cons_succ]
          rfl
         refine one_ (i := 6) (N := some 9) #[T_,T_,T_,T_,T_,T_,T_,T_,T_,T_,T_,F_,T_,T_,T_,T_,T_,F_,F_,F_] rfl rfl (one_of HT_.out (by kernel_rfl)) (by decide) (fun K hK => ?_)
         refine Kd.R_lit_step Kd.string _ 9 ?hg (N := 9) ?hd (xs := ([] : List ByteArray)) (inner := []) (ok := fun _ => True) (okp := fun _ => True) ?hr ?hp (fun _ hk => hk) trivial (Below.refl _ _) (Nat.le_refl _) (by simp) ?_; (case hd => rfl); (case hg => rfl); (case hr => first | (go_simp; done) | (go_simp; rfl)); (case hp => exact (Reps.none _ _))
         intro v195 w14 ho15 hb hg_ hnew_
         clear hg_ hnew_
         (first | rw [← Ny194.out] at ho15 | (simp only [Int.reduceToNat] at ho15; rw [← Ny194.out] at ho15))
         have n0_ := ak_ (Kd.R_below (kr_ HO193) hb)
         have n1_ := ak_ (Kd.R_below (kr_ HO202) hb)
         have n2_ := ak_ (Kd.R_lower ho15 (below_size (hg2_ GE186 GE187)))
         have n3_ := ak_ (blk_below (g := gb186) (o := .cells #[.slice A0_0 l0_0.length c0_0, .slice A0_1 l0_1.length c0_1, .slice A0_2 l0_2.length c0_2] 31 (0, 0)) (bk_ BK186) hb)
         have n4_ := ak_ (blk_below (g := gb187) (o := .cells #[.slice none 0 0, .slice none 0 0, .slice none 0 0] 31 (0, 0)) (bk_ BK187) hb)
         have n5_ := ak_ (below_step (hg2_ GE186 GE187) hb)
         clear HO193
         clear HO202
         clear BK186
         clear BK187
         clear HB
         have HO193 := n0_
         have HO202 := n1_
         have HO196 := n2_
         have BK186 := n3_
         have BK187 := n4_
         have HB := n5_
         clear n0_ n1_ n2_ n3_ n4_ n5_
         clear hb ho15
         refine hK.out _ _ ⟨(blk_cell BK186.out 0).trans rfl, (blk_cell BK186.out 1).trans rfl, (blk_cell BK186.out 2).trans rfl⟩ (fun hHeld => ?_)
         clear hK K
         refine norm_ (a' := ?_) ?_ ?_
         rotate_left
         ·show Act.put _ (some 9) _ = _
          simp only [Act.put, sT_, s0_, sS_, i64_w, i32_w]
          rfl
         exact norm_ (by first | (simp only [putAll, Act.put, List.setIfInBounds_toArray, List.set_cons_zero, List.set_cons_succ]; done) | (simp only [putAll, Act.put, List.setIfInBounds_toArray, List.set_cons_zero, List.set_cons_succ]; rfl)) (hJ0_3_4_8 (v189, v192, v195, v201) _ ⟨hHeld, (kr_ HO193), (kr_ HO196), (kr_ HO202), (bk_ BK186), (bk_ BK187), (hg2_ GE186 GE187)⟩)
       ·skip
        rintro ⟨v189, v192, v195⟩ w13 ⟨hS_, h0_, h1_, h2_, h3_, h4_⟩
        have n0_ : Aside0 (Kd.R k91 91 w13 w.heap.size (fun _ => True) v192 y191) := ⟨h0_⟩
        have n1_ : Aside0 (Kd.R Kd.string 9 w13 w.heap.size (fun _ => True) v195 y194) := ⟨h1_⟩
        have n2_ : Aside0 (w13.heap[gb186]? = some (.cells #[.slice A0_0 l0_0.length c0_0, .slice A0_1 l0_1.length c0_1, .slice A0_2 l0_2.length c0_2] 31 (0, 0))) := ⟨h2_⟩
        have n3_ : Aside0 (w13.heap[gb187]? = some (.cells #[.slice none 0 0, .slice none 0 0, .slice none 0 0] 31 (0, 0))) := ⟨h3_⟩
        have n4_ : Aside0 (Below w.heap.size w w13) := ⟨h4_⟩
        clear BK186
        clear BK187
        clear HB
        clear h0_ h1_ h2_ h3_ h4_
        have HO193 := n0_
        have HO196 := n1_
        have BK186 := n2_
        have BK187 := n3_
        have HB := n4_
        clear n0_ n1_ n2_ n3_ n4_
        have hHeld : w13.cell? ⟨gb186, 0, none⟩ = some (.slice A0_0 l0_0.length c0_0) ∧ w13.cell? ⟨gb186, 1, none⟩ = some (.slice A0_1 l0_1.length c0_1) ∧ w13.cell? ⟨gb186, 2, none⟩ = some (.slice A0_2 l0_2.length c0_2) := hS_
        refine norm_ (a' := ?_) ?_ ?_
        rotate_left
        ·simp only [putAll, Act.put, List.setIfInBounds_toArray, List.set_cons_zero, List.set_cons_succ]
         rfl
        refine two_ (i := 11) (j := 12) (Ni := some 14) (Nj := some 15) #[T_,T_,T_,T_,T_,T_,T_,T_,T_,T_,T_,T_,F_,T_,T_,T_,T_,F_,F_,F_] #[T_,T_,T_,T_,T_,T_,T_,T_,T_,T_,T_,F_,T_,T_,T_,T_,T_,F_,F_,F_] rfl rfl rfl rfl (two_of HT_.out (by kernel_rfl)) (by decide) (by decide) (fun K hK => ?_) (fun K hK => ?_)
        ·skip
         refine Kd.R_append_rows_step Kd.string (w0 := w) w.heap.size (by rfl) (.tmp 9) (.tmp 13) 23 9 (.string ⟨#[]⟩) 16 rfl Try.underlying23 info9 rfl (by decide) (by omega) v195 y194 l0_1 _ _ _ (fun _ => True) (fun _ => False) rfl rfl ?aO ?aR (fun _ _ h => h) (fun _ h => h.elim) ?aF ?aB ?aS ?aL ?_
         (case aR => exact kc_ (Kd.C_below HR0_1.out HB.out))
         (case aB => exact (hg2_ GE186 GE187))
         (case aF => exact (fun _ _ => trivial))
         (case aO => exact (kr_ HO196))
         (case aS => exact (below_size (hg2_ GE186 GE187)))
         (case aL => have := LMc3.out; omega)
         intro v198 w14 ho hb hg hat
         rw [← Ny197.out] at ho
         have n0_ := ak_ (blk_grown (g := gb186) (o := .cells #[.slice A0_0 l0_0.length c0_0, .slice A0_1 l0_1.length c0_1, .slice A0_2 l0_2.length c0_2] 31 (0, 0)) (bk_ BK186) hg (Kd.R_ne HO196.out BK186.out (by decide)))
         have n1_ := ak_ (blk_grown (g := gb187) (o := .cells #[.slice none 0 0, .slice none 0 0, .slice none 0 0] 31 (0, 0)) (bk_ BK187) hg (Kd.R_ne HO196.out BK187.out (by decide)))
         have n2_ := ak_ (Kd.R_over' (kr_ HO193) (Kd.R_typed (kr_ HO196)) (by decide) hg)
         have n3_ := ak_ (hb)
         have n4_ := ak_ (ho)
         clear BK186
         clear BK187
         clear HO193
         clear HB
         clear HO196
         have BK186 := n0_
         have BK187 := n1_
         have HO193 := n2_
         have HB := n3_
         have HO199 := n4_
         clear n0_ n1_ n2_ n3_ n4_
         clear ho hb hg hat
         refine hK.out _ _ ⟨(blk_cell BK186.out 0).trans rfl, (blk_cell BK186.out 1).trans rfl, (blk_cell BK186.out 2).trans rfl⟩ (fun hHeld => ?_)
         clear hK K
         refine norm_ (a' := ?_) ?_ ?_
         rotate_left
         ·show Act.put _ (some 14) _ = _
          simp only [Act.put, sT_, s0_, sS_, i64_w, i32_w]
          rfl
         exact norm_ (by first | (simp only [putAll, Act.put, List.setIfInBounds_toArray, List.set_cons_zero, List.set_cons_succ]; done) | (simp only [putAll, Act.put, List.setIfInBounds_toArray, List.set_cons_zero, List.set_cons_succ]; rfl)) (hJ0_3_4_7 (v189, v192, v195, v198) _ ⟨hHeld, (kr_ HO193), (kr_ HO199), (bk_ BK186), (bk_ BK187), (hg2_ GE186 GE187)⟩)
        ·skip
         refine Kd.R_lit_step k41 _ 41 ?hg (N := 15) ?hd (xs := ([] : List (S41))) (inner := []) (ok := fun _ => True) (okp := fun _ => True) ?hr ?hp (fun _ hk => hk) trivial (Below.refl _ _) (Nat.le_refl _) (by simp) ?_; (case hd => rfl); (case hg => rfl); (case hr => first | (go_simp; done) | (go_simp; rfl)); (case hp => exact (Reps.none _ _))
         intro v201 w14 ho15 hb hg_ hnew_
         clear hg_ hnew_
         (first | rw [← Ny200.out] at ho15 | (simp only [Int.reduceToNat] at ho15; rw [← Ny200.out] at ho15))
         have n0_ := ak_ (Kd.R_below (kr_ HO193) hb)
         have n1_ := ak_ (Kd.R_below (kr_ HO196) hb)
         have n2_ := ak_ (Kd.R_lower ho15 (below_size (hg2_ GE186 GE187)))
         have n3_ := ak_ (blk_below (g := gb186) (o := .cells #[.slice A0_0 l0_0.length c0_0, .slice A0_1 l0_1.length c0_1, .slice A0_2 l0_2.length c0_2] 31 (0, 0)) (bk_ BK186) hb)
         have n4_ := ak_ (blk_below (g := gb187) (o := .cells #[.slice none 0 0, .slice none 0 0, .slice none 0 0] 31 (0, 0)) (bk_ BK187) hb)
         have n5_ := ak_ (below_step (hg2_ GE186 GE187) hb)
         clear HO193
         clear HO196
         clear BK186
         clear BK187
         clear HB
         have HO193 := n0_
         have HO196 := n1_
         have HO202 := n2_
         have BK186 := n3_
         have BK187 := n4_
         have HB := n5_
         clear n0_ n1_ n2_ n3_ n4_ n5_
         clear hb ho15
         refine hK.out _ _ ⟨(blk_cell BK186.out 0).trans rfl, (blk_cell BK186.out 1).trans rfl, (blk_cell BK186.out 2).trans rfl⟩ (fun hHeld => ?_)
         clear hK K
         refine norm_ (a' := ?_) ?_ ?_
         rotate_left
         ·show Act.put _ (some 15) _ = _
          simp only [Act.put, sT_, s0_, sS_, i64_w, i32_w]
          rfl
         exact norm_ (by first | (simp only [putAll, Act.put, List.setIfInBounds_toArray, List.set_cons_zero, List.set_cons_succ]; done) | (simp only [putAll, Act.put, List.setIfInBounds_toArray, List.set_cons_zero, List.set_cons_succ]; rfl)) (hJ0_3_4_8 (v189, v192, v195, v201) _ ⟨hHeld, (kr_ HO193), (kr_ HO196), (kr_ HO202), (bk_ BK186), (bk_ BK187), (hg2_ GE186 GE187)⟩)
      ·skip
       rintro ⟨v189, v192, v195, v201⟩ w15 ⟨hS_, h0_, h1_, h2_, h3_, h4_, h5_⟩
       have n0_ : Aside0 (Kd.R k91 91 w15 w.heap.size (fun _ => True) v192 y191) := ⟨h0_⟩
       have n1_ : Aside0 (Kd.R Kd.string 9 w15 w.heap.size (fun _ => True) v195 y194) := ⟨h1_⟩
       have n2_ : Aside0 (Kd.R k41 41 w15 w.heap.size (fun _ => True) v201 y200) := ⟨h2_⟩
       have n3_ : Aside0 (w15.heap[gb186]? = some (.cells #[.slice A0_0 l0_0.length c0_0, .slice A0_1 l0_1.length c0_1, .slice A0_2 l0_2.length c0_2] 31 (0, 0))) := ⟨h3_⟩
       have n4_ : Aside0 (w15.heap[gb187]? = some (.cells #[.slice none 0 0, .slice none 0 0, .slice none 0 0] 31 (0, 0))) := ⟨h4_⟩
       have n5_ : Aside0 (Below w.heap.size w w15) := ⟨h5_⟩
       clear BK186
       clear BK187
       clear HB
       clear h0_ h1_ h2_ h3_ h4_ h5_
       have HO193 := n0_
       have HO196 := n1_
       have HO202 := n2_
       have BK186 := n3_
       have BK187 := n4_
       have HB := n5_
       clear n0_ n1_ n2_ n3_ n4_ n5_
       have hHeld : w15.cell? ⟨gb186, 0, none⟩ = some (.slice A0_0 l0_0.length c0_0) ∧ w15.cell? ⟨gb186, 1, none⟩ = some (.slice A0_1 l0_1.length c0_1) ∧ w15.cell? ⟨gb186, 2, none⟩ = some (.slice A0_2 l0_2.length c0_2) := hS_
       refine norm_ (a' := ?_) ?_ ?_
       rotate_left
       ·simp only [putAll, Act.put, List.setIfInBounds_toArray, List.set_cons_zero, List.set_cons_succ]
        rfl
       refine one_ (i := 11) (N := some 14) #[T_,T_,T_,T_,T_,T_,T_,T_,T_,T_,T_,T_,T_,T_,T_,T_,T_,F_,F_,F_] rfl rfl (one_of HT_.out (by kernel_rfl)) (by decide) (fun K hK => ?_)
       refine Kd.R_append_rows_step Kd.string (w0 := w) w.heap.size (by rfl) (.tmp 9) (.tmp 13) 23 9 (.string ⟨#[]⟩) 16 rfl Try.underlying23 info9 rfl (by decide) (by omega) v195 y194 l0_1 _ _ _ (fun _ => True) (fun _ => False) rfl rfl ?aO ?aR (fun _ _ h => h) (fun _ h => h.elim) ?aF ?aB ?aS ?aL ?_
       (case aR => exact kc_ (Kd.C_below HR0_1.out HB.out))
       (case aB => exact (hg2_ GE186 GE187))
       (case aF => exact (fun _ _ => trivial))
       (case aO => exact (kr_ HO196))
       (case aS => exact (below_size (hg2_ GE186 GE187)))
       (case aL => have := LMc3.out; omega)
       intro v198 w16 ho hb hg hat
       rw [← Ny197.out] at ho
       have n0_ := ak_ (blk_grown (g := gb186) (o := .cells #[.slice A0_0 l0_0.length c0_0, .slice A0_1 l0_1.length c0_1, .slice A0_2 l0_2.length c0_2] 31 (0, 0)) (bk_ BK186) hg (Kd.R_ne HO196.out BK186.out (by decide)))
       have n1_ := ak_ (blk_grown (g := gb187) (o := .cells #[.slice none 0 0, .slice none 0 0, .slice none 0 0] 31 (0, 0)) (bk_ BK187) hg (Kd.R_ne HO196.out BK187.out (by decide)))
       have n2_ := ak_ (Kd.R_over' (kr_ HO193) (Kd.R_typed (kr_ HO196)) (by decide) hg)
       have n3_ := ak_ (Kd.R_over' (kr_ HO202) (Kd.R_typed (kr_ HO196)) (by decide) hg)
       have n4_ := ak_ (hb)
       have n5_ := ak_ (ho)
       clear BK186
       clear BK187
       clear HO193
       clear HO202
       clear HB
       clear HO196
       have BK186 := n0_
       have BK187 := n1_
       have HO193 := n2_
       have HO202 := n3_
       have HB := n4_
       have HO199 := n5_
       clear n0_ n1_ n2_ n3_ n4_ n5_
       clear ho hb hg hat
       refine hK.out _ _ ⟨(blk_cell BK186.out 0).trans rfl, (blk_cell BK186.out 1).trans rfl, (blk_cell BK186.out 2).trans rfl⟩ (fun hHeld => ?_)
       clear hK K
       refine norm_ (a' := ?_) ?_ ?_
       rotate_left
       ·show Act.put _ (some 14) _ = _
        simp only [Act.put, sT_, s0_, sS_, i64_w, i32_w]
        rfl
       exact norm_ (by first | (simp only [putAll, Act.put, List.setIfInBounds_toArray, List.set_cons_zero, List.set_cons_succ]; done) | (simp only [putAll, Act.put, List.setIfInBounds_toArray, List.set_cons_zero, List.set_cons_succ]; rfl)) (hJ0_3_4_7_8 (v189, v192, v195, v198, v201) _ ⟨hHeld, (kr_ HO193), (kr_ HO199), (kr_ HO202), (bk_ BK186), (bk_ BK187), (hg2_ GE186 GE187)⟩)
     ·skip
      rintro ⟨v189, v192, v195, v198⟩ w14 ⟨hS_, h0_, h1_, h2_, h3_, h4_⟩
      have n0_ : Aside0 (Kd.R k91 91 w14 w.heap.size (fun _ => True) v192 y191) := ⟨h0_⟩
      have n1_ : Aside0 (Kd.R Kd.string 9 w14 w.heap.size (fun _ => True) v198 y197) := ⟨h1_⟩
      have n2_ : Aside0 (w14.heap[gb186]? = some (.cells #[.slice A0_0 l0_0.length c0_0, .slice A0_1 l0_1.length c0_1, .slice A0_2 l0_2.length c0_2] 31 (0, 0))) := ⟨h2_⟩
      have n3_ : Aside0 (w14.heap[gb187]? = some (.cells #[.slice none 0 0, .slice none 0 0, .slice none 0 0] 31 (0, 0))) := ⟨h3_⟩
      have n4_ : Aside0 (Below w.heap.size w w14) := ⟨h4_⟩
      clear BK186
      clear BK187
      clear HB
      clear h0_ h1_ h2_ h3_ h4_
      have HO193 := n0_
      have HO199 := n1_
      have BK186 := n2_
      have BK187 := n3_
      have HB := n4_
      clear n0_ n1_ n2_ n3_ n4_
      have hHeld : w14.cell? ⟨gb186, 0, none⟩ = some (.slice A0_0 l0_0.length c0_0) ∧ w14.cell? ⟨gb186, 1, none⟩ = some (.slice A0_1 l0_1.length c0_1) ∧ w14.cell? ⟨gb186, 2, none⟩ = some (.slice A0_2 l0_2.length c0_2) := hS_
      refine norm_ (a' := ?_) ?_ ?_
      rotate_left
      ·simp only [putAll, Act.put, List.setIfInBounds_toArray, List.set_cons_zero, List.set_cons_succ]
       rfl
      refine one_ (i := 12) (N := some 15) #[T_,T_,T_,T_,T_,T_,T_,T_,T_,T_,T_,T_,T_,T_,T_,T_,T_,F_,F_,F_] rfl rfl (one_of HT_.out (by kernel_rfl)) (by decide) (fun K hK => ?_)
      refine Kd.R_lit_step k41 _ 41 ?hg (N := 15) ?hd (xs := ([] : List (S41))) (inner := []) (ok := fun _ => True) (okp := fun _ => True) ?hr ?hp (fun _ hk => hk) trivial (Below.refl _ _) (Nat.le_refl _) (by simp) ?_; (case hd => rfl); (case hg => rfl); (case hr => first | (go_simp; done) | (go_simp; rfl)); (case hp => exact (Reps.none _ _))
      intro v201 w15 ho16 hb hg_ hnew_
      clear hg_ hnew_
      (first | rw [← Ny200.out] at ho16 | (simp only [Int.reduceToNat] at ho16; rw [← Ny200.out] at ho16))
      have n0_ := ak_ (Kd.R_below (kr_ HO193) hb)
      have n1_ := ak_ (Kd.R_below (kr_ HO199) hb)
      have n2_ := ak_ (Kd.R_lower ho16 (below_size (hg2_ GE186 GE187)))
      have n3_ := ak_ (blk_below (g := gb186) (o := .cells #[.slice A0_0 l0_0.length c0_0, .slice A0_1 l0_1.length c0_1, .slice A0_2 l0_2.length c0_2] 31 (0, 0)) (bk_ BK186) hb)
      have n4_ := ak_ (blk_below (g := gb187) (o := .cells #[.slice none 0 0, .slice none 0 0, .slice none 0 0] 31 (0, 0)) (bk_ BK187) hb)
      have n5_ := ak_ (below_step (hg2_ GE186 GE187) hb)
      clear HO193
      clear HO199
      clear BK186
      clear BK187
      clear HB
      have HO193 := n0_
      have HO199 := n1_
      have HO202 := n2_
      have BK186 := n3_
      have BK187 := n4_
      have HB := n5_
      clear n0_ n1_ n2_ n3_ n4_ n5_
      clear hb ho16
      refine hK.out _ _ ⟨(blk_cell BK186.out 0).trans rfl, (blk_cell BK186.out 1).trans rfl, (blk_cell BK186.out 2).trans rfl⟩ (fun hHeld => ?_)
      clear hK K
      refine norm_ (a' := ?_) ?_ ?_
      rotate_left
      ·show Act.put _ (some 15) _ = _
       simp only [Act.put, sT_, s0_, sS_, i64_w, i32_w]
       rfl
      exact norm_ (by first | (simp only [putAll, Act.put, List.setIfInBounds_toArray, List.set_cons_zero, List.set_cons_succ]; done) | (simp only [putAll, Act.put, List.setIfInBounds_toArray, List.set_cons_zero, List.set_cons_succ]; rfl)) (hJ0_3_4_7_8 (v189, v192, v195, v198, v201) _ ⟨hHeld, (kr_ HO193), (kr_ HO199), (kr_ HO202), (bk_ BK186), (bk_ BK187), (hg2_ GE186 GE187)⟩)
    rintro ⟨v189, v192, v195, v198, v201⟩ w16 ⟨hS_, h0_, h1_, h2_, h3_, h4_, h5_⟩
    have n0_ : Aside0 (Kd.R k91 91 w16 w.heap.size (fun _ => True) v192 y191) := ⟨h0_⟩
    have n1_ : Aside0 (Kd.R Kd.string 9 w16 w.heap.size (fun _ => True) v198 y197) := ⟨h1_⟩
    have n2_ : Aside0 (Kd.R k41 41 w16 w.heap.size (fun _ => True) v201 y200) := ⟨h2_⟩
    have n3_ : Aside0 (w16.heap[gb186]? = some (.cells #[.slice A0_0 l0_0.length c0_0, .slice A0_1 l0_1.length c0_1, .slice A0_2 l0_2.length c0_2] 31 (0, 0))) := ⟨h3_⟩
    have n4_ : Aside0 (w16.heap[gb187]? = some (.cells #[.slice none 0 0, .slice none 0 0, .slice none 0 0] 31 (0, 0))) := ⟨h4_⟩
    have n5_ : Aside0 (Below w.heap.size w w16) := ⟨h5_⟩
    clear BK186
    clear BK187
    clear HB
    clear h0_ h1_ h2_ h3_ h4_ h5_
    have HO193 := n0_
    have HO199 := n1_
    have HO202 := n2_
    have BK186 := n3_
    have BK187 := n4_
    have HB := n5_
    clear n0_ n1_ n2_ n3_ n4_ n5_
    have hHeld : w16.cell? ⟨gb186, 0, none⟩ = some (.slice A0_0 l0_0.length c0_0) ∧ w16.cell? ⟨gb186, 1, none⟩ = some (.slice A0_1 l0_1.length c0_1) ∧ w16.cell? ⟨gb186, 2, none⟩ = some (.slice A0_2 l0_2.length c0_2) := hS_
    refine norm_ (a' := ?_) ?_ ?_
    rotate_left
    ·simp only [putAll, Act.put, List.setIfInBounds_toArray, List.set_cons_zero, List.set_cons_succ]
     rfl
    refine one_ (i := 17) (N := some 20) #[T_,T_,T_,T_,T_,T_,T_,T_,T_,T_,T_,T_,T_,T_,T_,T_,T_,T_,F_,F_] rfl rfl (one_of HT_.out (by kernel_rfl)) (by decide) (fun K hK => ?_)
    refine Kd.R_append_rows_step k41 (w0 := w) w.heap.size (by rfl) (.tmp 15) (.tmp 19) 29 41 (.agg #[(.string ⟨#[]⟩), (.string ⟨#[]⟩), (.int .i64 0)]) 40 rfl Try.underlying29 info41 rfl (by decide) (by omega) v201 y200 l0_2 _ _ _ (fun _ => True) (fun _ => False) rfl rfl ?aO ?aR (fun _ _ h => h) (fun _ h => h.elim) ?aF ?aB ?aS ?aL ?_
    (case aR => exact kc_ (Kd.C_below HR0_2.out HB.out))
    (case aB => exact (hg2_ GE186 GE187))
    (case aF => exact (fun _ _ => trivial))
    (case aO => exact (kr_ HO202))
    (case aS => exact (below_size (hg2_ GE186 GE187)))
    (case aL => have := LMc4.out; omega)
    intro v204 w17 ho hb hg hat
    rw [← Ny203.out] at ho
    have n0_ := ak_ (blk_grown (g := gb186) (o := .cells #[.slice A0_0 l0_0.length c0_0, .slice A0_1 l0_1.length c0_1, .slice A0_2 l0_2.length c0_2] 31 (0, 0)) (bk_ BK186) hg (Kd.R_ne HO202.out BK186.out (by decide)))
    have n1_ := ak_ (blk_grown (g := gb187) (o := .cells #[.slice none 0 0, .slice none 0 0, .slice none 0 0] 31 (0, 0)) (bk_ BK187) hg (Kd.R_ne HO202.out BK187.out (by decide)))
    have n2_ := ak_ (Kd.R_over' (kr_ HO193) (Kd.R_typed (kr_ HO202)) (by decide) hg)
    have n3_ := ak_ (Kd.R_over' (kr_ HO199) (Kd.R_typed (kr_ HO202)) (by decide) hg)
    have n4_ := ak_ (hb)
    have n5_ := ak_ (ho)
    clear BK186
    clear BK187
    clear HO193
    clear HO199
    clear HB
    clear HO202
    have BK186 := n0_
    have BK187 := n1_
    have HO193 := n2_
    have HO199 := n3_
    have HB := n4_
    have HO205 := n5_
    clear n0_ n1_ n2_ n3_ n4_ n5_
    clear ho hb hg hat
    obtain ⟨Ao18, co18, eo18⟩ := Kd.R_slice HO205.out
    (first | subst eo18 | (injection eo18 with f1_ f2_ f3_; have f4_ := f1_.symm; have f5_ := f3_.symm; clear f1_ f2_ f3_; subst f4_; subst f5_))
    obtain ⟨Ao19, co19, eo19⟩ := Kd.R_slice HO199.out
    (first | subst eo19 | (injection eo19 with f1_ f2_ f3_; have f4_ := f1_.symm; have f5_ := f3_.symm; clear f1_ f2_ f3_; subst f4_; subst f5_))
    obtain ⟨Ao20, co20, eo20⟩ := Kd.R_slice HO193.out
    (first | subst eo20 | (injection eo20 with f1_ f2_ f3_; have f4_ := f1_.symm; have f5_ := f3_.symm; clear f1_ f2_ f3_; subst f4_; subst f5_))
    refine hK.out _ _ ⟨(blk_cell BK186.out 0).trans rfl, (blk_cell BK186.out 1).trans rfl, (blk_cell BK186.out 2).trans rfl⟩ (fun hHeld => ?_)
    clear hK K
    refine norm_ (a' := ?_) ?_ ?_
    rotate_left
    ·show Act.put _ (some 20) _ = _
     simp only [Act.put, sT_, s0_, sS_, i64_w, i32_w]
     rfl
    refine pv (i := 18) (N := some 21) HT_ ?_
    refine one_ (i := 19) (N := none) #[T_,T_,T_,T_,T_,T_,T_,T_,T_,T_,T_,T_,T_,T_,T_,T_,T_,T_,T_,T_] rfl rfl (one_of HT_.out (by kernel_rfl)) (by decide) (fun K hK => ?_)
    have hs21 : w17.cell? ⟨gb187, 0, none⟩ = some (.slice none 0 0) := (blk_cell BK187.out 0).trans rfl
    have hfs21 := blk_frozen BK187.out 0
    have hns21_0 := NB186_187.out
    have hms21_0 := NB187_186.out
    have hs22 : w17.cell? ⟨gb187, 1, none⟩ = some (.slice none 0 0) := (blk_cell BK187.out 1).trans rfl
    have hfs22 := blk_frozen BK187.out 1
    have hns22_0 := NB186_187.out
    have hms22_0 := NB187_186.out
    have hs23 : w17.cell? ⟨gb187, 2, none⟩ = some (.slice none 0 0) := (blk_cell BK187.out 2).trans rfl
    have hfs23 := blk_frozen BK187.out 2
    have hns23_0 := NB186_187.out
    have hms23_0 := NB187_186.out
    refine skip_ (w1 := ?_) (by rfl) rfl ?_ ?_
    rotate_left
    ·go_simp
     rfl
    refine hK.out _ _ ⟨((cell_far (p := ⟨gb187, _, none⟩) NB186_187.out _).trans (((cell_far (p := ⟨gb187, _, none⟩) NB186_187.out _).trans (((cell_far (p := ⟨gb187, _, none⟩) NB186_187.out _).trans (hHeld.1)))))), ((cell_far (p := ⟨gb187, _, none⟩) NB186_187.out _).trans (((cell_far (p := ⟨gb187, _, none⟩) NB186_187.out _).trans (((cell_far (p := ⟨gb187, _, none⟩) NB186_187.out _).trans (hHeld.2.1)))))), ((cell_far (p := ⟨gb187, _, none⟩) NB186_187.out _).trans (((cell_far (p := ⟨gb187, _, none⟩) NB186_187.out _).trans (((cell_far (p := ⟨gb187, _, none⟩) NB186_187.out _).trans (hHeld.2.2))))))⟩ (fun hHeld => ?_)
    clear hK K
    refine done_ (done_of HT_.out (by kernel_rfl)) ?_
    try go_wp2
    refine bodyPost_ret (results_cell_row rfl _ _ gb187 31 #[.slice Ao20 y191.length co20, .slice Ao19 y197.length co19, .slice Ao18 y203.length co18] (0, 0) _ rfl (by (with_reducible repeat (first | refine blk_drewN ?_ _ | refine blk_drew ?_ | refine blk_alloc ?_ _)); refine blk_put (cs := #[.slice Ao20 y191.length co20, .slice Ao19 y197.length co19, .slice none 0 0]) ?_ 2 _ rfl; (with_reducible repeat (first | refine blk_drewN ?_ _ | refine blk_drew ?_ | refine blk_alloc ?_ _)); refine blk_put (cs := #[.slice Ao20 y191.length co20, .slice none 0 0, .slice none 0 0]) ?_ 1 _ rfl; (with_reducible repeat (first | refine blk_drewN ?_ _ | refine blk_drew ?_ | refine blk_alloc ?_ _)); refine blk_put (cs := #[.slice none 0 0, .slice none 0 0, .slice none 0 0]) ?_ 0 _ rfl; (with_reducible repeat (first | refine blk_drewN ?_ _ | refine blk_drew ?_ | refine blk_alloc ?_ _)); exact BK187.out) Try.underlying31 rfl (by kernel_rfl)) rfl ?_
    exact ⟨_, _, _, ew_, by (with_reducible repeat (first | apply Kd.R_alloc | apply Kd.R_drewN | apply Kd.R_drew)); exact Kd.R_mono (Kd.R_far (p := ⟨gb187, 2, none⟩) (Kd.R_far (p := ⟨gb187, 1, none⟩) (Kd.R_far (p := ⟨gb187, 0, none⟩) (Kd.R_types HO193.out BK187.out (by decide)) (fun _ hk => hk.2) (.slice Ao20 y191.length co20)) (fun _ hk => hk.2) (.slice Ao19 y197.length co19)) (fun _ hk => hk.2) (.slice Ao18 y203.length co18)) (fun _ hk => trivial), by (with_reducible repeat (first | apply Kd.R_alloc | apply Kd.R_drewN | apply Kd.R_drew)); exact Kd.R_mono (Kd.R_far (p := ⟨gb187, 2, none⟩) (Kd.R_far (p := ⟨gb187, 1, none⟩) (Kd.R_far (p := ⟨gb187, 0, none⟩) (Kd.R_types HO199.out BK187.out (by decide)) (fun _ hk => hk.2) (.slice Ao20 y191.length co20)) (fun _ hk => hk.2) (.slice Ao19 y197.length co19)) (fun _ hk => hk.2) (.slice Ao18 y203.length co18)) (fun _ hk => trivial), by (with_reducible repeat (first | apply Kd.R_alloc | apply Kd.R_drewN | apply Kd.R_drew)); exact Kd.R_mono (Kd.R_far (p := ⟨gb187, 2, none⟩) (Kd.R_far (p := ⟨gb187, 1, none⟩) (Kd.R_far (p := ⟨gb187, 0, none⟩) (Kd.R_types HO205.out BK187.out (by decide)) (fun _ hk => hk.2) (.slice Ao20 y191.length co20)) (fun _ hk => hk.2) (.slice Ao19 y197.length co19)) (fun _ hk => hk.2) (.slice Ao18 y203.length co18)) (fun _ hk => trivial), (hg2_ GE186 GE187)⟩
   ·rw [if_neg c4] at H
    exact absurd H (by simp)
  ·rw [if_neg c3] at H
   exact absurd H (by simp)
 ·rw [if_neg c2] at H
  exact absurd H (by simp)
/-! ### spec_CastOff: function 6 -/
open Go.Proofs.YtcenjcgfdghfnaaW.Hand
/-- What is carried through the body: the argument's variable, the result's. -/
structure COs (w W : World) (gx gr : Nat) (cx : Array Value) : Prop where
 xb : W.heap[gx]? = some (.cells cx 31 (0, 0))
 rb : W.heap[gr]? = some (.cells #[.slice none 0 0, .slice none 0 0, .slice none 0 0] 31 (0, 0))
 ne : gx ≠ gr
 ge : w.heap.size ≤ gr
 gx : w.heap.size ≤ gx
 below : Below w.heap.size w W
theorem COs.step {w W W2 : World} {gx gr : Nat} {cx : Array Value} (h : COs w W gx gr cx) (hb : Below W.heap.size W W2) : COs w W2 gx gr cx :=
 ⟨(hb.block gx (blk_lt h.xb)).trans h.xb, (hb.block gr (blk_lt h.rb)).trans h.rb, h.ne, h.ge, h.gx, below_trans h.below (below_mono hb h.below.size)⟩
theorem COs.grown {w W W2 : World} {gx gr : Nat} {cx : Array Value} {base : Nat} {ok : Nat → Prop} {v : Value} {xs : List S41} (h : COs w W gx gr cx) (hr : Kd.R k41 41 W base ok v xs) (hg : W.grownBy W2 v.ownBlock) (hB : Below w.heap.size w W2) : COs w W2 gx gr cx :=
 ⟨blk_apart h.xb hr (by decide) hg, blk_apart h.rb hr (by decide) hg, h.ne, h.ge, h.gx, hB⟩
theorem COs.set {w W : World} {gx gr : Nat} {cx : Array Value} {p : Addr} (h : COs w W gx gr cx) (h1 : gx ≠ p.block) (h2 : gr ≠ p.block) (hp : w.heap.size ≤ p.block) (u : Value) : COs w (W.setCell p u) gx gr cx :=
 ⟨blk_far h.xb h1 u, blk_far h.rb h2 u, h.ne, h.ge, h.gx, h.below.setCell hp u⟩
theorem COs.s {w W : World} {gx gr : Nat} {x y z : Value} (h : COs w W gx gr #[x, y, z]) : W.cell? ⟨gx, 0, none⟩ = some x ∧ W.cell? ⟨gx, 1, none⟩ = some y ∧ W.cell? ⟨gx, 2, none⟩ = some z :=
 ⟨(blk_cell h.xb 0).trans rfl, (blk_cell h.xb 1).trans rfl, (blk_cell h.xb 2).trans rfl⟩
/-- The rig that is made: its variable and its first two rows. -/
structure COg (w W : World) (gx gr go : Nat) (v0 v1 v2 : Value) (t0 : List S91) (t1 : List ByteArray) : Prop where
 blk : W.heap[go]? = some (.cells #[v0, v1, v2] 31 (0, 0))
 ge : w.heap.size ≤ go
 nx : gx ≠ go
 nr : gr ≠ go
 r0 : Kd.R k91 91 W w.heap.size (fun _ => True) v0 t0
 r1 : Kd.R Kd.string 9 W w.heap.size (fun _ => True) v1 t1
theorem COg.step {w W W2 : World} {gx gr go : Nat} {v0 v1 v2 : Value} {t0 : List S91} {t1 : List ByteArray} (h : COg w W gx gr go v0 v1 v2 t0 t1) (hb : Below W.heap.size W W2) : COg w W2 gx gr go v0 v1 v2 t0 t1 :=
 ⟨(hb.block go (blk_lt h.blk)).trans h.blk, h.ge, h.nx, h.nr, Kd.R_below h.r0 hb, Kd.R_below h.r1 hb⟩
theorem COg.grown {w W W2 : World} {gx gr go : Nat} {v0 v1 v2 : Value} {t0 : List S91} {t1 : List ByteArray} {base : Nat} {ok : Nat → Prop} {v : Value} {xs : List S41} (h : COg w W gx gr go v0 v1 v2 t0 t1) (hr : Kd.R k41 41 W base ok v xs) (hg : W.grownBy W2 v.ownBlock) : COg w W2 gx gr go v0 v1 v2 t0 t1 :=
 ⟨blk_apart h.blk hr (by decide) hg, h.ge, h.nx, h.nr, R_apart h.r0 hr (by decide) hg, R_apart h.r1 hr (by decide) hg⟩
theorem COg.put {w W : World} {gx gr go : Nat} {v0 v1 v2 : Value} {t0 : List S91} {t1 : List ByteArray} (h : COg w W gx gr go v0 v1 v2 t0 t1) (u : Value) : COg w (W.setCell ⟨go, 2, none⟩ u) gx gr go v0 v1 u t0 t1 :=
 ⟨blk_set h.blk 2 u, h.ge, h.nx, h.nr, Kd.R_set h.r0 h.blk (by decide) 2 u, Kd.R_set h.r1 h.blk (by decide) 2 u⟩
theorem COg.s {w W : World} {gx gr go : Nat} {v0 v1 v2 : Value} {t0 : List S91} {t1 : List ByteArray} (h : COg w W gx gr go v0 v1 v2 t0 t1) : W.cell? ⟨go, 0, none⟩ = some v0 ∧ W.cell? ⟨go, 1, none⟩ = some v1 ∧ W.cell? ⟨go, 2, none⟩ = some v2 :=
 ⟨(blk_cell h.blk 0).trans rfl, (blk_cell h.blk 1).trans rfl, (blk_cell h.blk 2).trans rfl⟩
theorem C_take_ {α : Type} {k : Kd α} {w : World} {A : Option Addr} {xs : List α} {m : Nat} (h : k.C w A xs.length xs) (hm : m ≤ xs.length) : k.C w A m (xs.take m) := by
 have h2 := Kd.C_take h hm
 have e : (xs.take m).length = m := by rw [List.length_take]; omega
 rwa [e] at h2
theorem C_drop_ {α : Type} {k : Kd α} {w : World} {A : Option Addr} {xs : List α} {m c : Nat} (h : k.C w A xs.length xs) (hm : m ≤ xs.length) (hc : xs.length ≤ c) : k.C w (if c = m then A else A.map (·.add (m * k.sz))) (xs.length - m) (xs.drop m) := by
 have h2 := Kd.C_drop h hm hc
 rwa [List.length_drop] at h2
theorem COg.fill {w W : World} {gx gr go : Nat} {u0 u1 u2 v0 v1 v2 : Value} {z0 t0 : List S91} {z1 t1 : List ByteArray} (h : COg w W gx gr go u0 u1 u2 z0 z1) (h0 : Kd.R k91 91 W w.heap.size (fun _ => True) v0 t0) (h1 : Kd.R Kd.string 9 W w.heap.size (fun _ => True) v1 t1) :
  COg w (((W.setCell ⟨go, 0, none⟩ v0).setCell ⟨go, 1, none⟩ v1).setCell ⟨go, 2, none⟩ v2) gx gr go v0 v1 v2 t0 t1 := by
 have b1 := blk_set h.blk 0 v0
 have b2 := blk_set b1 1 v1
 have b3 := blk_set b2 2 v2
 exact ⟨b3, h.ge, h.nx, h.nr, Kd.R_set (Kd.R_set (Kd.R_set h0 h.blk (by decide) 0 v0) b1 (by decide) 1 v1) b2 (by decide) 2 v2, Kd.R_set (Kd.R_set (Kd.R_set h1 h.blk (by decide) 0 v0) b1 (by decide) 1 v1) b2 (by decide) 2 v2⟩
theorem set3_below_ {base : Nat} {w W : World} {bl : Nat} {u v x : Value} (h : Below base w W) (hge : base ≤ bl) : Below base w (((W.setCell ⟨bl, 0, none⟩ u).setCell ⟨bl, 1, none⟩ v).setCell ⟨bl, 2, none⟩ x) := ((h.setCell hge _).setCell hge _).setCell hge _
/-- The result's variable is filled. -/
theorem COs.done {w W : World} {gx gr : Nat} {cx : Array Value} {v0 v1 v2 : Value} {t0 : List S91} {t1 : List ByteArray} {t2 : List S41} (h : COs w W gx gr cx) (h0 : Kd.R k91 91 W w.heap.size (fun _ => True) v0 t0) (h1 : Kd.R Kd.string 9 W w.heap.size (fun _ => True) v1 t1) (h2 : Kd.R k41 41 W w.heap.size (fun _ => True) v2 t2) :
  RigInv w.heap.size (((W.setCell ⟨gr, 0, none⟩ v0).setCell ⟨gr, 1, none⟩ v1).setCell ⟨gr, 2, none⟩ v2) gr v0 v1 v2 t0 t1 t2 ∧ Below w.heap.size w (((W.setCell ⟨gr, 0, none⟩ v0).setCell ⟨gr, 1, none⟩ v1).setCell ⟨gr, 2, none⟩ v2) :=
 ⟨rig_new h.rb h.ge h0 h1 h2, set3_below_ h.below h.ge⟩
set_option maxHeartbeats 4000000 in
set_option maxRecDepth 100000 in
theorem spec_l19Named.core (k g : Nat) (A0 : Option Addr) (c0 : Nat) (l0 : List S91) (A1 : Option Addr) (c1 : Nat) (l1 : List ByteArray) (A2 : Option Addr) (c2 : Nat) (l2 : List S41) (a1 : ByteArray) (r1 r2 : Int) (w : World) (hx0 : w.cell? ⟨g, 0, none⟩ = some (.slice A0 l0.length c0)) (hx1 : w.cell? ⟨g, 1, none⟩ = some (.slice A1 l1.length c1)) (hx2 : w.cell? ⟨g, 2, none⟩ = some (.slice A2 l2.length c2)) (hr0 : Kd.C k91 w A0 l0.length l0) (hr1 : Kd.C Kd.string w A1 l1.length l1) (hr2 : Kd.C k41 w A2 l2.length l2) (h : spec_l19Named.f k l0 l1 l2 a1 = some (r1, r2)) :
  Calls Try.prog 38 #[.pointer (some ⟨g, 0, none⟩), .string a1] w fun e w' => e = .returned (.tuple #[.int .i64 r1, .int .i64 r2]) ∧ Below w.heap.size w w' := by
 have HX := ak_ (And.intro hx0 (And.intro hx1 hx2))
 have HR := ak_ (And.intro hr0 (And.intro hr1 hr2))
 clear hx0 hx1 hx2 hr0 hr1 hr2
 unfold spec_l19Named.f at h
 obtain ⟨t1, e1, h⟩ := ob_ h
 have E1 := ak_ e1
 clear e1
 cases t1 with
 | false =>
  rw [if_neg (by decide)] at h
  simp only [Option.some.injEq, Prod.mk.injEq] at h
  obtain ⟨rfl, rfl⟩ := h
  go_enter Try.func38, Try.ntmps38
  go_wp2_with ((with_reducible refine gate_callee (f := 61) rfl ?_); refine goesL_ (some 8) rfl rfl Try.func61 (by kernel_rfl) rfl #[.pointer (some ⟨g, 0, none⟩)] rfl ln_ ?_; (refine (spec_l19Ok.core k g A0 c0 l0 A1 c1 l1 A2 c2 l2 false _ HX.out.1 HX.out.2.1 HX.out.2.2 HR.out.1 HR.out.2.1 HR.out.2.2 E1.out).mono ?_); rintro e w1 ⟨rfl, hb⟩; refine ⟨_, rfl, ?_⟩; have HB1 := ak_ (hb); clear hb)
  go_ret2
  exact ⟨ew_, HB1.out⟩
 | true =>
  rw [if_pos rfl] at h
  obtain ⟨t2, e2, h⟩ := ob_ h
  have E2 := ak_ e2
  clear e2
  cases t2 with
  | false =>
   rw [if_neg (by decide)] at h
   simp only [Option.some.injEq, Prod.mk.injEq] at h
   obtain ⟨rfl, rfl⟩ := h
   go_enter Try.func38, Try.ntmps38
   go_wp2_with (first | ((with_reducible refine gate_callee (f := 61) rfl ?_); refine goesL_ (some 8) rfl rfl Try.func61 (by kernel_rfl) rfl #[.pointer (some ⟨g, 0, none⟩)] rfl ln_ ?_; (refine (spec_l19Ok.core k g A0 c0 l0 A1 c1 l1 A2 c2 l2 true _ HX.out.1 HX.out.2.1 HX.out.2.2 HR.out.1 HR.out.2.1 HR.out.2.2 E1.out).mono ?_); rintro e w1 ⟨rfl, hb⟩; refine ⟨_, rfl, ?_⟩; have HB1 := ak_ (hb); clear hb) | ((with_reducible refine gate_callee (f := 63) rfl ?_); refine goesL_ (some 12) rfl rfl Try.func63 (by kernel_rfl) rfl #[.pointer (some ⟨g, 0, none⟩), .string a1] rfl ln_ ?_; (refine (spec_l19Line.callsE k ⟨g, 0, none⟩ l0 l1 l2 A0 c0 A1 c1 A2 c2 a1 false _ (pw_cell_below HB1.out HX.out.1) (pw_cell_below HB1.out HX.out.2.1) (pw_cell_below HB1.out HX.out.2.2) (Kd.C_below HR.out.1 HB1.out) (Kd.C_below HR.out.2.1 HB1.out) (Kd.C_below HR.out.2.2 HB1.out) E2.out).mono ?_); rintro e w2 ⟨rfl, hb⟩; refine ⟨_, rfl, ?_⟩; have HB2 := ak_ (below_trans HB1.out (below_mono hb HB1.out.size)); clear hb))
   go_ret2
   exact ⟨ew_, HB2.out⟩
  | true =>
   rw [if_pos rfl] at h
   obtain ⟨t3, e3, h⟩ := ob_ h
   have E3 := ak_ e3
   clear e3
   by_cases c : t3 < 0
   ·rw [if_pos c] at h
    simp only [Option.some.injEq, Prod.mk.injEq] at h
    obtain ⟨rfl, rfl⟩ := h
    have hd1 : decide (t3 < 0) = true := dt_ c
    clear c
    go_enter Try.func38, Try.ntmps38
    go_wp2_with (first | ((with_reducible refine gate_callee (f := 61) rfl ?_); refine goesL_ (some 8) rfl rfl Try.func61 (by kernel_rfl) rfl #[.pointer (some ⟨g, 0, none⟩)] rfl ln_ ?_; (refine (spec_l19Ok.core k g A0 c0 l0 A1 c1 l1 A2 c2 l2 true _ HX.out.1 HX.out.2.1 HX.out.2.2 HR.out.1 HR.out.2.1 HR.out.2.2 E1.out).mono ?_); rintro e w1 ⟨rfl, hb⟩; refine ⟨_, rfl, ?_⟩; have HB1 := ak_ (hb); clear hb) | ((with_reducible refine gate_callee (f := 63) rfl ?_); refine goesL_ (some 12) rfl rfl Try.func63 (by kernel_rfl) rfl #[.pointer (some ⟨g, 0, none⟩), .string a1] rfl ln_ ?_; (refine (spec_l19Line.callsE k ⟨g, 0, none⟩ l0 l1 l2 A0 c0 A1 c1 A2 c2 a1 true _ (pw_cell_below HB1.out HX.out.1) (pw_cell_below HB1.out HX.out.2.1) (pw_cell_below HB1.out HX.out.2.2) (Kd.C_below HR.out.1 HB1.out) (Kd.C_below HR.out.2.1 HB1.out) (Kd.C_below HR.out.2.2 HB1.out) E2.out).mono ?_); rintro e w2 ⟨rfl, hb⟩; refine ⟨_, rfl, ?_⟩; have HB2 := ak_ (below_trans HB1.out (below_mono hb HB1.out.size)); clear hb) | ((with_reducible refine gate_callee (f := 66) rfl ?_); refine goesL_ (some 16) rfl rfl Try.func66 (by kernel_rfl) rfl #[.pointer (some ⟨g, 0, none⟩), .string a1] rfl ln_ ?_; (refine (spec_l19Of.callsE k ⟨g, 0, none⟩ l0 l1 l2 A0 c0 A1 c1 A2 c2 a1 t3 _ (pw_cell_below HB2.out HX.out.1) (pw_cell_below HB2.out HX.out.2.1) (pw_cell_below HB2.out HX.out.2.2) (Kd.C_below HR.out.1 HB2.out) (Kd.C_below HR.out.2.1 HB2.out) (Kd.C_below HR.out.2.2 HB2.out) E3.out).mono ?_); rintro e w3 ⟨rfl, hb⟩; refine ⟨_, rfl, ?_⟩; have HB3 := ak_ (below_trans HB2.out (below_mono hb HB2.out.size)); clear hb))
    go_ret2
    exact ⟨ew_, HB3.out⟩
   ·rw [if_neg c] at h
    simp only [Option.some.injEq, Prod.mk.injEq] at h
    obtain ⟨rfl, rfl⟩ := h
    have hd1 : decide (t3 < 0) = false := decide_eq_false c
    clear c
    go_enter Try.func38, Try.ntmps38
    go_wp2_with (first | ((with_reducible refine gate_callee (f := 61) rfl ?_); refine goesL_ (some 8) rfl rfl Try.func61 (by kernel_rfl) rfl #[.pointer (some ⟨g, 0, none⟩)] rfl ln_ ?_; (refine (spec_l19Ok.core k g A0 c0 l0 A1 c1 l1 A2 c2 l2 true _ HX.out.1 HX.out.2.1 HX.out.2.2 HR.out.1 HR.out.2.1 HR.out.2.2 E1.out).mono ?_); rintro e w1 ⟨rfl, hb⟩; refine ⟨_, rfl, ?_⟩; have HB1 := ak_ (hb); clear hb) | ((with_reducible refine gate_callee (f := 63) rfl ?_); refine goesL_ (some 12) rfl rfl Try.func63 (by kernel_rfl) rfl #[.pointer (some ⟨g, 0, none⟩), .string a1] rfl ln_ ?_; (refine (spec_l19Line.callsE k ⟨g, 0, none⟩ l0 l1 l2 A0 c0 A1 c1 A2 c2 a1 true _ (pw_cell_below HB1.out HX.out.1) (pw_cell_below HB1.out HX.out.2.1) (pw_cell_below HB1.out HX.out.2.2) (Kd.C_below HR.out.1 HB1.out) (Kd.C_below HR.out.2.1 HB1.out) (Kd.C_below HR.out.2.2 HB1.out) E2.out).mono ?_); rintro e w2 ⟨rfl, hb⟩; refine ⟨_, rfl, ?_⟩; have HB2 := ak_ (below_trans HB1.out (below_mono hb HB1.out.size)); clear hb) | ((with_reducible refine gate_callee (f := 66) rfl ?_); refine goesL_ (some 16) rfl rfl Try.func66 (by kernel_rfl) rfl #[.pointer (some ⟨g, 0, none⟩), .string a1] rfl ln_ ?_; (refine (spec_l19Of.callsE k ⟨g, 0, none⟩ l0 l1 l2 A0 c0 A1 c1 A2 c2 a1 t3 _ (pw_cell_below HB2.out HX.out.1) (pw_cell_below HB2.out HX.out.2.1) (pw_cell_below HB2.out HX.out.2.2) (Kd.C_below HR.out.1 HB2.out) (Kd.C_below HR.out.2.1 HB2.out) (Kd.C_below HR.out.2.2 HB2.out) E3.out).mono ?_); rintro e w3 ⟨rfl, hb⟩; refine ⟨_, rfl, ?_⟩; have HB3 := ak_ (below_trans HB2.out (below_mono hb HB2.out.size)); clear hb))
    go_ret2
    exact ⟨ew_, HB3.out⟩
def spec_CastOff.f (k : Nat) (l0 : List S91) (l1 : List ByteArray) (l2 : List S41) (a1 : ByteArray) : Option (List S91 × List ByteArray × List S41 × Int) :=
 (spec_l19Named.f k l0 l1 l2 a1).bind fun t => if t.2 = 0 then (spec_l19Own.f l0 l1 l2).bind fun o => (if 0 ≤ t.1 ∧ t.1 < (l2.length : Int) ∧ l2.length < 1000000000000 then some (o.1, o.2.1, [] ++ l2.take t.1.toNat ++ l2.drop (t.1.toNat + 1), 0) else none) else some ([], [], [], t.2)
set_option maxHeartbeats 8000000 in
set_option maxRecDepth 100000 in
theorem spec_CastOff.calls (k : Nat) (A0 : Option Addr) (c0 : Nat) (l0 : List S91) (A1 : Option Addr) (c1 : Nat) (l1 : List ByteArray) (A2 : Option Addr) (c2 : Nat) (l2 : List S41) (a1 : ByteArray) (r1 : List S91) (r2 : List ByteArray) (r3 : List S41) (r4 : Int) (w : World) (hr0 : Kd.C k91 w A0 l0.length l0) (hc0 : l0.length ≤ c0) (hr1 : Kd.C Kd.string w A1 l1.length l1) (hc1 : l1.length ≤ c1) (hr2 : Kd.C k41 w A2 l2.length l2) (hc2 : l2.length ≤ c2) (h : spec_CastOff.f k l0 l1 l2 a1 = some (r1, r2, r3, r4)) :
  Calls Try.prog 6 #[.agg #[.slice A0 l0.length c0, .slice A1 l1.length c1, .slice A2 l2.length c2], .string a1] w fun e w' => ∃ v0_ v1_ v2_ : Value, e = .returned (.tuple #[.agg #[v0_, v1_, v2_], .int .i64 r4]) ∧ Kd.R k91 91 w' w.heap.size (fun _ => True) v0_ r1 ∧ Kd.R Kd.string 9 w' w.heap.size (fun _ => True) v1_ r2 ∧ Kd.R k41 41 w' w.heap.size (fun _ => True) v2_ r3 ∧ Below w.heap.size w w' := by
 have HR := ak_ (And.intro hr0 (And.intro hr1 hr2))
 have HC := ak_ hc2
 clear hr0 hr1 hr2 hc0 hc1 hc2
 unfold spec_CastOff.f at h
 obtain ⟨⟨t1, t2⟩, e1, h⟩ := ob_ h
 have E1 := ak_ e1
 clear e1
 by_cases c : t2 = 0
 ·subst c
  rw [if_pos rfl] at h
  obtain ⟨⟨q0, q1, q2⟩, e2, h⟩ := ob_ h
  have E2 := ak_ e2
  clear e2
  dsimp only at h
  by_cases c : 0 ≤ t1 ∧ t1 < (l2.length : Int) ∧ l2.length < 1000000000000
  ·rw [if_pos c] at h
   obtain ⟨K, rfl⟩ : ∃ K : Nat, t1 = (K : Int) := ⟨t1.toNat, by omega⟩
   rw [Int.toNat_natCast] at h
   obtain ⟨J, hJ⟩ : ∃ J, J = K + 1 := ⟨_, rfl⟩
   rw [← hJ] at h
   simp only [Option.some.injEq, Prod.mk.injEq] at h
   obtain ⟨rfl, rfl, rfl, rfl⟩ := h
   have HK : Aside0 (K < l2.length) := ⟨by omega⟩
   have HL : Aside0 (l2.length < 1000000000000) := ⟨c.2.2⟩
   obtain ⟨i0, hi0, hzz⟩ := Option.map_eq_some_iff.1 info41
   have hsz : i0.size = 3 := congrArg (fun z => z.2.1) hzz
   have HJl : Aside0 (J ≤ l2.length) := ⟨by omega⟩
   have p2 : IntKind.i64.wrap ((K : Int) + 1) = (J : Int) := (i64_w _).trans (by unfold wrap64; omega)
   have hcA : ∀ W : World, (Instr.slice 29 (.slice A2 l2.length c2) none (some (.int .i64 (K : Int))) none).run Try.prog W = .ok (.slice A2 K c2) W := cut_to (P := Try.prog) 29 41 .i64 Try.underlying29 hi0 A2 l2.length c2 (K : Int) (Int.natCast_nonneg _) (by omega) HC.out
   have hcB : ∀ W : World, (Instr.slice 29 (.slice A2 l2.length c2) (some (.int .i64 (J : Int))) none none).run Try.prog W = .ok (.slice (if c2 = J then A2 else A2.map (·.add (J * 3))) (l2.length - J) (c2 - J)) W := cut_from (P := Try.prog) 29 41 .i64 Try.underlying29 hi0 3 hsz A2 l2.length c2 (J : Int) (Int.natCast_nonneg _) (by omega)
   obtain ⟨A2', hA2⟩ : ∃ A, (if c2 = J then A2 else A2.map (·.add (J * 3))) = A := ⟨_, rfl⟩
   obtain ⟨n2', hn2⟩ : ∃ n, l2.length - J = n := ⟨_, rfl⟩
   obtain ⟨c2', hc2⟩ : ∃ n, c2 - J = n := ⟨_, rfl⟩
   rw [hA2, hn2, hc2] at hcB
   have HA2 := ak_ hA2
   have HN2 := ak_ hn2
   clear hA2 hn2 hc2 hi0 hzz hsz hJ
   clear c
   go_enter Try.func6, Try.ntmps6
   go_wp2_with (first | ((with_reducible refine gate_dst (N := 2) rfl ?_); (refine hand_box (fun g_ W_ => W_.heap[g_]? = some (.cells #[.slice A0 l0.length c0, .slice A1 l1.length c1, .slice A2 l2.length c2] 31 (0, 0)) ∧ w.heap.size ≤ g_ ∧ Below w.heap.size w W_) ?hg (N := 2) ?hd (cs := #[.slice A0 l0.length c0, .slice A1 l1.length c1, .slice A2 l2.length c2]) (t := 31) ?hr ?hF ?_; (case hd => rfl); (case hg => rfl); (case hr => first | (go_simp; done) | (go_simp; rfl)); (case hF => exact ⟨heap_alloc_new _ _, Nat.le_refl _, below_alloc (Below.refl _ _) _⟩); intro gx w1 h1; have H1 := ak_ h1; clear h1)) | ((with_reducible refine gate_dst (N := 4) rfl ?_); (refine hand_box (fun g_ W_ => COs w W_ gx g_ #[.slice A0 l0.length c0, .slice A1 l1.length c1, .slice A2 l2.length c2]) ?hg (N := 4) ?hd (cs := #[.slice none 0 0, .slice none 0 0, .slice none 0 0]) (t := 31) ?hr ?hF ?_; (case hd => rfl); (case hg => rfl); (case hr => first | (go_simp; done) | (go_simp; rfl)); (case hF => exact ⟨blk_alloc H1.out.1 _, heap_alloc_new _ _, Nat.ne_of_lt (blk_lt H1.out.1), H1.out.2.2.size, H1.out.2.1, H1.out.2.2.alloc H1.out.2.2.size _⟩); intro gr w2 h2; have H2 := ak_ h2; clear h2 H1)) | ((with_reducible refine gate_callee (f := 38) rfl ?_); refine goesL_ (some 12) rfl rfl Try.func38 (by kernel_rfl) rfl #[.pointer (some ⟨gx, 0, none⟩), .string a1] rfl ln_ ?_; (refine (spec_l19Named.core k gx A0 c0 l0 A1 c1 l1 A2 c2 l2 a1 _ _ _ H2.out.s.1 H2.out.s.2.1 H2.out.s.2.2 (Kd.C_below HR.out.1 H2.out.below) (Kd.C_below HR.out.2.1 H2.out.below) (Kd.C_below HR.out.2.2 H2.out.below) E1.out).mono ?_); rintro e w3 ⟨rfl, hb⟩; refine ⟨_, rfl, ?_⟩; have H3 := ak_ (H2.out.step hb); clear hb H2) | ((with_reducible refine gate_callee (f := 39) rfl ?_); refine goesL_ (some 19) rfl rfl Try.func39 (by kernel_rfl) rfl #[.pointer (some ⟨gx, 0, none⟩)] rfl ln_ ?_; (refine (spec_l19Own.core gx A0 c0 l0 A1 c1 l1 A2 c2 l2 q0 q1 q2 _ H3.out.xb (Kd.C_below HR.out.1 H3.out.below) (Kd.C_below HR.out.2.1 H3.out.below) (Kd.C_below HR.out.2.2 H3.out.below) E2.out).mono ?_); rintro e w4 ⟨v0, v1, v2, rfl, g0, g1, g2, hb⟩; refine ⟨_, rfl, ?_⟩; obtain ⟨B0, d0, e0⟩ := Kd.R_slice g0; obtain ⟨B1, d1, e1⟩ := Kd.R_slice g1; obtain ⟨B2, d2, e2⟩ := Kd.R_slice g2; subst e0 e1 e2; have G0 := ak_ (Kd.R_lower g0 H3.out.below.size); have G1 := ak_ (Kd.R_lower g1 H3.out.below.size); have H4 := ak_ (H3.out.step hb); clear hb H3 g0 g1 g2) | ((with_reducible refine gate_dst (N := 8) rfl ?_); (refine hand_box (fun g_ W_ => COs w W_ gx gr #[.slice A0 l0.length c0, .slice A1 l1.length c1, .slice A2 l2.length c2] ∧ COg w W_ gx gr g_ (.slice none 0 0) (.slice none 0 0) (.slice none 0 0) [] [] ∧ Kd.R k91 91 W_ w.heap.size (fun _ => True) (.slice B0 q0.length d0) q0 ∧ Kd.R Kd.string 9 W_ w.heap.size (fun _ => True) (.slice B1 q1.length d1) q1) ?hg (N := 8) ?hd (cs := #[.slice none 0 0, .slice none 0 0, .slice none 0 0]) (t := 31) ?hr ?hF ?_; (case hd => rfl); (case hg => rfl); (case hr => first | (go_simp; done) | (go_simp; rfl)); (case hF => have ha := below_alloc (Below.refl w4.heap.size w4) (.cells #[.slice none 0 0, .slice none 0 0, .slice none 0 0] 31 (0, 0)); exact ⟨H4.out.step ha, ⟨heap_alloc_new _ _, H4.out.below.size, Nat.ne_of_lt (blk_lt H4.out.xb), Nat.ne_of_lt (blk_lt H4.out.rb), Kd.R_nil _ _ _ _ _, Kd.R_nil _ _ _ _ _⟩, Kd.R_below G0.out ha, Kd.R_below G1.out ha⟩); intro go w5 h5; have H5 := ak_ h5; clear h5 H4 G0 G1)) | (refine hand_store (fun W_ => COs w W_ gx gr #[.slice A0 l0.length c0, .slice A1 l1.length c1, .slice A2 l2.length c2] ∧ COg w W_ gx gr go (.slice B0 q0.length d0) (.slice B1 q1.length d1) (.slice B2 q2.length d2) q0 q1) (t := 31) (p := 8) (v := .tmp 19) (w1 := ((w5.setCell ⟨go, 0, none⟩ (.slice B0 q0.length d0)).setCell ⟨go, 1, none⟩ (.slice B1 q1.length d1)).setCell ⟨go, 2, none⟩ (.slice B2 q2.length d2)) ?hg rfl ?hN ?hr ?hF ?_; (case hg => rfl); (case hN => rfl); (case hr => have hz0 : w5.cell? ⟨go, 0, none⟩ = some (.slice none 0 0) := (blk_cell H5.out.2.1.blk 0).trans rfl; have hf0 := blk_frozen H5.out.2.1.blk 0; have hz1 : w5.cell? ⟨go, 1, none⟩ = some (.slice none 0 0) := (blk_cell H5.out.2.1.blk 1).trans rfl; have hf1 := blk_frozen H5.out.2.1.blk 1; have hz2 : w5.cell? ⟨go, 2, none⟩ = some (.slice none 0 0) := (blk_cell H5.out.2.1.blk 2).trans rfl; have hf2 := blk_frozen H5.out.2.1.blk 2; first | (go_simp; done) | (go_simp; rfl)); (case hF => exact ⟨((H5.out.1.set H5.out.2.1.nx H5.out.2.1.nr H5.out.2.1.ge _).set H5.out.2.1.nx H5.out.2.1.nr H5.out.2.1.ge _).set H5.out.2.1.nx H5.out.2.1.nr H5.out.2.1.ge _, COg.fill H5.out.2.1 H5.out.2.2.1 H5.out.2.2.2⟩); intro w6 h6; have H6 := ak_ h6; obtain ⟨x0, x1, x2⟩ := h6.1.s; clear h6 H5) | ((with_reducible refine gate_dst (N := 20) rfl ?_); (refine Kd.R_lit k41 (w0 := w6) w6.heap.size 41 ?hg (N := 20) ?hd (xs := ([] : List S41)) (inner := []) (ok := fun _ => True) (okp := fun _ => True) ?hr ?hp (fun _ hk => hk) trivial (Below.refl _ _) (Nat.le_refl _) (by simp) ?_; (case hd => rfl); (case hg => rfl); (case hr => first | (go_simp; done) | (go_simp; rfl)); (case hp => exact (Reps.none _ _)); intro v7 w7 ho hb hg hnew; clear hg hnew; have O7 := ak_ (Kd.R_lower ho H6.out.1.below.size); have H7 := ak_ (And.intro (H6.out.1.step hb) (H6.out.2.step hb)); clear x0 x1 x2; obtain ⟨x0, x1, x2⟩ := H7.out.1.s; clear ho hb H6)) | ((with_reducible refine gate_builtin (b := .append) (xs := #[.tmp 20, .tmp 24]) rfl ?_); at_builtin; (refine Kd.R_append_rows k41 (w0 := w) w.heap.size rfl (.tmp 20) (.tmp 24) 29 41 (.agg #[(.string ⟨#[]⟩), (.string ⟨#[]⟩), (.int .i64 0)]) 40 rfl Try.underlying29 info41 rfl (by decide) (by omega) v7 ([]) (l2.take K) _ _ _ (fun _ => True) (fun _ => False) rfl rfl O7.out (C_take_ (Kd.C_below HR.out.2.2 H7.out.1.below) (Nat.le_of_lt HK.out)) (fun _ _ h => h) (fun _ h => h.elim) (fun _ _ => trivial) H7.out.1.below H7.out.1.below.size ?aL ?_); (case aL => have h1_ := HL.out; have h2_ := HK.out; have h3_ := HJl.out; have h4_ := HN2.out; simp only [List.length_append, List.length_take, List.length_drop, List.length_nil]; omega); intro v8 w8 ho hb hg hat; clear hat; have H8 := ak_ (And.intro (H7.out.1.grown O7.out hg hb) (H7.out.2.grown O7.out hg)); have O8 := ak_ ho; clear x0 x1 x2; obtain ⟨x0, x1, x2⟩ := H8.out.1.s; clear ho hb hg H7 O7) | ((with_reducible refine gate_builtin (b := .append) (xs := #[.tmp 26, .tmp 31]) rfl ?_); at_builtin; (refine Kd.R_append_rows k41 (w0 := w) w.heap.size rfl (.tmp 26) (.tmp 31) 29 41 (.agg #[(.string ⟨#[]⟩), (.string ⟨#[]⟩), (.int .i64 0)]) 40 rfl Try.underlying29 info41 rfl (by decide) (by omega) v8 ([] ++ l2.take K) (l2.drop J) _ _ _ (fun _ => True) (fun _ => False) rfl rfl O8.out (by rw [← HA2.out, ← HN2.out]; exact C_drop_ (c := c2) (Kd.C_below HR.out.2.2 H8.out.1.below) HJl.out HC.out) (fun _ _ h => h) (fun _ h => h.elim) (fun _ _ => trivial) H8.out.1.below H8.out.1.below.size ?aL ?_); (case aL => have h1_ := HL.out; have h2_ := HK.out; have h3_ := HJl.out; have h4_ := HN2.out; simp only [List.length_append, List.length_take, List.length_drop, List.length_nil]; omega); intro v9 w9 ho hb hg hat; clear hat; have H9 := ak_ (And.intro (H8.out.1.grown O8.out hg hb) (H8.out.2.grown O8.out hg)); have O9 := ak_ ho; obtain ⟨B9, d9, e9⟩ := Kd.R_slice ho; subst e9; clear ho hb hg H8 O8) | (refine hand_store (fun W_ => COs w W_ gx gr #[.slice A0 l0.length c0, .slice A1 l1.length c1, .slice A2 l2.length c2] ∧ COg w W_ gx gr go (.slice B0 q0.length d0) (.slice B1 q1.length d1) (.slice B9 ([] ++ l2.take K ++ l2.drop J).length d9) q0 q1 ∧ Kd.R k41 41 W_ w.heap.size (fun _ => True) (.slice B9 ([] ++ l2.take K ++ l2.drop J).length d9) ([] ++ l2.take K ++ l2.drop J)) (t := 29) (p := 33) (v := .tmp 32) (w1 := w9.setCell ⟨go, 2, none⟩ (.slice B9 ([] ++ l2.take K ++ l2.drop J).length d9)) ?hg rfl ?hN ?hr ?hF ?_; (case hg => rfl); (case hN => rfl); (case hr => have hz := H9.out.2.s.2.2; have hf := blk_frozen H9.out.2.blk 2; first | (go_simp; done) | (go_simp; rfl)); (case hF => exact ⟨H9.out.1.set H9.out.2.nx H9.out.2.nr H9.out.2.ge _, H9.out.2.put _, Kd.R_set O9.out H9.out.2.blk (by decide) 2 _⟩); intro w10 h10; have H10 := ak_ h10; obtain ⟨y0, y1, y2⟩ := h10.2.1.s; clear h10 H9 O9 x0 x1 x2) | (refine hand_store (fun W_ => RigInv w.heap.size W_ gr (.slice B0 q0.length d0) (.slice B1 q1.length d1) (.slice B9 ([] ++ l2.take K ++ l2.drop J).length d9) q0 q1 ([] ++ l2.take K ++ l2.drop J) ∧ Below w.heap.size w W_) (t := 31) (p := 4) (v := .tmp 34) (w1 := ((w10.setCell ⟨gr, 0, none⟩ (.slice B0 q0.length d0)).setCell ⟨gr, 1, none⟩ (.slice B1 q1.length d1)).setCell ⟨gr, 2, none⟩ (.slice B9 ([] ++ l2.take K ++ l2.drop J).length d9)) ?hg rfl ?hN ?hr ?hF ?_; (case hg => rfl); (case hN => rfl); (case hr => have hz0 : w10.cell? ⟨gr, 0, none⟩ = some (.slice none 0 0) := (blk_cell H10.out.1.rb 0).trans rfl; have hf0 := blk_frozen H10.out.1.rb 0; have hz1 : w10.cell? ⟨gr, 1, none⟩ = some (.slice none 0 0) := (blk_cell H10.out.1.rb 1).trans rfl; have hf1 := blk_frozen H10.out.1.rb 1; have hz2 : w10.cell? ⟨gr, 2, none⟩ = some (.slice none 0 0) := (blk_cell H10.out.1.rb 2).trans rfl; have hf2 := blk_frozen H10.out.1.rb 2; first | (go_simp; done) | (go_simp; rfl)); (case hF => exact COs.done H10.out.1 H10.out.2.1.r0 H10.out.2.1.r1 H10.out.2.2); intro w11 h11; have H11 := ak_ h11; clear h11 H10 y0 y1 y2))
   refine bodyPost_ret (results_ct rfl _ _ gr 31 #[.slice B0 q0.length d0, .slice B1 q1.length d1, .slice B9 ([] ++ l2.take K ++ l2.drop J).length d9] (0, 0) _ rfl H11.out.1.blk Try.underlying31 rfl (by kernel_rfl)) rfl ?_
   exact ⟨_, _, _, ew_, H11.out.1.r0, H11.out.1.r1, H11.out.1.r2, H11.out.2⟩
  ·rw [if_neg c] at h
   exact absurd h (by simp)
 ·rw [if_neg c] at h
  simp only [Option.some.injEq, Prod.mk.injEq] at h
  obtain ⟨rfl, rfl, rfl, rfl⟩ := h
  have hd1 : (t2 == 0) = false := by simpa using c
  have hd2 : (t2 != 0) = true := by simpa using c
  go_enter Try.func6, Try.ntmps6
  go_wp2_with (first | ((with_reducible refine gate_dst (N := 2) rfl ?_); (refine hand_box (fun g_ W_ => W_.heap[g_]? = some (.cells #[.slice A0 l0.length c0, .slice A1 l1.length c1, .slice A2 l2.length c2] 31 (0, 0)) ∧ w.heap.size ≤ g_ ∧ Below w.heap.size w W_) ?hg (N := 2) ?hd (cs := #[.slice A0 l0.length c0, .slice A1 l1.length c1, .slice A2 l2.length c2]) (t := 31) ?hr ?hF ?_; (case hd => rfl); (case hg => rfl); (case hr => first | (go_simp; done) | (go_simp; rfl)); (case hF => exact ⟨heap_alloc_new _ _, Nat.le_refl _, below_alloc (Below.refl _ _) _⟩); intro gx w1 h1; have H1 := ak_ h1; clear h1)) | ((with_reducible refine gate_dst (N := 4) rfl ?_); (refine hand_box (fun g_ W_ => COs w W_ gx g_ #[.slice A0 l0.length c0, .slice A1 l1.length c1, .slice A2 l2.length c2]) ?hg (N := 4) ?hd (cs := #[.slice none 0 0, .slice none 0 0, .slice none 0 0]) (t := 31) ?hr ?hF ?_; (case hd => rfl); (case hg => rfl); (case hr => first | (go_simp; done) | (go_simp; rfl)); (case hF => exact ⟨blk_alloc H1.out.1 _, heap_alloc_new _ _, Nat.ne_of_lt (blk_lt H1.out.1), H1.out.2.2.size, H1.out.2.1, H1.out.2.2.alloc H1.out.2.2.size _⟩); intro gr w2 h2; have H2 := ak_ h2; clear h2 H1)) | ((with_reducible refine gate_callee (f := 38) rfl ?_); refine goesL_ (some 12) rfl rfl Try.func38 (by kernel_rfl) rfl #[.pointer (some ⟨gx, 0, none⟩), .string a1] rfl ln_ ?_; (refine (spec_l19Named.core k gx A0 c0 l0 A1 c1 l1 A2 c2 l2 a1 _ _ _ H2.out.s.1 H2.out.s.2.1 H2.out.s.2.2 (Kd.C_below HR.out.1 H2.out.below) (Kd.C_below HR.out.2.1 H2.out.below) (Kd.C_below HR.out.2.2 H2.out.below) E1.out).mono ?_); rintro e w3 ⟨rfl, hb⟩; refine ⟨_, rfl, ?_⟩; have H3 := ak_ (H2.out.step hb); clear hb H2) | (refine hand_store (fun W_ => W_.heap[gr]? = some (.cells #[.slice none 0 0, .slice none 0 0, .slice none 0 0] 31 (0, 0)) ∧ Below w.heap.size w W_) (t := 31) (p := 4) (v := .tmp 17) (w1 := ((w3.setCell ⟨gr, 0, none⟩ (.slice none 0 0)).setCell ⟨gr, 1, none⟩ (.slice none 0 0)).setCell ⟨gr, 2, none⟩ (.slice none 0 0)) ?hg rfl ?hN ?hr ?hF ?_; (case hg => rfl); (case hN => rfl); (case hr => have hz0 : w3.cell? ⟨gr, 0, none⟩ = some (.slice none 0 0) := (blk_cell H3.out.rb 0).trans rfl; have hf0 := blk_frozen H3.out.rb 0; have hz1 : w3.cell? ⟨gr, 1, none⟩ = some (.slice none 0 0) := (blk_cell H3.out.rb 1).trans rfl; have hf1 := blk_frozen H3.out.rb 1; have hz2 : w3.cell? ⟨gr, 2, none⟩ = some (.slice none 0 0) := (blk_cell H3.out.rb 2).trans rfl; have hf2 := blk_frozen H3.out.rb 2; first | (go_simp; done) | (go_simp; rfl)); (case hF => exact ⟨by have b1 := blk_set H3.out.rb 0 (.slice none 0 0); have b2 := blk_set b1 1 (.slice none 0 0); exact blk_set b2 2 (.slice none 0 0), set3_below_ H3.out.below H3.out.ge⟩); intro w4 h4; have H4 := ak_ h4; clear h4 H3))
  refine bodyPost_ret (results_ct rfl _ _ gr 31 #[.slice none 0 0, .slice none 0 0, .slice none 0 0] (0, 0) _ rfl H4.out.1 Try.underlying31 rfl (by kernel_rfl)) rfl ?_
  exact ⟨_, _, _, ew_, Kd.R_nil _ _ _ _ _, Kd.R_nil _ _ _ _ _, Kd.R_nil _ _ _ _ _, H4.out.2⟩


/-! ### laws_toRail: function 75 -/
def laws_toRail.f (a0_0 : ByteArray) (a0_1 : ByteArray) (a0_2 : Int) : Option (ByteArray × ByteArray × Int) := some (a0_0, a0_1, a0_2)
set_option maxHeartbeats 8000000 in
set_option maxRecDepth 100000 in
theorem laws_toRail.calls (a0_0 : ByteArray) (a0_1 : ByteArray) (a0_2 : Int) (r1 : ByteArray) (r2 : ByteArray) (r3 : Int) (w : World) (h : laws_toRail.f a0_0 a0_1 a0_2 = some (r1, r2, r3)) :
  Calls Try.prog 75 #[.agg #[.string a0_0, .string a0_1, .int .i64 a0_2]] w fun e w' => e = .returned (.agg #[.string r1, .string r2, .int .i64 r3]) ∧ Below w.heap.size w w' := by
 have hu99 := Try.underlying99
 have hu91 := Try.underlying91
 have HB := ak_ (Below.refl w.heap.size w)
 have H : (some (a0_0, a0_1, a0_2)) = some (r1, r2, r3) := h
 clear h
 simp only [Option.some.injEq, Prod.mk.injEq] at H
 obtain ⟨rfl, rfl, rfl⟩ := H
 go_enter Try.func75, Try.ntmps75
 go_wp2_with (first | ((with_reducible refine gate_dst (N := 1) rfl ?_); refine box_event ?hg (N := 1) ?hd (cs := #[.string a0_0, .string a0_1, .int .i64 a0_2]) (t := 99) ?hr ?_; (case hd => rfl); (case hg => rfl); (case hr => first | (go_simp; done) | (go_simp; rfl)); intro gb133 hg w2 hbox hb; have BK133 := ak_ (hbox); have GW133 := ak_ ((by rw [hg]; exact (below_size hb_) : w.heap.size ≤ gb133)); have GE133 := ak_ ((by rw [hg]; exact (below_size hb_) : w.heap.size ≤ gb133)); replace HB := ak_ (below_step hb_ hb); skip; clear hb hbox hg) | ((with_reducible refine gate_dst (N := 2) rfl ?_); refine box_event ?hg (N := 2) ?hd (cs := #[.string (⟨#[]⟩ : ByteArray), .string (⟨#[]⟩ : ByteArray), .int .i64 0]) (t := 91) ?hr ?_; (case hd => rfl); (case hg => rfl); (case hr => first | (go_simp; done) | (go_simp; rfl)); intro gb134 hg w3 hbox hb; have BK134 := ak_ (hbox); have GW134 := ak_ ((by rw [hg]; exact (below_size (hg_ GE133)) : w.heap.size ≤ gb134)); have GE134 := ak_ ((by rw [hg]; exact (below_size (hg_ GE133)) : w.heap.size ≤ gb134)); replace HB := ak_ (below_step (hg_ GE133) hb); have NB133_134 := ak_ ((by rw [hg]; exact Nat.ne_of_lt (blk_lt (g := gb133) (o := .cells #[.string a0_0, .string a0_1, .int .i64 a0_2] 99 (0, 0)) (bk_ BK133)) : gb133 ≠ gb134)); have NB134_133 := ak_ ((by rw [hg]; exact Nat.ne_of_gt (blk_lt (g := gb133) (o := .cells #[.string a0_0, .string a0_1, .int .i64 a0_2] 99 (0, 0)) (bk_ BK133)) : gb134 ≠ gb133)); replace BK133 := ak_ (blk_below (g := gb133) (o := .cells #[.string a0_0, .string a0_1, .int .i64 a0_2] 99 (0, 0)) (bk_ BK133) hb); skip; clear hb hbox hg) | ((with_reducible refine gate_dst (N := 3) rfl ?_); refine box_event ?hg (N := 3) ?hd (cs := #[.string (⟨#[]⟩ : ByteArray), .string (⟨#[]⟩ : ByteArray), .int .i64 0]) (t := 91) ?hr ?_; (case hd => rfl); (case hg => rfl); (case hr => first | (go_simp; done) | (go_simp; rfl)); intro gb135 hg w4 hbox hb; have BK135 := ak_ (hbox); have GW135 := ak_ ((by rw [hg]; exact (below_size (hg2_ GE133 GE134)) : w.heap.size ≤ gb135)); have GE135 := ak_ ((by rw [hg]; exact (below_size (hg2_ GE133 GE134)) : w.heap.size ≤ gb135)); replace HB := ak_ (below_step (hg2_ GE133 GE134) hb); have NB133_135 := ak_ ((by rw [hg]; exact Nat.ne_of_lt (blk_lt (g := gb133) (o := .cells #[.string a0_0, .string a0_1, .int .i64 a0_2] 99 (0, 0)) (bk_ BK133)) : gb133 ≠ gb135)); have NB135_133 := ak_ ((by rw [hg]; exact Nat.ne_of_gt (blk_lt (g := gb133) (o := .cells #[.string a0_0, .string a0_1, .int .i64 a0_2] 99 (0, 0)) (bk_ BK133)) : gb135 ≠ gb133)); replace BK133 := ak_ (blk_below (g := gb133) (o := .cells #[.string a0_0, .string a0_1, .int .i64 a0_2] 99 (0, 0)) (bk_ BK133) hb); have NB134_135 := ak_ ((by rw [hg]; exact Nat.ne_of_lt (blk_lt (g := gb134) (o := .cells #[.string (⟨#[]⟩ : ByteArray), .string (⟨#[]⟩ : ByteArray), .int .i64 0] 91 (0, 0)) (bk_ BK134)) : gb134 ≠ gb135)); have NB135_134 := ak_ ((by rw [hg]; exact Nat.ne_of_gt (blk_lt (g := gb134) (o := .cells #[.string (⟨#[]⟩ : ByteArray), .string (⟨#[]⟩ : ByteArray), .int .i64 0] 91 (0, 0)) (bk_ BK134)) : gb135 ≠ gb134)); replace BK134 := ak_ (blk_below (g := gb134) (o := .cells #[.string (⟨#[]⟩ : ByteArray), .string (⟨#[]⟩ : ByteArray), .int .i64 0] 91 (0, 0)) (bk_ BK134) hb); skip; clear hb hbox hg; have hnb5 := NB133_134.out; have hnc5 := NB134_133.out; have hnb6 := NB133_135.out; have hnc6 := NB135_133.out; have hcz7_0 : w4.cell? ⟨gb133, 0, none⟩ = some (.string a0_0) := (blk_cell BK133.out 0).trans rfl; have hcz7_1 : w4.cell? ⟨gb133, 1, none⟩ = some (.string a0_1) := (blk_cell BK133.out 1).trans rfl; have hcz7_2 : w4.cell? ⟨gb133, 2, none⟩ = some (.int .i64 a0_2) := (blk_cell BK133.out 2).trans rfl; have hfz7_0 := blk_frozen BK133.out 0; have hfz7_1 := blk_frozen BK133.out 1; have hfz7_2 := blk_frozen BK133.out 2; have hnb8 := NB135_134.out; have hnc8 := NB134_135.out; have hcz9_0 : w4.cell? ⟨gb135, 0, none⟩ = some (.string (⟨#[]⟩ : ByteArray)) := (blk_cell BK135.out 0).trans rfl; have hcz9_1 : w4.cell? ⟨gb135, 1, none⟩ = some (.string (⟨#[]⟩ : ByteArray)) := (blk_cell BK135.out 1).trans rfl; have hcz9_2 : w4.cell? ⟨gb135, 2, none⟩ = some (.int .i64 0) := (blk_cell BK135.out 2).trans rfl; have hfz9_0 := blk_frozen BK135.out 0; have hfz9_1 := blk_frozen BK135.out 1; have hfz9_2 := blk_frozen BK135.out 2; have hcz10_0 : w4.cell? ⟨gb134, 0, none⟩ = some (.string (⟨#[]⟩ : ByteArray)) := (blk_cell BK134.out 0).trans rfl; have hcz10_1 : w4.cell? ⟨gb134, 1, none⟩ = some (.string (⟨#[]⟩ : ByteArray)) := (blk_cell BK134.out 1).trans rfl; have hcz10_2 : w4.cell? ⟨gb134, 2, none⟩ = some (.int .i64 0) := (blk_cell BK134.out 2).trans rfl; have hfz10_0 := blk_frozen BK134.out 0; have hfz10_1 := blk_frozen BK134.out 1; have hfz10_2 := blk_frozen BK134.out 2))
 refine bodyPost_ret (results_cell_row rfl _ _ gb134 91 #[.string a0_0, .string a0_1, .int .i64 a0_2] (0, 0) _ rfl (by (with_reducible repeat (first | refine blk_drewN ?_ _ | refine blk_drew ?_ | refine blk_alloc ?_ _)); refine blk_put (cs := #[.string a0_0, .string a0_1, .int .i64 0]) ?_ 2 _ rfl; (with_reducible repeat (first | refine blk_drewN ?_ _ | refine blk_drew ?_ | refine blk_alloc ?_ _)); refine blk_put (cs := #[.string a0_0, .string (⟨#[]⟩ : ByteArray), .int .i64 0]) ?_ 1 _ rfl; (with_reducible repeat (first | refine blk_drewN ?_ _ | refine blk_drew ?_ | refine blk_alloc ?_ _)); refine blk_put (cs := #[.string (⟨#[]⟩ : ByteArray), .string (⟨#[]⟩ : ByteArray), .int .i64 0]) ?_ 0 _ rfl; (with_reducible repeat (first | refine blk_drewN ?_ _ | refine blk_drew ?_ | refine blk_alloc ?_ _)); refine blk_far ?_ NB134_135.out _; (with_reducible repeat (first | refine blk_drewN ?_ _ | refine blk_drew ?_ | refine blk_alloc ?_ _)); refine blk_far ?_ NB134_135.out _; (with_reducible repeat (first | refine blk_drewN ?_ _ | refine blk_drew ?_ | refine blk_alloc ?_ _)); refine blk_far ?_ NB134_135.out _; (with_reducible repeat (first | refine blk_drewN ?_ _ | refine blk_drew ?_ | refine blk_alloc ?_ _)); exact BK134.out) Try.underlying91 rfl (by kernel_rfl)) rfl ?_
 exact ⟨ew_, by repeat (first | (with_reducible first | exact HB.out | apply below_alloc | apply pw_below_drewN | apply below_drew1 | refine below_set ?_ GE133.out | refine below_set ?_ GE134.out | refine below_set ?_ GE135.out) | exact HB.out)⟩

/-! ### laws_toRailS: function 40 -/
def laws_toRailS.l0 : Nat → List (S99) → List (S91) → Int → Option ((List (S91)))
 | 0, _, _, _ => none
 | k + 1, x0, x3, x4 => if x4 < (x0.length : Int) then (if 0 ≤ x4 then ((laws_toRail.f ((rd_T99 x0 x4).f0) ((rd_T99 x0 x4).f1) ((rd_T99 x0 x4).f2)).bind fun bt140 => (if x4 < (x3.length : Int) then (laws_toRailS.l0 k x0 (x3.set (x4 : Int).toNat (⟨bt140.1, bt140.2.1, bt140.2.2⟩ : S91)) (wrap64 (x4 + 1))) else (none))) else (none)) else (some x3)
def laws_toRailS.f (k : Nat) (l0 : List (S99)) : Option ((List (S91))) := if 0 ≤ (l0.length : Int) then (if ((l0.length : Int) : Int).toNat ≤ 7036874417766 then (laws_toRailS.l0 k l0 (List.replicate ((l0.length : Int) : Int).toNat z91) 0) else (none)) else (none)
set_option maxHeartbeats 8000000 in
set_option maxRecDepth 100000 in
theorem laws_toRailS.calls (k : Nat) (A0 : Option Addr) (c0 : Nat) (l0 : List (S99)) (r : List (S91)) (w : World) (hr0 : Kd.C k99 w A0 l0.length l0) (hc0 : l0.length ≤ c0) (h : laws_toRailS.f k l0 = some r) :
  Calls Try.prog 40 #[.slice A0 l0.length c0] w fun e w' => ∃ v0_ : Value, e = .returned (v0_) ∧ Kd.R k91 91 w' w.heap.size (fun _ => True) v0_ r ∧ Below w.heap.size w w' := by
 have hu99 := Try.underlying99
 have hu91 := Try.underlying91
 have HR0 := ak_ hr0
 have HC0 := ak_ hc0
 clear hr0 hc0
 have HB := ak_ (Below.refl w.heap.size w)
 have H : (if 0 ≤ (l0.length : Int) then (if ((l0.length : Int) : Int).toNat ≤ 7036874417766 then (laws_toRailS.l0 k l0 (List.replicate ((l0.length : Int) : Int).toNat z91) 0) else (none)) else (none)) = some r := h
 clear h
 by_cases c2 : 0 ≤ (l0.length : Int)
 ·rw [if_pos c2] at H
  have c2b0 := eq_true c2
  have c2b1 : decide (0 ≤ (l0.length : Int)) = true := dt_ c2
  clear c2
  by_cases c3 : ((l0.length : Int) : Int).toNat ≤ 7036874417766
  ·rw [if_pos c3] at H
   have c3b0 := eq_true c3
   have c3b1 : decide (((l0.length : Int) : Int).toNat ≤ 7036874417766) = true := dt_ c3
   clear c3
   obtain ⟨y136, hy136⟩ : ∃ y_ : List (S91), y_ = (List.replicate ((l0.length : Int) : Int).toNat z91) := ⟨_, rfl⟩
   replace H : (laws_toRailS.l0 k l0 y136 0) = some r := by first | (rw [hy136]; with_reducible exact H) | (have H2_ := (Option.bind_some _ _).symm.trans H; rw [hy136]; with_reducible exact H2_) | (have H2_ := (Option.bind_some _ _).symm.trans H; with_reducible exact H2_) | with_reducible exact H | (rw [hy136]; exact H) | exact H
   have Ny136 := ak_ hy136
   clear hy136
   have H' := ak_ H
   clear H
   go_enter Try.func40, Try.ntmps40
   go_wp2_with (first | ((with_reducible refine gate_dst (N := 7) rfl ?_); refine Kd.R_make k91 _ 91 rfl (N := 7) rfl 28 _ _ rfl (l0.length : Int) rfl rfl Try.underlying28 (.agg #[(.string ⟨#[]⟩), (.string ⟨#[]⟩), (.int .i64 0)]) 40 info91 rfl (by decide) (by omega) z91 (ok := fun _ => True) (okp := fun _ => True) (k91_mkM _ _ _ z91 ) (fun _ hk => hk) trivial (od_) (Nat.le_trans (Nat.mul_le_mul_right _ (od_ : (l0.length : Int).toNat ≤ 7036874417766)) (by omega)) (Below.refl _ _) (Nat.le_refl _) ?_; intro v137 w4 ho5 hb hg_ hnew_; clear hg_ hnew_; (first | rw [← Ny136.out] at ho5 | (simp only [Int.reduceToNat] at ho5; rw [← Ny136.out] at ho5)); have HO138 := ak_ (Kd.R_lower ho5 (below_size hb_)); replace HB := ak_ (below_step hb_ hb); skip; clear hb ho5))
   go_loopg [4] k (fun kq v4 w' => ∃ (x3_1 : List (S91)) (x4_1 : Int), v4 = .int .i64 x4_1 ∧ Aside0 (laws_toRailS.l0 kq l0 x3_1 x4_1 = some r) ∧ Aside0 (kq ≤ k) ∧ Aside0 (Kd.R k91 91 w' w.heap.size (fun _ => True) v137 x3_1) ∧ Aside0 (Below w.heap.size w w'))
   case atStart => exact ⟨(y136), (0), fr_, H', ⟨Nat.le_refl _⟩, ⟨kr_ HO138⟩, ⟨hb_⟩⟩
   case round =>
    clear H'
    try clear c2
    try clear c2b0
    try clear c2b1
    try clear p2
    try clear c3
    try clear c3b0
    try clear c3b1
    try clear c4
    obtain ⟨x3_1, x4_1, rfl, HA, HK1, HO_3, HB⟩ := hrel
    cases gk with
    | zero => exact absurd HA.out (by simp [laws_toRailS.l0])
    | succ k1 =>
     have H := HA.out
     clear HA
     simp only [laws_toRailS.l0] at H
     by_cases c6 : x4_1 < (l0.length : Int)
     ·rw [if_pos c6] at H
      have c6b0 : decide (x4_1 < (l0.length : Int)) = true := dt_ c6
      clear c6
      by_cases c7 : 0 ≤ x4_1
      ·rw [if_pos c7] at H
       have c7b0 : decide (0 ≤ x4_1) = true := dt_ c7
       clear c7
       replace H := ob_ H
       obtain ⟨⟨t140, t141, t142⟩, A80, H⟩ := H
       (try dsimp only at H)
       have A8 := ak_ A80
       clear A80
       by_cases c9 : x4_1 < (x3_1.length : Int)
       ·rw [if_pos c9] at H
        have c9b0 : decide (x4_1 < (x3_1.length : Int)) = true := dt_ c9
        clear c9
        obtain ⟨y143, hy143⟩ : ∃ y_ : List (S91), y_ = (x3_1.set (x4_1 : Int).toNat (⟨t140, t141, t142⟩ : S91)) := ⟨_, rfl⟩
        replace H : (laws_toRailS.l0 k1 l0 y143 (wrap64 (x4_1 + 1))) = some r := by first | (rw [hy143]; with_reducible exact H) | (have H2_ := (Option.bind_some _ _).symm.trans H; rw [hy143]; with_reducible exact H2_) | (have H2_ := (Option.bind_some _ _).symm.trans H; with_reducible exact H2_) | with_reducible exact H | (rw [hy143]; exact H) | exact H
        have Ny143 := ak_ hy143
        clear hy143
        have H' := ak_ H
        clear H
        have p139 : 0 ≤ (x4_1 : Int) := od_
        have q139 : x4_1 < (l0.length : Int) := od_
        obtain ⟨ad139, e139, hx139_0, hx139_1, hx139_2⟩ := at_T99 HR0.out x4_1 p139 q139
        cases e139
        replace hx139_0 := cq_ HB hx139_0
        replace hx139_1 := cq_ HB hx139_1
        replace hx139_2 := cq_ HB hx139_2
        replace p139 := eq_true p139
        replace q139 := eq_true q139
        go_wp2_with (first | ((with_reducible refine gate_callee (f := 75) rfl ?_); refine goesL_ (some 20) rfl rfl Try.func75 (by kernel_rfl) rfl #[.agg #[.string ((rd_T99 l0 x4_1).f0), .string ((rd_T99 l0 x4_1).f1), .int .i64 ((rd_T99 l0 x4_1).f2)]] rfl ln_ ?_; (with_reducible refine (laws_toRail.calls ((rd_T99 l0 x4_1).f0) ((rd_T99 l0 x4_1).f1) ((rd_T99 l0 x4_1).f2) t140 t141 t142 _ A8.out).mono ?_); rintro e w11 ⟨rfl, hb⟩; refine ⟨_, rfl, ?_⟩; replace HO_3 := ak_ (Kd.R_below (kr_ HO_3) hb); replace HB := ak_ (below_step hb_ hb); skip; (try clear hb); (try clear hb2); (try clear hk); (try clear hi); have p10 : 0 ≤ (x4_1 : Int) := od_; have q10 : (x4_1 : Int) < ((x3_1.length : Int) : Int) := od_; obtain ⟨go10, co10, eo10, gb10, gl10, cl10, HG10⟩ := Kd.R_form HO_3.out (by omega); (first | cases eo10 | (injection eo10 with ea_ en_ ec_; (first | subst ea_ | (injection ea_ with ea_; subst ea_)); subst ec_; clear en_)); have GB10 := ak_ gb10; have GG10 := ak_ HG10; clear gb10 gl10 HG10; obtain ⟨ce10, hcl10, hM10, hcc10, hfr10⟩ := Kd.R_elem HO_3.out z91 (x4_1 : Int) p10 q10; obtain rfl := k91_openM hM10; have hx10_0 : w11.cell? ⟨go10, (x4_1 : Int).toNat * 3, none⟩ = some (.string ((rd_T91 x3_1 x4_1).f0)) := hcc10 0 _ rfl; have hx10_1 : w11.cell? ⟨go10, (x4_1 : Int).toNat * 3 + 1, none⟩ = some (.string ((rd_T91 x3_1 x4_1).f1)) := hcc10 1 _ rfl; have hx10_2 : w11.cell? ⟨go10, (x4_1 : Int).toNat * 3 + 2, none⟩ = some (.int .i64 ((rd_T91 x3_1 x4_1).f2)) := hcc10 2 _ rfl; have hf10_0 : w11.frozen? ⟨go10, (x4_1 : Int).toNat * 3, none⟩ = false := hfr10 0; have hf10_1 : w11.frozen? ⟨go10, (x4_1 : Int).toNat * 3 + 1, none⟩ = false := hfr10 1; have hf10_2 : w11.frozen? ⟨go10, (x4_1 : Int).toNat * 3 + 2, none⟩ = false := hfr10 2; (try clear hcl10); (try clear hcc10); (try clear hfr10); (try clear hM10); replace p10 := eq_true p10; replace q10 := eq_true q10; have HX12 := ak_ (show Kd.R k91 91 w11 w.heap.size (fun _ => True) (.slice (some ⟨go10, 0, none⟩) x3_1.length co10) x3_1 from (kr_ HO_3)); obtain ⟨ce12, hcl12, hM12, hcc12, hfr12⟩ := Kd.R_elem HX12.out z91 (x4_1 : Int) (od_) (by have h_ : (x4_1 : Int) < ((x3_1.length : Int) : Int) := od_; first | exact h_ | (have e_ := (Kd.R_reads' HO_3.out).1; omega) | simpa using h_); obtain rfl := k91_openM hM12; have HP12 := Kd.R_seg HX12.out (x4_1 : Int) (od_) (by have h_ : (x4_1 : Int) < ((x3_1.length : Int) : Int) := od_; first | exact h_ | (have e_ := (Kd.R_reads' HO_3.out).1; omega) | simpa using h_) (seg := [.string t140, .string t141, .int .i64 t142]) (j := 0) hcl12 hcc12 (show 3 ≤ 3 from by decide) (x' := (⟨t140, t141, t142⟩ : S91)) (k91_mkM _ _ _ (⟨t140, t141, t142⟩ : S91) ) (fun _ hk => hk); have hx12_0 := hcc12 0 _ rfl; (try simp only [show (k91).sz = 3 from rfl, Nat.mul_one, Nat.add_zero] at hx12_0); have hf12_0 := hfr12 0; (try simp only [show (k91).sz = 3 from rfl, Nat.mul_one, Nat.add_zero] at hf12_0); have hx12_1 := hcc12 1 _ rfl; (try simp only [show (k91).sz = 3 from rfl, Nat.mul_one, Nat.add_zero] at hx12_1); have hf12_1 := hfr12 1; (try simp only [show (k91).sz = 3 from rfl, Nat.mul_one, Nat.add_zero] at hf12_1); have hx12_2 := hcc12 2 _ rfl; (try simp only [show (k91).sz = 3 from rfl, Nat.mul_one, Nat.add_zero] at hx12_2); have hf12_2 := hfr12 2; (try simp only [show (k91).sz = 3 from rfl, Nat.mul_one, Nat.add_zero] at hf12_2); (try clear hcl12); (try clear hcc12); (try clear hfr12); (try clear hM12)) | ((with_reducible refine gate_store (t := 91) (p := 21) rfl ?_); refine store_event (t := 91) (p := 21) (v := ?vo_w13) (w1 := (((w11.setCell ⟨go10, (x4_1 : Int).toNat * 3, none⟩ (.string t140)).setCell ⟨go10, (x4_1 : Int).toNat * 3 + 1, none⟩ (.string t141)).setCell ⟨go10, (x4_1 : Int).toNat * 3 + 2, none⟩ (.int .i64 t142))) ?hg ?ho ?hn ?hr ?_; (case ho => rfl); (case hg => rfl); (case hn => rfl); (case hr => first | (go_simp; done) | (go_simp; rfl)); intro w13 hw; have hg : w11.grownBy w13 (some go10) := (by rw [hw]; exact HP12.2); have hp_ : Kd.R k91 91 w13 w.heap.size (fun _ => True) (.slice (some ⟨go10, 0, none⟩) x3_1.length co10) y143 := (by rw [hw, Ny143.out]; exact HP12.1); clear HP12; replace HO_3 := ak_ (hp_); replace HB := ak_ ((by rw [hw]; exact below_set (below_set (below_set (HB.out) GB10.out) GB10.out) GB10.out : Below w.heap.size w w13)); skip; clear hg hw hp_))
        go_roundg k1
        case measure => have := HK1.out; omega
        case rel => exact ⟨(y143), (wrap64 (x4_1 + 1)), fr_, H', ⟨by have := HK1.out; omega⟩, ⟨kr_ HO_3⟩, ⟨hb_⟩⟩
       ·rw [if_neg c9] at H
        exact absurd H (by simp)
      ·rw [if_neg c7] at H
       exact absurd H (by simp)
     ·rw [if_neg c6] at H
      have c6b0 : decide (x4_1 < (l0.length : Int)) = false := decide_eq_false c6
      clear c6
      obtain rfl := Option.some.inj H
      go_wp2
      go_ret
      exact ⟨_, ew_, by (with_reducible repeat (first | apply Kd.R_alloc | apply Kd.R_drewN | apply Kd.R_drew)); exact HO_3.out, hb_⟩
  ·rw [if_neg c3] at H
   exact absurd H (by simp)
 ·rw [if_neg c2] at H
  exact absurd H (by simp)

/-! ### laws_toStringS: function 41 -/
def laws_toStringS.l0 : Nat → List ByteArray → List ByteArray → Int → Option (List ByteArray)
 | 0, _, _, _ => none
 | k + 1, x0, x3, x4 => if x4 < (x0.length : Int) then (if 0 ≤ x4 then (if x4 < (x3.length : Int) then (laws_toStringS.l0 k x0 (x3.set (x4 : Int).toNat (rdOf ByteArray.empty x0 x4)) (wrap64 (x4 + 1))) else (none)) else (none)) else (some x3)
def laws_toStringS.f (k : Nat) (l0 : List ByteArray) : Option (List ByteArray) := if 0 ≤ (l0.length : Int) then (if ((l0.length : Int) : Int).toNat ≤ 17592186044416 then (laws_toStringS.l0 k l0 (List.replicate ((l0.length : Int) : Int).toNat (⟨#[]⟩ : ByteArray)) 0) else (none)) else (none)
set_option maxHeartbeats 8000000 in
set_option maxRecDepth 100000 in
theorem laws_toStringS.calls (k : Nat) (A0 : Option Addr) (c0 : Nat) (l0 : List ByteArray) (r : List ByteArray) (w : World) (hr0 : Kd.C Kd.string w A0 l0.length l0) (hc0 : l0.length ≤ c0) (h : laws_toStringS.f k l0 = some r) :
  Calls Try.prog 41 #[.slice A0 l0.length c0] w fun e w' => ∃ v0_ : Value, e = .returned (v0_) ∧ Kd.R Kd.string 9 w' w.heap.size (fun _ => True) v0_ r ∧ Below w.heap.size w w' := by
 have HR0 := ak_ hr0
 have HC0 := ak_ hc0
 clear hr0 hc0
 have HB := ak_ (Below.refl w.heap.size w)
 have H : (if 0 ≤ (l0.length : Int) then (if ((l0.length : Int) : Int).toNat ≤ 17592186044416 then (laws_toStringS.l0 k l0 (List.replicate ((l0.length : Int) : Int).toNat (⟨#[]⟩ : ByteArray)) 0) else (none)) else (none)) = some r := h
 clear h
 by_cases c2 : 0 ≤ (l0.length : Int)
 ·rw [if_pos c2] at H
  have c2b0 := eq_true c2
  have c2b1 : decide (0 ≤ (l0.length : Int)) = true := dt_ c2
  clear c2
  by_cases c3 : ((l0.length : Int) : Int).toNat ≤ 17592186044416
  ·rw [if_pos c3] at H
   have c3b0 := eq_true c3
   have c3b1 : decide (((l0.length : Int) : Int).toNat ≤ 17592186044416) = true := dt_ c3
   clear c3
   obtain ⟨y144, hy144⟩ : ∃ y_ : List ByteArray, y_ = (List.replicate ((l0.length : Int) : Int).toNat (⟨#[]⟩ : ByteArray)) := ⟨_, rfl⟩
   replace H : (laws_toStringS.l0 k l0 y144 0) = some r := by first | (rw [hy144]; with_reducible exact H) | (have H2_ := (Option.bind_some _ _).symm.trans H; rw [hy144]; with_reducible exact H2_) | (have H2_ := (Option.bind_some _ _).symm.trans H; with_reducible exact H2_) | with_reducible exact H | (rw [hy144]; exact H) | exact H
   have Ny144 := ak_ hy144
   clear hy144
   have H' := ak_ H
   clear H
   go_enter Try.func41, Try.ntmps41
   go_wp2_with (first | ((with_reducible refine gate_dst (N := 7) rfl ?_); refine Kd.R_make Kd.string _ 9 rfl (N := 7) rfl 23 _ _ rfl (l0.length : Int) rfl rfl Try.underlying23 (.string ⟨#[]⟩) 16 info9 rfl (by decide) (by omega) (⟨#[]⟩ : ByteArray) (ok := fun _ => True) (okp := fun _ => True) rfl (fun _ hk => hk) trivial (od_) (Nat.le_trans (Nat.mul_le_mul_right _ (od_ : (l0.length : Int).toNat ≤ 17592186044416)) (by omega)) (Below.refl _ _) (Nat.le_refl _) ?_; intro v145 w4 ho5 hb hg_ hnew_; clear hg_ hnew_; (first | rw [← Ny144.out] at ho5 | (simp only [Int.reduceToNat] at ho5; rw [← Ny144.out] at ho5)); have HO146 := ak_ (Kd.R_lower ho5 (below_size hb_)); replace HB := ak_ (below_step hb_ hb); skip; clear hb ho5))
   go_loopg [4] k (fun kq v4 w' => ∃ (x3_1 : List ByteArray) (x4_1 : Int), v4 = .int .i64 x4_1 ∧ Aside0 (laws_toStringS.l0 kq l0 x3_1 x4_1 = some r) ∧ Aside0 (kq ≤ k) ∧ Aside0 (Kd.R Kd.string 9 w' w.heap.size (fun _ => True) v145 x3_1) ∧ Aside0 (Below w.heap.size w w'))
   case atStart => exact ⟨(y144), (0), fr_, H', ⟨Nat.le_refl _⟩, ⟨kr_ HO146⟩, ⟨hb_⟩⟩
   case round =>
    clear H'
    try clear c2
    try clear c2b0
    try clear c2b1
    try clear p2
    try clear c3
    try clear c3b0
    try clear c3b1
    try clear c4
    obtain ⟨x3_1, x4_1, rfl, HA, HK1, HO_3, HB⟩ := hrel
    cases gk with
    | zero => exact absurd HA.out (by simp [laws_toStringS.l0])
    | succ k1 =>
     have H := HA.out
     clear HA
     simp only [laws_toStringS.l0] at H
     by_cases c6 : x4_1 < (l0.length : Int)
     ·rw [if_pos c6] at H
      have c6b0 : decide (x4_1 < (l0.length : Int)) = true := dt_ c6
      clear c6
      by_cases c7 : 0 ≤ x4_1
      ·rw [if_pos c7] at H
       have c7b0 : decide (0 ≤ x4_1) = true := dt_ c7
       clear c7
       by_cases c8 : x4_1 < (x3_1.length : Int)
       ·rw [if_pos c8] at H
        have c8b0 : decide (x4_1 < (x3_1.length : Int)) = true := dt_ c8
        clear c8
        obtain ⟨y148, hy148⟩ : ∃ y_ : List ByteArray, y_ = (x3_1.set (x4_1 : Int).toNat (rdOf ByteArray.empty l0 x4_1)) := ⟨_, rfl⟩
        replace H : (laws_toStringS.l0 k1 l0 y148 (wrap64 (x4_1 + 1))) = some r := by first | (rw [hy148]; with_reducible exact H) | (have H2_ := (Option.bind_some _ _).symm.trans H; rw [hy148]; with_reducible exact H2_) | (have H2_ := (Option.bind_some _ _).symm.trans H; with_reducible exact H2_) | with_reducible exact H | (rw [hy148]; exact H) | exact H
        have Ny148 := ak_ hy148
        clear hy148
        have H' := ak_ H
        clear H
        have p147 : 0 ≤ (x4_1 : Int) := od_
        have q147 : x4_1 < (l0.length : Int) := od_
        obtain ⟨ad147, e147, hx147_0⟩ := Kd.at_string HR0.out x4_1 p147 q147
        cases e147
        replace hx147_0 := cq_ HB hx147_0
        replace p147 := eq_true p147
        replace q147 := eq_true q147
        have p9 : 0 ≤ (x4_1 : Int) := od_
        have q9 : (x4_1 : Int) < ((x3_1.length : Int) : Int) := od_
        obtain ⟨go9, co9, eo9, gb9, gl9, cl9, HG9⟩ := Kd.R_form HO_3.out (by omega)
        (first | cases eo9 | (injection eo9 with ea_ en_ ec_; (first | subst ea_ | (injection ea_ with ea_; subst ea_)); subst ec_; clear en_))
        have GB9 := ak_ gb9
        have GG9 := ak_ HG9
        clear gb9 gl9 HG9
        obtain ⟨hx9_0, hf9_0⟩ := Kd.R_celln (⟨#[]⟩ : ByteArray) HO_3.out (x4_1 : Int) p9 q9
        replace p9 := eq_true p9
        replace q9 := eq_true q9
        have HP10 := Kd.R_putg HO_3.out (x4_1 : Int) (rdOf ByteArray.empty l0 x4_1)
        go_wp2_with (first | ((with_reducible refine gate_store (t := 9) (p := 20) rfl ?_); refine store_event (t := 9) (p := 20) (v := ?vo_w11) (w1 := (wr.setCell ⟨go9, (x4_1 : Int).toNat, none⟩ (.string (rdOf ByteArray.empty l0 x4_1)))) ?hg ?ho ?hn ?hr ?_; (case ho => rfl); (case hg => rfl); (case hn => rfl); (case hr => first | (go_simp; done) | (go_simp; rfl)); intro w11 hw; have hg : wr.grownBy w11 (some go9) := (by rw [hw]; exact HP10.2); have hp_ : Kd.R Kd.string 9 w11 w.heap.size (fun _ => True) (.slice (some ⟨go9, 0, none⟩) x3_1.length co9) y148 := (by rw [hw, Ny148.out]; exact HP10.1); clear HP10; replace HO_3 := ak_ (hp_); replace HB := ak_ ((by rw [hw]; exact below_set (HB.out) GB9.out : Below w.heap.size w w11)); skip; clear hg hw hp_))
        go_roundg k1
        case measure => have := HK1.out; omega
        case rel => exact ⟨(y148), (wrap64 (x4_1 + 1)), fr_, H', ⟨by have := HK1.out; omega⟩, ⟨kr_ HO_3⟩, ⟨hb_⟩⟩
       ·rw [if_neg c8] at H
        exact absurd H (by simp)
      ·rw [if_neg c7] at H
       exact absurd H (by simp)
     ·rw [if_neg c6] at H
      have c6b0 : decide (x4_1 < (l0.length : Int)) = false := decide_eq_false c6
      clear c6
      obtain rfl := Option.some.inj H
      go_wp2
      go_ret
      exact ⟨_, ew_, by (with_reducible repeat (first | apply Kd.R_alloc | apply Kd.R_drewN | apply Kd.R_drew)); exact HO_3.out, hb_⟩
  ·rw [if_neg c3] at H
   exact absurd H (by simp)
 ·rw [if_neg c2] at H
  exact absurd H (by simp)

/-! ### laws_toBelay: function 76 -/
def laws_toBelay.f (a0_0 : ByteArray) (a0_1 : ByteArray) (a0_2 : Int) : Option (ByteArray × ByteArray × Int) := some (a0_0, a0_1, a0_2)
set_option maxHeartbeats 8000000 in
set_option maxRecDepth 100000 in
theorem laws_toBelay.calls (a0_0 : ByteArray) (a0_1 : ByteArray) (a0_2 : Int) (r1 : ByteArray) (r2 : ByteArray) (r3 : Int) (w : World) (h : laws_toBelay.f a0_0 a0_1 a0_2 = some (r1, r2, r3)) :
  Calls Try.prog 76 #[.agg #[.string a0_0, .string a0_1, .int .i64 a0_2]] w fun e w' => e = .returned (.agg #[.string r1, .string r2, .int .i64 r3]) ∧ Below w.heap.size w w' := by
 have hu101 := Try.underlying101
 have hu41 := Try.underlying41
 have HB := ak_ (Below.refl w.heap.size w)
 have H : (some (a0_0, a0_1, a0_2)) = some (r1, r2, r3) := h
 clear h
 simp only [Option.some.injEq, Prod.mk.injEq] at H
 obtain ⟨rfl, rfl, rfl⟩ := H
 go_enter Try.func76, Try.ntmps76
 go_wp2_with (first | ((with_reducible refine gate_dst (N := 1) rfl ?_); refine box_event ?hg (N := 1) ?hd (cs := #[.string a0_0, .string a0_1, .int .i64 a0_2]) (t := 101) ?hr ?_; (case hd => rfl); (case hg => rfl); (case hr => first | (go_simp; done) | (go_simp; rfl)); intro gb149 hg w2 hbox hb; have BK149 := ak_ (hbox); have GW149 := ak_ ((by rw [hg]; exact (below_size hb_) : w.heap.size ≤ gb149)); have GE149 := ak_ ((by rw [hg]; exact (below_size hb_) : w.heap.size ≤ gb149)); replace HB := ak_ (below_step hb_ hb); skip; clear hb hbox hg) | ((with_reducible refine gate_dst (N := 2) rfl ?_); refine box_event ?hg (N := 2) ?hd (cs := #[.string (⟨#[]⟩ : ByteArray), .string (⟨#[]⟩ : ByteArray), .int .i64 0]) (t := 41) ?hr ?_; (case hd => rfl); (case hg => rfl); (case hr => first | (go_simp; done) | (go_simp; rfl)); intro gb150 hg w3 hbox hb; have BK150 := ak_ (hbox); have GW150 := ak_ ((by rw [hg]; exact (below_size (hg_ GE149)) : w.heap.size ≤ gb150)); have GE150 := ak_ ((by rw [hg]; exact (below_size (hg_ GE149)) : w.heap.size ≤ gb150)); replace HB := ak_ (below_step (hg_ GE149) hb); have NB149_150 := ak_ ((by rw [hg]; exact Nat.ne_of_lt (blk_lt (g := gb149) (o := .cells #[.string a0_0, .string a0_1, .int .i64 a0_2] 101 (0, 0)) (bk_ BK149)) : gb149 ≠ gb150)); have NB150_149 := ak_ ((by rw [hg]; exact Nat.ne_of_gt (blk_lt (g := gb149) (o := .cells #[.string a0_0, .string a0_1, .int .i64 a0_2] 101 (0, 0)) (bk_ BK149)) : gb150 ≠ gb149)); replace BK149 := ak_ (blk_below (g := gb149) (o := .cells #[.string a0_0, .string a0_1, .int .i64 a0_2] 101 (0, 0)) (bk_ BK149) hb); skip; clear hb hbox hg) | ((with_reducible refine gate_dst (N := 3) rfl ?_); refine box_event ?hg (N := 3) ?hd (cs := #[.string (⟨#[]⟩ : ByteArray), .string (⟨#[]⟩ : ByteArray), .int .i64 0]) (t := 41) ?hr ?_; (case hd => rfl); (case hg => rfl); (case hr => first | (go_simp; done) | (go_simp; rfl)); intro gb151 hg w4 hbox hb; have BK151 := ak_ (hbox); have GW151 := ak_ ((by rw [hg]; exact (below_size (hg2_ GE149 GE150)) : w.heap.size ≤ gb151)); have GE151 := ak_ ((by rw [hg]; exact (below_size (hg2_ GE149 GE150)) : w.heap.size ≤ gb151)); replace HB := ak_ (below_step (hg2_ GE149 GE150) hb); have NB149_151 := ak_ ((by rw [hg]; exact Nat.ne_of_lt (blk_lt (g := gb149) (o := .cells #[.string a0_0, .string a0_1, .int .i64 a0_2] 101 (0, 0)) (bk_ BK149)) : gb149 ≠ gb151)); have NB151_149 := ak_ ((by rw [hg]; exact Nat.ne_of_gt (blk_lt (g := gb149) (o := .cells #[.string a0_0, .string a0_1, .int .i64 a0_2] 101 (0, 0)) (bk_ BK149)) : gb151 ≠ gb149)); replace BK149 := ak_ (blk_below (g := gb149) (o := .cells #[.string a0_0, .string a0_1, .int .i64 a0_2] 101 (0, 0)) (bk_ BK149) hb); have NB150_151 := ak_ ((by rw [hg]; exact Nat.ne_of_lt (blk_lt (g := gb150) (o := .cells #[.string (⟨#[]⟩ : ByteArray), .string (⟨#[]⟩ : ByteArray), .int .i64 0] 41 (0, 0)) (bk_ BK150)) : gb150 ≠ gb151)); have NB151_150 := ak_ ((by rw [hg]; exact Nat.ne_of_gt (blk_lt (g := gb150) (o := .cells #[.string (⟨#[]⟩ : ByteArray), .string (⟨#[]⟩ : ByteArray), .int .i64 0] 41 (0, 0)) (bk_ BK150)) : gb151 ≠ gb150)); replace BK150 := ak_ (blk_below (g := gb150) (o := .cells #[.string (⟨#[]⟩ : ByteArray), .string (⟨#[]⟩ : ByteArray), .int .i64 0] 41 (0, 0)) (bk_ BK150) hb); skip; clear hb hbox hg; have hnb5 := NB149_150.out; have hnc5 := NB150_149.out; have hnb6 := NB149_151.out; have hnc6 := NB151_149.out; have hcz7_0 : w4.cell? ⟨gb149, 0, none⟩ = some (.string a0_0) := (blk_cell BK149.out 0).trans rfl; have hcz7_1 : w4.cell? ⟨gb149, 1, none⟩ = some (.string a0_1) := (blk_cell BK149.out 1).trans rfl; have hcz7_2 : w4.cell? ⟨gb149, 2, none⟩ = some (.int .i64 a0_2) := (blk_cell BK149.out 2).trans rfl; have hfz7_0 := blk_frozen BK149.out 0; have hfz7_1 := blk_frozen BK149.out 1; have hfz7_2 := blk_frozen BK149.out 2; have hnb8 := NB151_150.out; have hnc8 := NB150_151.out; have hcz9_0 : w4.cell? ⟨gb151, 0, none⟩ = some (.string (⟨#[]⟩ : ByteArray)) := (blk_cell BK151.out 0).trans rfl; have hcz9_1 : w4.cell? ⟨gb151, 1, none⟩ = some (.string (⟨#[]⟩ : ByteArray)) := (blk_cell BK151.out 1).trans rfl; have hcz9_2 : w4.cell? ⟨gb151, 2, none⟩ = some (.int .i64 0) := (blk_cell BK151.out 2).trans rfl; have hfz9_0 := blk_frozen BK151.out 0; have hfz9_1 := blk_frozen BK151.out 1; have hfz9_2 := blk_frozen BK151.out 2; have hcz10_0 : w4.cell? ⟨gb150, 0, none⟩ = some (.string (⟨#[]⟩ : ByteArray)) := (blk_cell BK150.out 0).trans rfl; have hcz10_1 : w4.cell? ⟨gb150, 1, none⟩ = some (.string (⟨#[]⟩ : ByteArray)) := (blk_cell BK150.out 1).trans rfl; have hcz10_2 : w4.cell? ⟨gb150, 2, none⟩ = some (.int .i64 0) := (blk_cell BK150.out 2).trans rfl; have hfz10_0 := blk_frozen BK150.out 0; have hfz10_1 := blk_frozen BK150.out 1; have hfz10_2 := blk_frozen BK150.out 2))
 refine bodyPost_ret (results_cell_row rfl _ _ gb150 41 #[.string a0_0, .string a0_1, .int .i64 a0_2] (0, 0) _ rfl (by (with_reducible repeat (first | refine blk_drewN ?_ _ | refine blk_drew ?_ | refine blk_alloc ?_ _)); refine blk_put (cs := #[.string a0_0, .string a0_1, .int .i64 0]) ?_ 2 _ rfl; (with_reducible repeat (first | refine blk_drewN ?_ _ | refine blk_drew ?_ | refine blk_alloc ?_ _)); refine blk_put (cs := #[.string a0_0, .string (⟨#[]⟩ : ByteArray), .int .i64 0]) ?_ 1 _ rfl; (with_reducible repeat (first | refine blk_drewN ?_ _ | refine blk_drew ?_ | refine blk_alloc ?_ _)); refine blk_put (cs := #[.string (⟨#[]⟩ : ByteArray), .string (⟨#[]⟩ : ByteArray), .int .i64 0]) ?_ 0 _ rfl; (with_reducible repeat (first | refine blk_drewN ?_ _ | refine blk_drew ?_ | refine blk_alloc ?_ _)); refine blk_far ?_ NB150_151.out _; (with_reducible repeat (first | refine blk_drewN ?_ _ | refine blk_drew ?_ | refine blk_alloc ?_ _)); refine blk_far ?_ NB150_151.out _; (with_reducible repeat (first | refine blk_drewN ?_ _ | refine blk_drew ?_ | refine blk_alloc ?_ _)); refine blk_far ?_ NB150_151.out _; (with_reducible repeat (first | refine blk_drewN ?_ _ | refine blk_drew ?_ | refine blk_alloc ?_ _)); exact BK150.out) Try.underlying41 rfl (by kernel_rfl)) rfl ?_
 exact ⟨ew_, by repeat (first | (with_reducible first | exact HB.out | apply below_alloc | apply pw_below_drewN | apply below_drew1 | refine below_set ?_ GE149.out | refine below_set ?_ GE150.out | refine below_set ?_ GE151.out) | exact HB.out)⟩

/-! ### laws_toBelayS: function 42 -/
def laws_toBelayS.l0 : Nat → List (S101) → List (S41) → Int → Option ((List (S41)))
 | 0, _, _, _ => none
 | k + 1, x0, x3, x4 => if x4 < (x0.length : Int) then (if 0 ≤ x4 then ((laws_toBelay.f ((rd_T101 x0 x4).f0) ((rd_T101 x0 x4).f1) ((rd_T101 x0 x4).f2)).bind fun bt156 => (if x4 < (x3.length : Int) then (laws_toBelayS.l0 k x0 (x3.set (x4 : Int).toNat (⟨bt156.1, bt156.2.1, bt156.2.2⟩ : S41)) (wrap64 (x4 + 1))) else (none))) else (none)) else (some x3)
def laws_toBelayS.f (k : Nat) (l0 : List (S101)) : Option ((List (S41))) := if 0 ≤ (l0.length : Int) then (if ((l0.length : Int) : Int).toNat ≤ 7036874417766 then (laws_toBelayS.l0 k l0 (List.replicate ((l0.length : Int) : Int).toNat z41) 0) else (none)) else (none)
set_option maxHeartbeats 8000000 in
set_option maxRecDepth 100000 in
theorem laws_toBelayS.calls (k : Nat) (A0 : Option Addr) (c0 : Nat) (l0 : List (S101)) (r : List (S41)) (w : World) (hr0 : Kd.C k101 w A0 l0.length l0) (hc0 : l0.length ≤ c0) (h : laws_toBelayS.f k l0 = some r) :
  Calls Try.prog 42 #[.slice A0 l0.length c0] w fun e w' => ∃ v0_ : Value, e = .returned (v0_) ∧ Kd.R k41 41 w' w.heap.size (fun _ => True) v0_ r ∧ Below w.heap.size w w' := by
 have hu101 := Try.underlying101
 have hu41 := Try.underlying41
 have HR0 := ak_ hr0
 have HC0 := ak_ hc0
 clear hr0 hc0
 have HB := ak_ (Below.refl w.heap.size w)
 have H : (if 0 ≤ (l0.length : Int) then (if ((l0.length : Int) : Int).toNat ≤ 7036874417766 then (laws_toBelayS.l0 k l0 (List.replicate ((l0.length : Int) : Int).toNat z41) 0) else (none)) else (none)) = some r := h
 clear h
 by_cases c2 : 0 ≤ (l0.length : Int)
 ·rw [if_pos c2] at H
  have c2b0 := eq_true c2
  have c2b1 : decide (0 ≤ (l0.length : Int)) = true := dt_ c2
  clear c2
  by_cases c3 : ((l0.length : Int) : Int).toNat ≤ 7036874417766
  ·rw [if_pos c3] at H
   have c3b0 := eq_true c3
   have c3b1 : decide (((l0.length : Int) : Int).toNat ≤ 7036874417766) = true := dt_ c3
   clear c3
   obtain ⟨y152, hy152⟩ : ∃ y_ : List (S41), y_ = (List.replicate ((l0.length : Int) : Int).toNat z41) := ⟨_, rfl⟩
   replace H : (laws_toBelayS.l0 k l0 y152 0) = some r := by first | (rw [hy152]; with_reducible exact H) | (have H2_ := (Option.bind_some _ _).symm.trans H; rw [hy152]; with_reducible exact H2_) | (have H2_ := (Option.bind_some _ _).symm.trans H; with_reducible exact H2_) | with_reducible exact H | (rw [hy152]; exact H) | exact H
   have Ny152 := ak_ hy152
   clear hy152
   have H' := ak_ H
   clear H
   go_enter Try.func42, Try.ntmps42
   go_wp2_with (first | ((with_reducible refine gate_dst (N := 7) rfl ?_); refine Kd.R_make k41 _ 41 rfl (N := 7) rfl 29 _ _ rfl (l0.length : Int) rfl rfl Try.underlying29 (.agg #[(.string ⟨#[]⟩), (.string ⟨#[]⟩), (.int .i64 0)]) 40 info41 rfl (by decide) (by omega) z41 (ok := fun _ => True) (okp := fun _ => True) (k41_mkM _ _ _ z41 ) (fun _ hk => hk) trivial (od_) (Nat.le_trans (Nat.mul_le_mul_right _ (od_ : (l0.length : Int).toNat ≤ 7036874417766)) (by omega)) (Below.refl _ _) (Nat.le_refl _) ?_; intro v153 w4 ho5 hb hg_ hnew_; clear hg_ hnew_; (first | rw [← Ny152.out] at ho5 | (simp only [Int.reduceToNat] at ho5; rw [← Ny152.out] at ho5)); have HO154 := ak_ (Kd.R_lower ho5 (below_size hb_)); replace HB := ak_ (below_step hb_ hb); skip; clear hb ho5))
   go_loopg [4] k (fun kq v4 w' => ∃ (x3_1 : List (S41)) (x4_1 : Int), v4 = .int .i64 x4_1 ∧ Aside0 (laws_toBelayS.l0 kq l0 x3_1 x4_1 = some r) ∧ Aside0 (kq ≤ k) ∧ Aside0 (Kd.R k41 41 w' w.heap.size (fun _ => True) v153 x3_1) ∧ Aside0 (Below w.heap.size w w'))
   case atStart => exact ⟨(y152), (0), fr_, H', ⟨Nat.le_refl _⟩, ⟨kr_ HO154⟩, ⟨hb_⟩⟩
   case round =>
    clear H'
    try clear c2
    try clear c2b0
    try clear c2b1
    try clear p2
    try clear c3
    try clear c3b0
    try clear c3b1
    try clear c4
    obtain ⟨x3_1, x4_1, rfl, HA, HK1, HO_3, HB⟩ := hrel
    cases gk with
    | zero => exact absurd HA.out (by simp [laws_toBelayS.l0])
    | succ k1 =>
     have H := HA.out
     clear HA
     simp only [laws_toBelayS.l0] at H
     by_cases c6 : x4_1 < (l0.length : Int)
     ·rw [if_pos c6] at H
      have c6b0 : decide (x4_1 < (l0.length : Int)) = true := dt_ c6
      clear c6
      by_cases c7 : 0 ≤ x4_1
      ·rw [if_pos c7] at H
       have c7b0 : decide (0 ≤ x4_1) = true := dt_ c7
       clear c7
       replace H := ob_ H
       obtain ⟨⟨t156, t157, t158⟩, A80, H⟩ := H
       (try dsimp only at H)
       have A8 := ak_ A80
       clear A80
       by_cases c9 : x4_1 < (x3_1.length : Int)
       ·rw [if_pos c9] at H
        have c9b0 : decide (x4_1 < (x3_1.length : Int)) = true := dt_ c9
        clear c9
        obtain ⟨y159, hy159⟩ : ∃ y_ : List (S41), y_ = (x3_1.set (x4_1 : Int).toNat (⟨t156, t157, t158⟩ : S41)) := ⟨_, rfl⟩
        replace H : (laws_toBelayS.l0 k1 l0 y159 (wrap64 (x4_1 + 1))) = some r := by first | (rw [hy159]; with_reducible exact H) | (have H2_ := (Option.bind_some _ _).symm.trans H; rw [hy159]; with_reducible exact H2_) | (have H2_ := (Option.bind_some _ _).symm.trans H; with_reducible exact H2_) | with_reducible exact H | (rw [hy159]; exact H) | exact H
        have Ny159 := ak_ hy159
        clear hy159
        have H' := ak_ H
        clear H
        have p155 : 0 ≤ (x4_1 : Int) := od_
        have q155 : x4_1 < (l0.length : Int) := od_
        obtain ⟨ad155, e155, hx155_0, hx155_1, hx155_2⟩ := at_T101 HR0.out x4_1 p155 q155
        cases e155
        replace hx155_0 := cq_ HB hx155_0
        replace hx155_1 := cq_ HB hx155_1
        replace hx155_2 := cq_ HB hx155_2
        replace p155 := eq_true p155
        replace q155 := eq_true q155
        go_wp2_with (first | ((with_reducible refine gate_callee (f := 76) rfl ?_); refine goesL_ (some 20) rfl rfl Try.func76 (by kernel_rfl) rfl #[.agg #[.string ((rd_T101 l0 x4_1).f0), .string ((rd_T101 l0 x4_1).f1), .int .i64 ((rd_T101 l0 x4_1).f2)]] rfl ln_ ?_; (with_reducible refine (laws_toBelay.calls ((rd_T101 l0 x4_1).f0) ((rd_T101 l0 x4_1).f1) ((rd_T101 l0 x4_1).f2) t156 t157 t158 _ A8.out).mono ?_); rintro e w11 ⟨rfl, hb⟩; refine ⟨_, rfl, ?_⟩; replace HO_3 := ak_ (Kd.R_below (kr_ HO_3) hb); replace HB := ak_ (below_step hb_ hb); skip; (try clear hb); (try clear hb2); (try clear hk); (try clear hi); have p10 : 0 ≤ (x4_1 : Int) := od_; have q10 : (x4_1 : Int) < ((x3_1.length : Int) : Int) := od_; obtain ⟨go10, co10, eo10, gb10, gl10, cl10, HG10⟩ := Kd.R_form HO_3.out (by omega); (first | cases eo10 | (injection eo10 with ea_ en_ ec_; (first | subst ea_ | (injection ea_ with ea_; subst ea_)); subst ec_; clear en_)); have GB10 := ak_ gb10; have GG10 := ak_ HG10; clear gb10 gl10 HG10; obtain ⟨ce10, hcl10, hM10, hcc10, hfr10⟩ := Kd.R_elem HO_3.out z41 (x4_1 : Int) p10 q10; obtain rfl := k41_openM hM10; have hx10_0 : w11.cell? ⟨go10, (x4_1 : Int).toNat * 3, none⟩ = some (.string ((rd_T41 x3_1 x4_1).f0)) := hcc10 0 _ rfl; have hx10_1 : w11.cell? ⟨go10, (x4_1 : Int).toNat * 3 + 1, none⟩ = some (.string ((rd_T41 x3_1 x4_1).f1)) := hcc10 1 _ rfl; have hx10_2 : w11.cell? ⟨go10, (x4_1 : Int).toNat * 3 + 2, none⟩ = some (.int .i64 ((rd_T41 x3_1 x4_1).f2)) := hcc10 2 _ rfl; have hf10_0 : w11.frozen? ⟨go10, (x4_1 : Int).toNat * 3, none⟩ = false := hfr10 0; have hf10_1 : w11.frozen? ⟨go10, (x4_1 : Int).toNat * 3 + 1, none⟩ = false := hfr10 1; have hf10_2 : w11.frozen? ⟨go10, (x4_1 : Int).toNat * 3 + 2, none⟩ = false := hfr10 2; (try clear hcl10); (try clear hcc10); (try clear hfr10); (try clear hM10); replace p10 := eq_true p10; replace q10 := eq_true q10; have HX12 := ak_ (show Kd.R k41 41 w11 w.heap.size (fun _ => True) (.slice (some ⟨go10, 0, none⟩) x3_1.length co10) x3_1 from (kr_ HO_3)); obtain ⟨ce12, hcl12, hM12, hcc12, hfr12⟩ := Kd.R_elem HX12.out z41 (x4_1 : Int) (od_) (by have h_ : (x4_1 : Int) < ((x3_1.length : Int) : Int) := od_; first | exact h_ | (have e_ := (Kd.R_reads' HO_3.out).1; omega) | simpa using h_); obtain rfl := k41_openM hM12; have HP12 := Kd.R_seg HX12.out (x4_1 : Int) (od_) (by have h_ : (x4_1 : Int) < ((x3_1.length : Int) : Int) := od_; first | exact h_ | (have e_ := (Kd.R_reads' HO_3.out).1; omega) | simpa using h_) (seg := [.string t156, .string t157, .int .i64 t158]) (j := 0) hcl12 hcc12 (show 3 ≤ 3 from by decide) (x' := (⟨t156, t157, t158⟩ : S41)) (k41_mkM _ _ _ (⟨t156, t157, t158⟩ : S41) ) (fun _ hk => hk); have hx12_0 := hcc12 0 _ rfl; (try simp only [show (k41).sz = 3 from rfl, Nat.mul_one, Nat.add_zero] at hx12_0); have hf12_0 := hfr12 0; (try simp only [show (k41).sz = 3 from rfl, Nat.mul_one, Nat.add_zero] at hf12_0); have hx12_1 := hcc12 1 _ rfl; (try simp only [show (k41).sz = 3 from rfl, Nat.mul_one, Nat.add_zero] at hx12_1); have hf12_1 := hfr12 1; (try simp only [show (k41).sz = 3 from rfl, Nat.mul_one, Nat.add_zero] at hf12_1); have hx12_2 := hcc12 2 _ rfl; (try simp only [show (k41).sz = 3 from rfl, Nat.mul_one, Nat.add_zero] at hx12_2); have hf12_2 := hfr12 2; (try simp only [show (k41).sz = 3 from rfl, Nat.mul_one, Nat.add_zero] at hf12_2); (try clear hcl12); (try clear hcc12); (try clear hfr12); (try clear hM12)) | ((with_reducible refine gate_store (t := 41) (p := 21) rfl ?_); refine store_event (t := 41) (p := 21) (v := ?vo_w13) (w1 := (((w11.setCell ⟨go10, (x4_1 : Int).toNat * 3, none⟩ (.string t156)).setCell ⟨go10, (x4_1 : Int).toNat * 3 + 1, none⟩ (.string t157)).setCell ⟨go10, (x4_1 : Int).toNat * 3 + 2, none⟩ (.int .i64 t158))) ?hg ?ho ?hn ?hr ?_; (case ho => rfl); (case hg => rfl); (case hn => rfl); (case hr => first | (go_simp; done) | (go_simp; rfl)); intro w13 hw; have hg : w11.grownBy w13 (some go10) := (by rw [hw]; exact HP12.2); have hp_ : Kd.R k41 41 w13 w.heap.size (fun _ => True) (.slice (some ⟨go10, 0, none⟩) x3_1.length co10) y159 := (by rw [hw, Ny159.out]; exact HP12.1); clear HP12; replace HO_3 := ak_ (hp_); replace HB := ak_ ((by rw [hw]; exact below_set (below_set (below_set (HB.out) GB10.out) GB10.out) GB10.out : Below w.heap.size w w13)); skip; clear hg hw hp_))
        go_roundg k1
        case measure => have := HK1.out; omega
        case rel => exact ⟨(y159), (wrap64 (x4_1 + 1)), fr_, H', ⟨by have := HK1.out; omega⟩, ⟨kr_ HO_3⟩, ⟨hb_⟩⟩
       ·rw [if_neg c9] at H
        exact absurd H (by simp)
      ·rw [if_neg c7] at H
       exact absurd H (by simp)
     ·rw [if_neg c6] at H
      have c6b0 : decide (x4_1 < (l0.length : Int)) = false := decide_eq_false c6
      clear c6
      obtain rfl := Option.some.inj H
      go_wp2
      go_ret
      exact ⟨_, ew_, by (with_reducible repeat (first | apply Kd.R_alloc | apply Kd.R_drewN | apply Kd.R_drew)); exact HO_3.out, hb_⟩
  ·rw [if_neg c3] at H
   exact absurd H (by simp)
 ·rw [if_neg c2] at H
  exact absurd H (by simp)

/-! ### laws_toRig: function 7 -/
def laws_toRig.f (k : Nat) (l0_0 : List (S99)) (l0_1 : List ByteArray) (l0_2 : List (S101)) : Option ((List (S91)) × List ByteArray × (List (S41))) := (laws_toRailS.f k l0_0).bind fun t163 => ((laws_toStringS.f k l0_1).bind fun t166 => ((laws_toBelayS.f k l0_2).bind fun t169 => (some (t163, t166, t169))))
set_option maxHeartbeats 8000000 in
set_option maxRecDepth 100000 in
theorem laws_toRig.calls (k : Nat) (A0_0 : Option Addr) (c0_0 : Nat) (l0_0 : List (S99)) (A0_1 : Option Addr) (c0_1 : Nat) (l0_1 : List ByteArray) (A0_2 : Option Addr) (c0_2 : Nat) (l0_2 : List (S101)) (r1 : List (S91)) (r2 : List ByteArray) (r3 : List (S41)) (w : World) (hr0_0 : Kd.C k99 w A0_0 l0_0.length l0_0) (hc0_0 : l0_0.length ≤ c0_0) (hr0_1 : Kd.C Kd.string w A0_1 l0_1.length l0_1) (hc0_1 : l0_1.length ≤ c0_1) (hr0_2 : Kd.C k101 w A0_2 l0_2.length l0_2) (hc0_2 : l0_2.length ≤ c0_2) (h : laws_toRig.f k l0_0 l0_1 l0_2 = some (r1, r2, r3)) :
  Calls Try.prog 7 #[.agg #[.slice A0_0 l0_0.length c0_0, .slice A0_1 l0_1.length c0_1, .slice A0_2 l0_2.length c0_2]] w fun e w' => ∃ v0_ v1_ v2_ : Value, e = .returned (.agg #[v0_, v1_, v2_]) ∧ Kd.R k91 91 w' w.heap.size (fun _ => True) v0_ r1 ∧ Kd.R Kd.string 9 w' w.heap.size (fun _ => True) v1_ r2 ∧ Kd.R k41 41 w' w.heap.size (fun _ => True) v2_ r3 ∧ Below w.heap.size w w' := by
 have hu26 := Try.underlying26
 have hu31 := Try.underlying31
 have HR0_0 := ak_ hr0_0
 have HC0_0 := ak_ hc0_0
 clear hr0_0 hc0_0
 have HR0_1 := ak_ hr0_1
 have HC0_1 := ak_ hc0_1
 clear hr0_1 hc0_1
 have HR0_2 := ak_ hr0_2
 have HC0_2 := ak_ hc0_2
 clear hr0_2 hc0_2
 have HB := ak_ (Below.refl w.heap.size w)
 have H : ((laws_toRailS.f k l0_0).bind fun t163 => ((laws_toStringS.f k l0_1).bind fun t166 => ((laws_toBelayS.f k l0_2).bind fun t169 => (some (t163, t166, t169))))) = some (r1, r2, r3) := h
 clear h
 replace H := ob_ H
 obtain ⟨t163, A20, H⟩ := H
 (try dsimp only at H)
 have A2 := ak_ A20
 clear A20
 replace H := ob_ H
 obtain ⟨t166, A30, H⟩ := H
 (try dsimp only at H)
 have A3 := ak_ A30
 clear A30
 replace H := ob_ H
 obtain ⟨t169, A40, H⟩ := H
 (try dsimp only at H)
 have A4 := ak_ A40
 clear A40
 simp only [Option.some.injEq, Prod.mk.injEq] at H
 obtain ⟨rfl, rfl, rfl⟩ := H
 go_enter Try.func7, Try.ntmps7
 go_wp2_with (first | ((with_reducible refine gate_dst (N := 1) rfl ?_); refine box_event ?hg (N := 1) ?hd (cs := #[.slice A0_0 l0_0.length c0_0, .slice A0_1 l0_1.length c0_1, .slice A0_2 l0_2.length c0_2]) (t := 26) ?hr ?_; (case hd => rfl); (case hg => rfl); (case hr => first | (go_simp; done) | (go_simp; rfl)); intro gb160 hg w5 hbox hb; have BK160 := ak_ (hbox); have GW160 := ak_ ((by rw [hg]; exact (below_size hb_) : w.heap.size ≤ gb160)); have GE160 := ak_ ((by rw [hg]; exact (below_size hb_) : w.heap.size ≤ gb160)); replace HB := ak_ (below_step hb_ hb); skip; clear hb hbox hg) | ((with_reducible refine gate_dst (N := 2) rfl ?_); refine box_event ?hg (N := 2) ?hd (cs := #[.slice none 0 0, .slice none 0 0, .slice none 0 0]) (t := 31) ?hr ?_; (case hd => rfl); (case hg => rfl); (case hr => first | (go_simp; done) | (go_simp; rfl)); intro gb161 hg w6 hbox hb; have BK161 := ak_ (hbox); have GW161 := ak_ ((by rw [hg]; exact (below_size (hg_ GE160)) : w.heap.size ≤ gb161)); have GE161 := ak_ ((by rw [hg]; exact (below_size (hg_ GE160)) : w.heap.size ≤ gb161)); replace HB := ak_ (below_step (hg_ GE160) hb); have NB160_161 := ak_ ((by rw [hg]; exact Nat.ne_of_lt (blk_lt (g := gb160) (o := .cells #[.slice A0_0 l0_0.length c0_0, .slice A0_1 l0_1.length c0_1, .slice A0_2 l0_2.length c0_2] 26 (0, 0)) (bk_ BK160)) : gb160 ≠ gb161)); have NB161_160 := ak_ ((by rw [hg]; exact Nat.ne_of_gt (blk_lt (g := gb160) (o := .cells #[.slice A0_0 l0_0.length c0_0, .slice A0_1 l0_1.length c0_1, .slice A0_2 l0_2.length c0_2] 26 (0, 0)) (bk_ BK160)) : gb161 ≠ gb160)); replace BK160 := ak_ (blk_below (g := gb160) (o := .cells #[.slice A0_0 l0_0.length c0_0, .slice A0_1 l0_1.length c0_1, .slice A0_2 l0_2.length c0_2] 26 (0, 0)) (bk_ BK160) hb); skip; clear hb hbox hg) | ((with_reducible refine gate_dst (N := 3) rfl ?_); refine box_event ?hg (N := 3) ?hd (cs := #[.slice none 0 0, .slice none 0 0, .slice none 0 0]) (t := 31) ?hr ?_; (case hd => rfl); (case hg => rfl); (case hr => first | (go_simp; done) | (go_simp; rfl)); intro gb162 hg w7 hbox hb; have BK162 := ak_ (hbox); have GW162 := ak_ ((by rw [hg]; exact (below_size (hg2_ GE160 GE161)) : w.heap.size ≤ gb162)); have GE162 := ak_ ((by rw [hg]; exact (below_size (hg2_ GE160 GE161)) : w.heap.size ≤ gb162)); replace HB := ak_ (below_step (hg2_ GE160 GE161) hb); have NB160_162 := ak_ ((by rw [hg]; exact Nat.ne_of_lt (blk_lt (g := gb160) (o := .cells #[.slice A0_0 l0_0.length c0_0, .slice A0_1 l0_1.length c0_1, .slice A0_2 l0_2.length c0_2] 26 (0, 0)) (bk_ BK160)) : gb160 ≠ gb162)); have NB162_160 := ak_ ((by rw [hg]; exact Nat.ne_of_gt (blk_lt (g := gb160) (o := .cells #[.slice A0_0 l0_0.length c0_0, .slice A0_1 l0_1.length c0_1, .slice A0_2 l0_2.length c0_2] 26 (0, 0)) (bk_ BK160)) : gb162 ≠ gb160)); replace BK160 := ak_ (blk_below (g := gb160) (o := .cells #[.slice A0_0 l0_0.length c0_0, .slice A0_1 l0_1.length c0_1, .slice A0_2 l0_2.length c0_2] 26 (0, 0)) (bk_ BK160) hb); have NB161_162 := ak_ ((by rw [hg]; exact Nat.ne_of_lt (blk_lt (g := gb161) (o := .cells #[.slice none 0 0, .slice none 0 0, .slice none 0 0] 31 (0, 0)) (bk_ BK161)) : gb161 ≠ gb162)); have NB162_161 := ak_ ((by rw [hg]; exact Nat.ne_of_gt (blk_lt (g := gb161) (o := .cells #[.slice none 0 0, .slice none 0 0, .slice none 0 0] 31 (0, 0)) (bk_ BK161)) : gb162 ≠ gb161)); replace BK161 := ak_ (blk_below (g := gb161) (o := .cells #[.slice none 0 0, .slice none 0 0, .slice none 0 0] 31 (0, 0)) (bk_ BK161) hb); skip; clear hb hbox hg; have hnb8 := NB160_161.out; have hnc8 := NB161_160.out; have hnb9 := NB160_162.out; have hnc9 := NB162_160.out; have hcz10_0 : w7.cell? ⟨gb160, 0, none⟩ = some (.slice A0_0 l0_0.length c0_0) := (blk_cell BK160.out 0).trans rfl; have hcz10_1 : w7.cell? ⟨gb160, 1, none⟩ = some (.slice A0_1 l0_1.length c0_1) := (blk_cell BK160.out 1).trans rfl; have hcz10_2 : w7.cell? ⟨gb160, 2, none⟩ = some (.slice A0_2 l0_2.length c0_2) := (blk_cell BK160.out 2).trans rfl; have hfz10_0 := blk_frozen BK160.out 0; have hfz10_1 := blk_frozen BK160.out 1; have hfz10_2 := blk_frozen BK160.out 2) | ((with_reducible refine gate_callee (f := 40) rfl ?_); refine goesL_ (some 6) rfl rfl Try.func40 (by kernel_rfl) rfl #[.slice A0_0 l0_0.length c0_0] rfl ln_ ?_; (with_reducible refine (laws_toRailS.calls k _ _ l0_0 t163 _ (kc_ (Kd.C_below HR0_0.out HB.out)) HC0_0.out A2.out).mono ?_); rintro e w11 ⟨v164, rfl, ho0, hb⟩; refine ⟨_, rfl, ?_⟩; have HO165 := ak_ (Kd.R_lower ho0 (below_size (by repeat (first | (with_reducible first | exact HB.out | apply below_alloc | apply pw_below_drewN | apply below_drew1 | refine below_set ?_ GE160.out | refine below_set ?_ GE161.out | refine below_set ?_ GE162.out) | exact HB.out)))); replace BK160 := ak_ (blk_below (g := gb160) (o := .cells #[.slice A0_0 l0_0.length c0_0, .slice A0_1 l0_1.length c0_1, .slice A0_2 l0_2.length c0_2] 26 (0, 0)) (bk_ BK160) hb); replace BK161 := ak_ (blk_below (g := gb161) (o := .cells #[.slice none 0 0, .slice none 0 0, .slice none 0 0] 31 (0, 0)) (bk_ BK161) hb); replace BK162 := ak_ (blk_below (g := gb162) (o := .cells #[.slice none 0 0, .slice none 0 0, .slice none 0 0] 31 (0, 0)) (bk_ BK162) hb); replace HB := ak_ (below_step (by repeat (first | (with_reducible first | exact HB.out | apply below_alloc | apply pw_below_drewN | apply below_drew1 | refine below_set ?_ GE160.out | refine below_set ?_ GE161.out | refine below_set ?_ GE162.out) | exact HB.out)) hb); skip; (try clear hb); (try clear hb2); (try clear hk); (try clear hi); (try clear ho0); obtain ⟨Ao12, co12, eo12⟩ := Kd.R_slice HO165.out; subst eo12; have hnb13 := NB162_161.out; have hnc13 := NB161_162.out; have hcz14_0 : w11.cell? ⟨gb162, 0, none⟩ = some (.slice none 0 0) := (blk_cell BK162.out 0).trans rfl; have hcz14_1 : w11.cell? ⟨gb162, 1, none⟩ = some (.slice none 0 0) := (blk_cell BK162.out 1).trans rfl; have hcz14_2 : w11.cell? ⟨gb162, 2, none⟩ = some (.slice none 0 0) := (blk_cell BK162.out 2).trans rfl; have hfz14_0 := blk_frozen BK162.out 0; have hfz14_1 := blk_frozen BK162.out 1; have hfz14_2 := blk_frozen BK162.out 2; have hcz15_0 : w11.cell? ⟨gb160, 0, none⟩ = some (.slice A0_0 l0_0.length c0_0) := (blk_cell BK160.out 0).trans rfl; have hcz15_1 : w11.cell? ⟨gb160, 1, none⟩ = some (.slice A0_1 l0_1.length c0_1) := (blk_cell BK160.out 1).trans rfl; have hcz15_2 : w11.cell? ⟨gb160, 2, none⟩ = some (.slice A0_2 l0_2.length c0_2) := (blk_cell BK160.out 2).trans rfl; have hfz15_0 := blk_frozen BK160.out 0; have hfz15_1 := blk_frozen BK160.out 1; have hfz15_2 := blk_frozen BK160.out 2) | ((with_reducible refine gate_callee (f := 41) rfl ?_); refine goesL_ (some 10) rfl rfl Try.func41 (by kernel_rfl) rfl #[.slice A0_1 l0_1.length c0_1] rfl ln_ ?_; (with_reducible refine (laws_toStringS.calls k _ _ l0_1 t166 _ ?side1 HC0_1.out A3.out).mono ?_); (case side1 => exact Kd.C_below HR0_1.out (by repeat (first | (with_reducible first | exact HB.out | apply below_alloc | apply pw_below_drewN | apply below_drew1 | refine below_set ?_ GE160.out | refine below_set ?_ GE161.out | refine below_set ?_ GE162.out) | exact HB.out))); rintro e w16 ⟨v167, rfl, ho0, hb⟩; refine ⟨_, rfl, ?_⟩; replace HO165 := ak_ (Kd.R_below (by (with_reducible repeat (first | apply Kd.R_alloc | apply Kd.R_drewN | apply Kd.R_drew)); exact (Kd.R_mono (Kd.R_far (p := ⟨gb162, 0, none⟩) (Kd.R_types HO165.out BK162.out (by decide)) (fun _ hk => hk.2) (.slice Ao12 t163.length co12)) (fun _ h_ => h_.1))) hb); have HO168 := ak_ (Kd.R_lower ho0 (below_size (by repeat (first | (with_reducible first | exact HB.out | apply below_alloc | apply pw_below_drewN | apply below_drew1 | refine below_set ?_ GE160.out | refine below_set ?_ GE161.out | refine below_set ?_ GE162.out) | exact HB.out)))); replace BK160 := ak_ (blk_below (g := gb160) (o := .cells #[.slice A0_0 l0_0.length c0_0, .slice A0_1 l0_1.length c0_1, .slice A0_2 l0_2.length c0_2] 26 (0, 0)) (by (with_reducible repeat (first | refine blk_drewN ?_ _ | refine blk_drew ?_ | refine blk_alloc ?_ _)); refine blk_far ?_ NB160_162.out _; (with_reducible repeat (first | refine blk_drewN ?_ _ | refine blk_drew ?_ | refine blk_alloc ?_ _)); exact BK160.out) hb); replace BK161 := ak_ (blk_below (g := gb161) (o := .cells #[.slice none 0 0, .slice none 0 0, .slice none 0 0] 31 (0, 0)) (by (with_reducible repeat (first | refine blk_drewN ?_ _ | refine blk_drew ?_ | refine blk_alloc ?_ _)); refine blk_far ?_ NB161_162.out _; (with_reducible repeat (first | refine blk_drewN ?_ _ | refine blk_drew ?_ | refine blk_alloc ?_ _)); exact BK161.out) hb); replace BK162 := ak_ (blk_below (g := gb162) (o := .cells #[.slice Ao12 t163.length co12, .slice none 0 0, .slice none 0 0] 31 (0, 0)) (by (with_reducible repeat (first | refine blk_drewN ?_ _ | refine blk_drew ?_ | refine blk_alloc ?_ _)); refine blk_put (cs := #[.slice none 0 0, .slice none 0 0, .slice none 0 0]) ?_ 0 _ rfl; (with_reducible repeat (first | refine blk_drewN ?_ _ | refine blk_drew ?_ | refine blk_alloc ?_ _)); exact BK162.out) hb); replace HB := ak_ (below_step (by repeat (first | (with_reducible first | exact HB.out | apply below_alloc | apply pw_below_drewN | apply below_drew1 | refine below_set ?_ GE160.out | refine below_set ?_ GE161.out | refine below_set ?_ GE162.out) | exact HB.out)) hb); skip; (try clear hb); (try clear hb2); (try clear hk); (try clear hi); (try clear ho0); obtain ⟨Ao17, co17, eo17⟩ := Kd.R_slice HO168.out; subst eo17; have hcz18_0 : w16.cell? ⟨gb162, 0, none⟩ = some (.slice Ao12 t163.length co12) := (blk_cell BK162.out 0).trans rfl; have hcz18_1 : w16.cell? ⟨gb162, 1, none⟩ = some (.slice none 0 0) := (blk_cell BK162.out 1).trans rfl; have hcz18_2 : w16.cell? ⟨gb162, 2, none⟩ = some (.slice none 0 0) := (blk_cell BK162.out 2).trans rfl; have hfz18_0 := blk_frozen BK162.out 0; have hfz18_1 := blk_frozen BK162.out 1; have hfz18_2 := blk_frozen BK162.out 2; have hcz19_0 : w16.cell? ⟨gb160, 0, none⟩ = some (.slice A0_0 l0_0.length c0_0) := (blk_cell BK160.out 0).trans rfl; have hcz19_1 : w16.cell? ⟨gb160, 1, none⟩ = some (.slice A0_1 l0_1.length c0_1) := (blk_cell BK160.out 1).trans rfl; have hcz19_2 : w16.cell? ⟨gb160, 2, none⟩ = some (.slice A0_2 l0_2.length c0_2) := (blk_cell BK160.out 2).trans rfl; have hfz19_0 := blk_frozen BK160.out 0; have hfz19_1 := blk_frozen BK160.out 1; have hfz19_2 := blk_frozen BK160.out 2) | ((with_reducible refine gate_callee (f := 42) rfl ?_); refine goesL_ (some 14) rfl rfl Try.func42 (by kernel_rfl) rfl #[.slice A0_2 l0_2.length c0_2] rfl ln_ ?_; (with_reducible refine (laws_toBelayS.calls k _ _ l0_2 t169 _ ?side1 HC0_2.out A4.out).mono ?_); (case side1 => exact Kd.C_below HR0_2.out (by repeat (first | (with_reducible first | exact HB.out | apply below_alloc | apply pw_below_drewN | apply below_drew1 | refine below_set ?_ GE160.out | refine below_set ?_ GE161.out | refine below_set ?_ GE162.out) | exact HB.out))); rintro e w20 ⟨v170, rfl, ho0, hb⟩; refine ⟨_, rfl, ?_⟩; replace HO165 := ak_ (Kd.R_below (by (with_reducible repeat (first | apply Kd.R_alloc | apply Kd.R_drewN | apply Kd.R_drew)); exact (Kd.R_mono (Kd.R_far (p := ⟨gb162, 1, none⟩) (Kd.R_types HO165.out BK162.out (by decide)) (fun _ hk => hk.2) (.slice Ao17 t166.length co17)) (fun _ h_ => h_.1))) hb); replace HO168 := ak_ (Kd.R_below (by (with_reducible repeat (first | apply Kd.R_alloc | apply Kd.R_drewN | apply Kd.R_drew)); exact (Kd.R_mono (Kd.R_far (p := ⟨gb162, 1, none⟩) (Kd.R_types HO168.out BK162.out (by decide)) (fun _ hk => hk.2) (.slice Ao17 t166.length co17)) (fun _ h_ => h_.1))) hb); have HO171 := ak_ (Kd.R_lower ho0 (below_size (by repeat (first | (with_reducible first | exact HB.out | apply below_alloc | apply pw_below_drewN | apply below_drew1 | refine below_set ?_ GE160.out | refine below_set ?_ GE161.out | refine below_set ?_ GE162.out) | exact HB.out)))); replace BK160 := ak_ (blk_below (g := gb160) (o := .cells #[.slice A0_0 l0_0.length c0_0, .slice A0_1 l0_1.length c0_1, .slice A0_2 l0_2.length c0_2] 26 (0, 0)) (by (with_reducible repeat (first | refine blk_drewN ?_ _ | refine blk_drew ?_ | refine blk_alloc ?_ _)); refine blk_far ?_ NB160_162.out _; (with_reducible repeat (first | refine blk_drewN ?_ _ | refine blk_drew ?_ | refine blk_alloc ?_ _)); exact BK160.out) hb); replace BK161 := ak_ (blk_below (g := gb161) (o := .cells #[.slice none 0 0, .slice none 0 0, .slice none 0 0] 31 (0, 0)) (by (with_reducible repeat (first | refine blk_drewN ?_ _ | refine blk_drew ?_ | refine blk_alloc ?_ _)); refine blk_far ?_ NB161_162.out _; (with_reducible repeat (first | refine blk_drewN ?_ _ | refine blk_drew ?_ | refine blk_alloc ?_ _)); exact BK161.out) hb); replace BK162 := ak_ (blk_below (g := gb162) (o := .cells #[.slice Ao12 t163.length co12, .slice Ao17 t166.length co17, .slice none 0 0] 31 (0, 0)) (by (with_reducible repeat (first | refine blk_drewN ?_ _ | refine blk_drew ?_ | refine blk_alloc ?_ _)); refine blk_put (cs := #[.slice Ao12 t163.length co12, .slice none 0 0, .slice none 0 0]) ?_ 1 _ rfl; (with_reducible repeat (first | refine blk_drewN ?_ _ | refine blk_drew ?_ | refine blk_alloc ?_ _)); exact BK162.out) hb); replace HB := ak_ (below_step (by repeat (first | (with_reducible first | exact HB.out | apply below_alloc | apply pw_below_drewN | apply below_drew1 | refine below_set ?_ GE160.out | refine below_set ?_ GE161.out | refine below_set ?_ GE162.out) | exact HB.out)) hb); skip; (try clear hb); (try clear hb2); (try clear hk); (try clear hi); (try clear ho0); obtain ⟨Ao21, co21, eo21⟩ := Kd.R_slice HO171.out; subst eo21; have hcz22_0 : w20.cell? ⟨gb162, 0, none⟩ = some (.slice Ao12 t163.length co12) := (blk_cell BK162.out 0).trans rfl; have hcz22_1 : w20.cell? ⟨gb162, 1, none⟩ = some (.slice Ao17 t166.length co17) := (blk_cell BK162.out 1).trans rfl; have hcz22_2 : w20.cell? ⟨gb162, 2, none⟩ = some (.slice none 0 0) := (blk_cell BK162.out 2).trans rfl; have hfz22_0 := blk_frozen BK162.out 0; have hfz22_1 := blk_frozen BK162.out 1; have hfz22_2 := blk_frozen BK162.out 2; have hcz23_0 : w20.cell? ⟨gb161, 0, none⟩ = some (.slice none 0 0) := (blk_cell BK161.out 0).trans rfl; have hcz23_1 : w20.cell? ⟨gb161, 1, none⟩ = some (.slice none 0 0) := (blk_cell BK161.out 1).trans rfl; have hcz23_2 : w20.cell? ⟨gb161, 2, none⟩ = some (.slice none 0 0) := (blk_cell BK161.out 2).trans rfl; have hfz23_0 := blk_frozen BK161.out 0; have hfz23_1 := blk_frozen BK161.out 1; have hfz23_2 := blk_frozen BK161.out 2))
 refine bodyPost_ret (results_cell_row rfl _ _ gb161 31 #[.slice Ao12 t163.length co12, .slice Ao17 t166.length co17, .slice Ao21 t169.length co21] (0, 0) _ rfl (by (with_reducible repeat (first | refine blk_drewN ?_ _ | refine blk_drew ?_ | refine blk_alloc ?_ _)); refine blk_put (cs := #[.slice Ao12 t163.length co12, .slice Ao17 t166.length co17, .slice none 0 0]) ?_ 2 _ rfl; (with_reducible repeat (first | refine blk_drewN ?_ _ | refine blk_drew ?_ | refine blk_alloc ?_ _)); refine blk_put (cs := #[.slice Ao12 t163.length co12, .slice none 0 0, .slice none 0 0]) ?_ 1 _ rfl; (with_reducible repeat (first | refine blk_drewN ?_ _ | refine blk_drew ?_ | refine blk_alloc ?_ _)); refine blk_put (cs := #[.slice none 0 0, .slice none 0 0, .slice none 0 0]) ?_ 0 _ rfl; (with_reducible repeat (first | refine blk_drewN ?_ _ | refine blk_drew ?_ | refine blk_alloc ?_ _)); refine blk_far ?_ NB161_162.out _; (with_reducible repeat (first | refine blk_drewN ?_ _ | refine blk_drew ?_ | refine blk_alloc ?_ _)); exact BK161.out) Try.underlying31 rfl (by kernel_rfl)) rfl ?_
 exact ⟨_, _, _, ew_, by (with_reducible repeat (first | apply Kd.R_alloc | apply Kd.R_drewN | apply Kd.R_drew)); exact Kd.R_mono (Kd.R_far (p := ⟨gb161, 2, none⟩) (Kd.R_far (p := ⟨gb161, 1, none⟩) (Kd.R_far (p := ⟨gb161, 0, none⟩) (Kd.R_far (p := ⟨gb162, 2, none⟩) (Kd.R_types (Kd.R_types HO165.out BK162.out (by decide)) BK161.out (by decide)) (fun _ hk => hk.1.2) (.slice Ao21 t169.length co21)) (fun _ hk => hk.2) (.slice Ao12 t163.length co12)) (fun _ hk => hk.2) (.slice Ao17 t166.length co17)) (fun _ hk => hk.2) (.slice Ao21 t169.length co21)) (fun _ hk => trivial), by (with_reducible repeat (first | apply Kd.R_alloc | apply Kd.R_drewN | apply Kd.R_drew)); exact Kd.R_mono (Kd.R_far (p := ⟨gb161, 2, none⟩) (Kd.R_far (p := ⟨gb161, 1, none⟩) (Kd.R_far (p := ⟨gb161, 0, none⟩) (Kd.R_far (p := ⟨gb162, 2, none⟩) (Kd.R_types (Kd.R_types HO168.out BK162.out (by decide)) BK161.out (by decide)) (fun _ hk => hk.1.2) (.slice Ao21 t169.length co21)) (fun _ hk => hk.2) (.slice Ao12 t163.length co12)) (fun _ hk => hk.2) (.slice Ao17 t166.length co17)) (fun _ hk => hk.2) (.slice Ao21 t169.length co21)) (fun _ hk => trivial), by (with_reducible repeat (first | apply Kd.R_alloc | apply Kd.R_drewN | apply Kd.R_drew)); exact Kd.R_mono (Kd.R_far (p := ⟨gb161, 2, none⟩) (Kd.R_far (p := ⟨gb161, 1, none⟩) (Kd.R_far (p := ⟨gb161, 0, none⟩) (Kd.R_far (p := ⟨gb162, 2, none⟩) (Kd.R_types (Kd.R_types HO171.out BK162.out (by decide)) BK161.out (by decide)) (fun _ hk => hk.1.2) (.slice Ao21 t169.length co21)) (fun _ hk => hk.2) (.slice Ao12 t163.length co12)) (fun _ hk => hk.2) (.slice Ao17 t166.length co17)) (fun _ hk => hk.2) (.slice Ao21 t169.length co21)) (fun _ hk => trivial), by repeat (first | (with_reducible first | exact HB.out | apply below_alloc | apply pw_below_drewN | apply below_drew1 | refine below_set ?_ GE160.out | refine below_set ?_ GE161.out | refine below_set ?_ GE162.out) | exact HB.out)⟩

/-! ### impl_railNamed: function 68 -/
def impl_railNamed.go : List S91 → ByteArray → Int → Int
 | [], _, _ => -1
 | x :: xs, a, i => if x.f0.toList = a.toList then i else impl_railNamed.go xs a (i + 1)
def impl_railNamed.f (l0_0 : List S91) (l0_1 : List ByteArray) (l0_2 : List S41) (a1 : ByteArray) : Option Int := some (impl_railNamed.go l0_0 a1 0)
theorem impl_railNamed.pred (x : S91) (name : ByteArray) (b : Bool) (hq : (x.f0.toList == name.toList) = b) (B : Nat) (w : World) (hB : w.heap[B]? = some (.cells #[.string name] 9 (0, 0))) :
  Calls Try.prog 94 #[.agg #[.string x.f0, .string x.f1, .int .i64 x.f2], .pointer (some ⟨B, 0, none⟩)] w fun e w' => e = .returned (.bool b) ∧ Below w.heap.size w w' := by
 have hc : w.cell? ⟨B, 0, none⟩ = some (.string name) := (blk_cell hB 0).trans rfl
 have hlt := blk_lt hB
 have hne : B ≠ w.heap.size := by omega
 clear hB
 have hu := Try.underlying91
 go_enter Try.func94, Try.ntmps94
 go_wp2
 go_ret
 exact ⟨rfl, (Below.refl _ _).alloc (Nat.le_refl _) _⟩
theorem impl_railNamed.step (l : List S91) (a : ByteArray) (j : Nat) (h : j < l.length) : impl_railNamed.go (l.drop j) a j = if (rd_T91 l j).f0.toList = a.toList then (j : Int) else impl_railNamed.go (l.drop (j + 1)) a ((j + 1 : Nat) : Int) := by
 rw [List.drop_eq_getElem_cons h, impl_railNamed.go]
 have e : rd_T91 l (j : Int) = l[j] := by
  unfold rd_T91
  rw [Int.toNat_natCast, List.getD_eq_getElem?_getD, List.getElem?_eq_getElem h]
  rfl
 rw [e]
 rfl
set_option maxHeartbeats 2000000 in
theorem impl_railNamed.loop (A0 : Option Addr) (c0 : Nat) (l0 : List S91) (name : ByteArray) (B : Nat) (w : World) (hr : Kd.C k91 w A0 l0.length l0) (hB : w.heap[B]? = some (.cells #[.string name] 9 (0, 0))) :
  Calls Try.prog 93 #[.slice A0 l0.length c0, .func (.func 94) #[] #[.pointer (some ⟨B, 0, none⟩)]] w fun e w' => e = .returned (.int .i64 (impl_railNamed.go l0 name 0)) ∧ Below w.heap.size w w' := by
 have eg : ∀ args w, (callFunc 94 args).run Try.prog w = .ok (.enter 94 args) w := enters_of Try.func94 (by kernel_rfl) rfl
 have HR := ak_ hr
 have hm := hr.2.1
 have HBX := ak_ hB
 have HG : Aside0 (impl_railNamed.go l0 name 0 = impl_railNamed.go (l0.drop 0) name ((0 : Nat) : Int)) := ⟨rfl⟩
 clear hr hB
 go_enter Try.func93, Try.ntmps93
 go_wp2
 go_loopg [5, 8] l0.length (fun gg _ v8 wr => ∃ j : Nat, v8 = .int .i64 (j : Int) ∧ Aside0 (j ≤ l0.length ∧ l0.length - j ≤ gg) ∧ Aside0 (impl_railNamed.go l0 name 0 = impl_railNamed.go (l0.drop j) name (j : Int)) ∧ Aside0 (Below w.heap.size w wr))
 case atStart => exact ⟨0, rfl, ⟨Nat.zero_le _, by omega⟩, HG, ⟨Below.refl _ _⟩⟩
 case round =>
  clear HG
  obtain ⟨j, rfl, HJ, HG, HB⟩ := hrel
  by_cases hlt : j < l0.length
  ·have p0 : (0 : Int) ≤ (j : Int) := Int.natCast_nonneg j
   have q0 : (j : Int) < (l0.length : Int) := by omega
   obtain ⟨ad, e0, hx0, hx1, hx2⟩ := at_T91 HR.out (j : Int) p0 q0
   cases e0
   replace hx0 := cq_ HB hx0
   replace hx1 := cq_ HB hx1
   replace hx2 := cq_ HB hx2
   have HG2 := ak_ (HG.out.trans (impl_railNamed.step l0 name j hlt))
   clear HG
   have hBw : wr.heap[B]? = some (.cells #[.string name] 9 (0, 0)) := (HB.out.block B (blk_lt HBX.out)).trans HBX.out
   rw [Int.toNat_natCast] at hx0 hx1 hx2
   cases hq : ((rd_T91 l0 (j : Int)).f0.toList == name.toList) with
   | true =>
    have hcall := impl_railNamed.pred (rd_T91 l0 (j : Int)) name true hq B wr hBw
    have HC := ak_ hcall
    have HV : Aside0 (impl_railNamed.go l0 name 0 = (j : Int)) := ⟨by rw [HG2.out, if_pos (by simpa using hq)]⟩
    clear hcall hq hBw HG2
    go_wp2_with (go_at_fn 94; refine HC.out.mono ?_; rintro e w' ⟨rfl, hb⟩)
    go_ret
    exact ⟨by rw [HV.out]; rfl, HB.out.trans (hb.mono HB.out.size)⟩
   | false =>
    have hcall := impl_railNamed.pred (rd_T91 l0 (j : Int)) name false hq B wr hBw
    have HC := ak_ hcall
    have HV : Aside0 (impl_railNamed.go l0 name 0 = impl_railNamed.go (l0.drop (j + 1)) name ((j + 1 : Nat) : Int)) := ⟨by rw [HG2.out, if_neg (by simpa using hq)]⟩
    clear hcall hq hBw HG2
    go_wp2_with (go_at_fn 94; refine HC.out.mono ?_; rintro e w' ⟨rfl, hb⟩)
    go_roundg (l0.length - (j + 1))
    case measure => have := HJ.out; omega
    case rel => exact ⟨j + 1, by go_num, ⟨by omega, by omega⟩, HV, ⟨HB.out.trans (hb.mono HB.out.size)⟩⟩
  ·have he : j = l0.length := by have := HJ.out; omega
   have HV : Aside0 (impl_railNamed.go l0 name 0 = -1) := ⟨by rw [HG.out, he, List.drop_length]; rfl⟩
   have hlt2 : decide (j < l0.length) = false := decide_eq_false hlt
   clear HG he hlt
   go_wp2
   go_ret
   exact ⟨by rw [HV.out]; rfl, HB.out⟩
theorem impl_railNamed.calls (A0_0 : Option Addr) (c0_0 : Nat) (l0_0 : List S91) (A0_1 : Option Addr) (c0_1 : Nat) (l0_1 : List ByteArray) (A0_2 : Option Addr) (c0_2 : Nat) (l0_2 : List S41) (a1 : ByteArray) (r : Int) (w : World) (hr0_0 : Kd.C k91 w A0_0 l0_0.length l0_0) (_hc0_0 : l0_0.length ≤ c0_0) (_hr0_1 : Kd.C Kd.string w A0_1 l0_1.length l0_1) (_hc0_1 : l0_1.length ≤ c0_1) (_hr0_2 : Kd.C k41 w A0_2 l0_2.length l0_2) (_hc0_2 : l0_2.length ≤ c0_2) (h : impl_railNamed.f l0_0 l0_1 l0_2 a1 = some r) :
  Calls Try.prog 68 #[.agg #[.slice A0_0 l0_0.length c0_0, .slice A0_1 l0_1.length c0_1, .slice A0_2 l0_2.length c0_2], .string a1] w fun e w' => e = .returned (.int .i64 r) ∧ Below w.heap.size w w' := by
 have hr := Option.some.inj h
 have hbb : Below w.heap.size w ((w.alloc (.cells #[.slice A0_0 l0_0.length c0_0, .slice A0_1 l0_1.length c0_1, .slice A0_2 l0_2.length c0_2] 31)).alloc (.cells #[.string a1] 9)) := below_alloc (below_alloc (Below.refl _ _) _) _
 have hcon := impl_railNamed.loop A0_0 c0_0 l0_0 a1 (w.heap.size + 1) ((w.alloc (.cells #[.slice A0_0 l0_0.length c0_0, .slice A0_1 l0_1.length c0_1, .slice A0_2 l0_2.length c0_2] 31)).alloc (.cells #[.string a1] 9)) (Kd.C_below hr0_0 hbb) (by have := heap_alloc_new (w.alloc (.cells #[.slice A0_0 l0_0.length c0_0, .slice A0_1 l0_1.length c0_1, .slice A0_2 l0_2.length c0_2] 31)) (.cells #[.string a1] 9); simpa using this)
 rw [hr] at hcon
 have HC := ak_ hcon
 have HBB := ak_ hbb
 clear hcon hr h hr0_0 hbb
 have hmf : ∀ (fn : Fn) (first cap : Array Value) (w : World), (Instr.makeFunc fn first cap).run Try.prog w = .ok (.func fn first cap) w := fun _ _ _ _ => rfl
 have hu := Try.underlying31
 have c0 : ((w.alloc (.cells #[.slice A0_0 l0_0.length c0_0, .slice A0_1 l0_1.length c0_1, .slice A0_2 l0_2.length c0_2] 31)).alloc (.cells #[.string a1] 9)).cell? ⟨w.heap.size, 0, none⟩ = some (.slice A0_0 l0_0.length c0_0) := (blk_cell ((Below.heap_alloc (w.alloc (.cells #[.slice A0_0 l0_0.length c0_0, .slice A0_1 l0_1.length c0_1, .slice A0_2 l0_2.length c0_2] 31)) _ w.heap.size (by simp)).trans (heap_alloc_new w (.cells #[.slice A0_0 l0_0.length c0_0, .slice A0_1 l0_1.length c0_1, .slice A0_2 l0_2.length c0_2] 31))) 0).trans rfl
 go_enter Try.func68, Try.ntmps68
 go_wp2_with (go_at_call 93; refine HC.out.mono ?_; rintro e w' ⟨rfl, hb⟩)
 go_ret
 exact ⟨rfl, HBB.out.trans (hb.mono (by simp; omega))⟩


/-! ### impl_within: function 85 -/
def impl_within.f (a0 : Int) (a1 : Int) (a2 : Int) : Option (Bool) := if a0 ≥ a1 then (some (decide (a0 ≤ a2))) else (some false)
set_option maxHeartbeats 8000000 in
set_option maxRecDepth 100000 in
theorem impl_within.calls (a0 : Int) (a1 : Int) (a2 : Int) (r : Bool) (w : World) (h : impl_within.f a0 a1 a2 = some r) :
  Calls Try.prog 85 #[.int .i64 a0, .int .i64 a1, .int .i64 a2] w fun e w' => e = .returned (.bool r) ∧ Drawn0 w w' := by
 have H : (if a0 ≥ a1 then (some (decide (a0 ≤ a2))) else (some false)) = some r := h
 clear h
 by_cases c4 : a0 ≥ a1
 ·rw [if_pos c4] at H
  have c4b0 : decide (a1 ≤ a0) = true := dt_ c4
  clear c4
  obtain rfl := Option.some.inj H
  go_enter Try.func85, Try.ntmps85
  go_wp2
  go_ret
  exact ⟨by first | rfl | (simp; done) | (simp [*]; done), by repeat (first | exact Drawn0.refl _ | apply Drawn0.step)⟩
 ·rw [if_neg c4] at H
  have c4b0 : decide (a1 ≤ a0) = false := decide_eq_false c4
  clear c4
  obtain rfl := Option.some.inj H
  go_enter Try.func85, Try.ntmps85
  go_wp2
  go_ret
  exact ⟨by first | rfl | (simp; done) | (simp [*]; done), by repeat (first | exact Drawn0.refl _ | apply Drawn0.step)⟩

/-! ### impl_IsName: function 96 -/
mutual
def impl_IsName.j0 : Nat → ByteArray → Bool → Option (Bool)
 | 0, _, _ => none
 | k + 1, x0, x21 => if x21 = true then (some false) else (impl_IsName.l0 k x0 0)
def impl_IsName.l0 : Nat → ByteArray → Int → Option (Bool)
 | 0, _, _ => none
 | k + 1, x0, x3 => if x3 < (x0.size : Int) then (if 0 ≤ x3 then (if (bt x0 x3) < 97 then (if (bt x0 x3) < 48 then (if (bt x0 x3) = 45 then (impl_IsName.l0 k x0 (wrap64 (x3 + 1))) else (some false)) else (if (bt x0 x3) > 57 then (if (bt x0 x3) = 45 then (impl_IsName.l0 k x0 (wrap64 (x3 + 1))) else (some false)) else (impl_IsName.l0 k x0 (wrap64 (x3 + 1))))) else (if (bt x0 x3) > 122 then (if (bt x0 x3) < 48 then (if (bt x0 x3) = 45 then (impl_IsName.l0 k x0 (wrap64 (x3 + 1))) else (some false)) else (if (bt x0 x3) > 57 then (if (bt x0 x3) = 45 then (impl_IsName.l0 k x0 (wrap64 (x3 + 1))) else (some false)) else (impl_IsName.l0 k x0 (wrap64 (x3 + 1))))) else (impl_IsName.l0 k x0 (wrap64 (x3 + 1))))) else (none)) else (some true)
end
def impl_IsName.f (k : Nat) (a0 : ByteArray) : Option (Bool) := if (a0.size : Int) < 1 then (impl_IsName.j0 k a0 true) else (if (a0.size : Int) > 12 then (impl_IsName.j0 k a0 true) else (if 0 < (a0.size : Int) then (if (bt a0 0) < 97 then (impl_IsName.j0 k a0 true) else (impl_IsName.j0 k a0 (decide ((bt a0 0) > 122)))) else (none)))
set_option maxHeartbeats 8000000 in
set_option maxRecDepth 100000 in
theorem impl_IsName.calls (k : Nat) (a0 : ByteArray) (r : Bool) (w : World) (h : impl_IsName.f k a0 = some r) :
  Calls Try.prog 96 #[.string a0] w fun e w' => e = .returned (.bool r) ∧ Drawn0 w w' := by
 have H : (if (a0.size : Int) < 1 then (impl_IsName.j0 k a0 true) else (if (a0.size : Int) > 12 then (impl_IsName.j0 k a0 true) else (if 0 < (a0.size : Int) then (if (bt a0 0) < 97 then (impl_IsName.j0 k a0 true) else (impl_IsName.j0 k a0 (decide ((bt a0 0) > 122)))) else (none)))) = some r := h
 clear h
 have HC2 := ak_ H
 clear H
 go_enter Try.func96, Try.ntmps96
 go_upto_region 1 with (fail)
 go_cut [21] (fun v21 wc => ∃ (kq : Nat) (x21_1 : Bool), v21 = .bool x21_1 ∧ Aside0 (impl_IsName.j0 kq a0 x21_1 = some r) ∧ Aside0 (kq ≤ k) ∧ Drawn0 w wc)
 case first =>
  have H := HC2.out
  clear HC2
  by_cases c3 : (a0.size : Int) < 1
  ·rw [if_pos c3] at H
   have c3b0 : decide ((a0.size : Int) < 1) = true := dt_ c3
   have c3b1 : decide (a0.size < 1) = true := dt_ (by omega)
   clear c3
   (first | rw [c3b0] | (simp only [i64_w, i32_w]; rw [c3b0]) | skip)
   have H' := ak_ H
   clear H
   go_wp2
   go_meet
   case rel => exact ⟨_, (true), fr_, H', ⟨by first | omega | exact Nat.le_refl _⟩, by repeat (first | exact Drawn0.refl _ | apply Drawn0.step)⟩
  ·rw [if_neg c3] at H
   have c3b0 : decide ((a0.size : Int) < 1) = false := decide_eq_false c3
   have c3b1 : decide (a0.size < 1) = false := decide_eq_false (by omega)
   clear c3
   (first | rw [c3b0] | (simp only [i64_w, i32_w]; rw [c3b0]) | skip)
   by_cases c4 : (a0.size : Int) > 12
   ·rw [if_pos c4] at H
    have c4b0 : decide (12 < (a0.size : Int)) = true := dt_ c4
    have c4b1 : decide (12 < a0.size) = true := dt_ (by omega)
    clear c4
    have H' := ak_ H
    clear H
    go_wp2
    go_meet
    case rel => exact ⟨_, (true), fr_, H', ⟨by first | omega | exact Nat.le_refl _⟩, by repeat (first | exact Drawn0.refl _ | apply Drawn0.step)⟩
   ·rw [if_neg c4] at H
    have c4b0 : decide (12 < (a0.size : Int)) = false := decide_eq_false c4
    have c4b1 : decide (12 < a0.size) = false := decide_eq_false (by omega)
    clear c4
    by_cases c5 : 0 < (a0.size : Int)
    ·rw [if_pos c5] at H
     have c5b0 : decide (0 < (a0.size : Int)) = true := dt_ c5
     have c5b1 : decide (0 < a0.size) = true := dt_ (by omega)
     clear c5
     by_cases c7 : (bt a0 0) < 97
     ·rw [if_pos c7] at H
      have c7b0 : decide ((bt a0 0) < 97) = true := dt_ c7
      clear c7
      have H' := ak_ H
      clear H
      have p6 : 0 ≤ (0 : Int) := (by omega)
      have q6 : 0 < a0.size := (by have : (0 : Int) < (a0.size : Int) := od_; omega)
      have hx6 : ∀ h : 0 < a0.size, ((a0[0]'h).toNat : Int) = bt a0 0 := bt_at a0 0
      clear p6
      have qi6 : (0 < (a0.size : Int)) = True := eq_true (od_)
      replace q6 := eq_true q6
      go_wp2
      go_meet
      case rel => exact ⟨_, (true), fr_, H', ⟨by first | omega | exact Nat.le_refl _⟩, by repeat (first | exact Drawn0.refl _ | apply Drawn0.step)⟩
     ·rw [if_neg c7] at H
      have c7b0 : decide ((bt a0 0) < 97) = false := decide_eq_false c7
      clear c7
      have H' := ak_ H
      clear H
      have p6 : 0 ≤ (0 : Int) := (by omega)
      have q6 : 0 < a0.size := (by have : (0 : Int) < (a0.size : Int) := od_; omega)
      have hx6 : ∀ h : 0 < a0.size, ((a0[0]'h).toNat : Int) = bt a0 0 := bt_at a0 0
      clear p6
      have qi6 : (0 < (a0.size : Int)) = True := eq_true (od_)
      replace q6 := eq_true q6
      have p8 : 0 ≤ (0 : Int) := (by omega)
      have q8 : 0 < a0.size := (by have : (0 : Int) < (a0.size : Int) := od_; omega)
      have hx8 : ∀ h : 0 < a0.size, ((a0[0]'h).toNat : Int) = bt a0 0 := bt_at a0 0
      clear p8
      have qi8 : (0 < (a0.size : Int)) = True := eq_true (od_)
      replace q8 := eq_true q8
      go_wp2
      go_meet
      case rel => exact ⟨_, (decide ((bt a0 0) > 122)), fr_, H', ⟨by first | omega | exact Nat.le_refl _⟩, by repeat (first | exact Drawn0.refl _ | apply Drawn0.step)⟩
    ·rw [if_neg c5] at H
     exact absurd H (by simp)
 case rest =>
  clear HC2
  try clear p2
  try clear c3
  try clear c3b0
  try clear c3b1
  try clear c4
  try clear c4b0
  try clear c4b1
  try clear c5
  try clear c5b0
  try clear c5b1
  try clear p6
  try clear q6
  try clear hx6
  try clear qi6
  try clear c7
  try clear c7b0
  try clear p8
  try clear q8
  try clear hx8
  try clear qi8
  try clear p6
  try clear p8
  try clear q6
  try clear q8
  obtain ⟨kq, x21_1, rfl, HA, HJ1, ⟨mc1, rfl⟩⟩ := hcut
  cases kq with
  | zero => exact absurd HA.out (by simp [impl_IsName.j0])
  | succ kj1 =>
   have H := HA.out
   clear HA
   simp only [impl_IsName.j0] at H
   by_cases c9 : x21_1 = true
   ·subst c9
    have H1 : (some false) = some r := by rw [if_pos rfl] at H; exact H
    clear H
    have H := H1
    clear H1
    obtain rfl := Option.some.inj H
    go_wp2
    go_ret
    exact ⟨by first | rfl | (simp; done) | (simp [*]; done), by repeat (first | exact Drawn0.refl _ | apply Drawn0.step)⟩
   ·replace c9 := Bool.eq_false_iff.mpr c9
    subst c9
    have H1 : (impl_IsName.l0 kj1 a0 0) = some r := by rw [if_neg (show ¬ (false = true) by decide)] at H; exact H
    clear H
    have H := H1
    clear H1
    have H' := ak_ H
    clear H
    go_wp2
    go_loopg [3] kj1 (fun kq v3 w' => ∃ (x3_2 : Int), v3 = .int .i64 x3_2 ∧ Aside0 (impl_IsName.l0 kq a0 x3_2 = some r) ∧ Aside0 (kq ≤ kj1) ∧ Drawn0 w w')
    case atStart => exact ⟨(0), fr_, H', ⟨Nat.le_refl _⟩, by repeat (first | exact Drawn0.refl _ | apply Drawn0.step)⟩
    case round =>
     clear H'
     try clear c1
     try clear p2
     try clear c3
     try clear c3b0
     try clear c3b1
     try clear c4
     try clear c4b0
     try clear c4b1
     try clear c5
     try clear c5b0
     try clear c5b1
     try clear p6
     try clear q6
     try clear hx6
     try clear qi6
     try clear c7
     try clear c7b0
     try clear p8
     try clear q8
     try clear hx8
     try clear qi8
     try clear c9
     try clear p2
     try clear p6
     try clear p8
     try clear q6
     try clear q8
     obtain ⟨x3_2, rfl, HA, HK2, ⟨m2, rfl⟩⟩ := hrel
     cases gk with
     | zero => exact absurd HA.out (by simp [impl_IsName.l0])
     | succ k2 =>
      have H := HA.out
      clear HA
      simp only [impl_IsName.l0] at H
      by_cases c10 : x3_2 < (a0.size : Int)
      ·rw [if_pos c10] at H
       have c10b0 : decide (x3_2 < (a0.size : Int)) = true := dt_ c10
       clear c10
       by_cases c11 : 0 ≤ x3_2
       ·rw [if_pos c11] at H
        have c11b0 : decide (0 ≤ x3_2) = true := dt_ c11
        clear c11
        by_cases c13 : (bt a0 x3_2) < 97
        ·rw [if_pos c13] at H
         have c13b0 : decide ((bt a0 x3_2) < 97) = true := dt_ c13
         clear c13
         by_cases c15 : (bt a0 x3_2) < 48
         ·rw [if_pos c15] at H
          have c15b0 : decide ((bt a0 x3_2) < 48) = true := dt_ c15
          clear c15
          by_cases c17 : (bt a0 x3_2) = 45
          ·rw [if_pos c17] at H
           have c17b0 : ((bt a0 x3_2) == 45) = true := beq_iff_eq.mpr c17
           have c17b1 : ((bt a0 x3_2) != 45) = false := bne_eq_false_iff_eq.mpr c17
           clear c17
           have H' := ak_ H
           clear H
           have p12 : 0 ≤ (x3_2 : Int) := od_
           have q12 : x3_2 < (a0.size : Int) := od_
           have hx12 := bt_at a0 x3_2
           replace p12 := eq_true p12
           replace q12 := eq_true q12
           have p14 : 0 ≤ (x3_2 : Int) := od_
           have q14 : x3_2 < (a0.size : Int) := od_
           have hx14 := bt_at a0 x3_2
           replace p14 := eq_true p14
           replace q14 := eq_true q14
           have p16 : 0 ≤ (x3_2 : Int) := od_
           have q16 : x3_2 < (a0.size : Int) := od_
           have hx16 := bt_at a0 x3_2
           replace p16 := eq_true p16
           replace q16 := eq_true q16
           go_wp2
           go_roundg k2
           case measure => have := HJ1.out; have := HK2.out; omega
           case rel => exact ⟨(wrap64 (x3_2 + 1)), fr_, H', ⟨by have := HJ1.out; have := HK2.out; omega⟩, by repeat (first | exact Drawn0.refl _ | apply Drawn0.step)⟩
          ·rw [if_neg c17] at H
           have c17b0 : ((bt a0 x3_2) == 45) = false := beq_eq_false_iff_ne.mpr c17
           have c17b1 : ((bt a0 x3_2) != 45) = true := bne_iff_ne.mpr c17
           obtain rfl := Option.some.inj H
           have p12 : 0 ≤ (x3_2 : Int) := od_
           have q12 : x3_2 < (a0.size : Int) := od_
           have hx12 := bt_at a0 x3_2
           replace p12 := eq_true p12
           replace q12 := eq_true q12
           have p14 : 0 ≤ (x3_2 : Int) := od_
           have q14 : x3_2 < (a0.size : Int) := od_
           have hx14 := bt_at a0 x3_2
           replace p14 := eq_true p14
           replace q14 := eq_true q14
           have p16 : 0 ≤ (x3_2 : Int) := od_
           have q16 : x3_2 < (a0.size : Int) := od_
           have hx16 := bt_at a0 x3_2
           replace p16 := eq_true p16
           replace q16 := eq_true q16
           go_wp2
           go_ret
           exact ⟨by first | rfl | (simp; done) | (simp [*]; done), by repeat (first | exact Drawn0.refl _ | apply Drawn0.step)⟩
         ·rw [if_neg c15] at H
          have c15b0 : decide ((bt a0 x3_2) < 48) = false := decide_eq_false c15
          clear c15
          by_cases c19 : (bt a0 x3_2) > 57
          ·rw [if_pos c19] at H
           have c19b0 : decide (57 < (bt a0 x3_2)) = true := dt_ c19
           clear c19
           by_cases c21 : (bt a0 x3_2) = 45
           ·rw [if_pos c21] at H
            have c21b0 : ((bt a0 x3_2) == 45) = true := beq_iff_eq.mpr c21
            have c21b1 : ((bt a0 x3_2) != 45) = false := bne_eq_false_iff_eq.mpr c21
            clear c21
            have H' := ak_ H
            clear H
            have p12 : 0 ≤ (x3_2 : Int) := od_
            have q12 : x3_2 < (a0.size : Int) := od_
            have hx12 := bt_at a0 x3_2
            replace p12 := eq_true p12
            replace q12 := eq_true q12
            have p14 : 0 ≤ (x3_2 : Int) := od_
            have q14 : x3_2 < (a0.size : Int) := od_
            have hx14 := bt_at a0 x3_2
            replace p14 := eq_true p14
            replace q14 := eq_true q14
            have p18 : 0 ≤ (x3_2 : Int) := od_
            have q18 : x3_2 < (a0.size : Int) := od_
            have hx18 := bt_at a0 x3_2
            replace p18 := eq_true p18
            replace q18 := eq_true q18
            have p20 : 0 ≤ (x3_2 : Int) := od_
            have q20 : x3_2 < (a0.size : Int) := od_
            have hx20 := bt_at a0 x3_2
            replace p20 := eq_true p20
            replace q20 := eq_true q20
            go_wp2
            go_roundg k2
            case measure => have := HJ1.out; have := HK2.out; omega
            case rel => exact ⟨(wrap64 (x3_2 + 1)), fr_, H', ⟨by have := HJ1.out; have := HK2.out; omega⟩, by repeat (first | exact Drawn0.refl _ | apply Drawn0.step)⟩
           ·rw [if_neg c21] at H
            have c21b0 : ((bt a0 x3_2) == 45) = false := beq_eq_false_iff_ne.mpr c21
            have c21b1 : ((bt a0 x3_2) != 45) = true := bne_iff_ne.mpr c21
            obtain rfl := Option.some.inj H
            have p12 : 0 ≤ (x3_2 : Int) := od_
            have q12 : x3_2 < (a0.size : Int) := od_
            have hx12 := bt_at a0 x3_2
            replace p12 := eq_true p12
            replace q12 := eq_true q12
            have p14 : 0 ≤ (x3_2 : Int) := od_
            have q14 : x3_2 < (a0.size : Int) := od_
            have hx14 := bt_at a0 x3_2
            replace p14 := eq_true p14
            replace q14 := eq_true q14
            have p18 : 0 ≤ (x3_2 : Int) := od_
            have q18 : x3_2 < (a0.size : Int) := od_
            have hx18 := bt_at a0 x3_2
            replace p18 := eq_true p18
            replace q18 := eq_true q18
            have p20 : 0 ≤ (x3_2 : Int) := od_
            have q20 : x3_2 < (a0.size : Int) := od_
            have hx20 := bt_at a0 x3_2
            replace p20 := eq_true p20
            replace q20 := eq_true q20
            go_wp2
            go_ret
            exact ⟨by first | rfl | (simp; done) | (simp [*]; done), by repeat (first | exact Drawn0.refl _ | apply Drawn0.step)⟩
          ·rw [if_neg c19] at H
           have c19b0 : decide (57 < (bt a0 x3_2)) = false := decide_eq_false c19
           clear c19
           have H' := ak_ H
           clear H
           have p12 : 0 ≤ (x3_2 : Int) := od_
           have q12 : x3_2 < (a0.size : Int) := od_
           have hx12 := bt_at a0 x3_2
           replace p12 := eq_true p12
           replace q12 := eq_true q12
           have p14 : 0 ≤ (x3_2 : Int) := od_
           have q14 : x3_2 < (a0.size : Int) := od_
           have hx14 := bt_at a0 x3_2
           replace p14 := eq_true p14
           replace q14 := eq_true q14
           have p18 : 0 ≤ (x3_2 : Int) := od_
           have q18 : x3_2 < (a0.size : Int) := od_
           have hx18 := bt_at a0 x3_2
           replace p18 := eq_true p18
           replace q18 := eq_true q18
           go_wp2
           go_roundg k2
           case measure => have := HJ1.out; have := HK2.out; omega
           case rel => exact ⟨(wrap64 (x3_2 + 1)), fr_, H', ⟨by have := HJ1.out; have := HK2.out; omega⟩, by repeat (first | exact Drawn0.refl _ | apply Drawn0.step)⟩
        ·rw [if_neg c13] at H
         have c13b0 : decide ((bt a0 x3_2) < 97) = false := decide_eq_false c13
         clear c13
         by_cases c23 : (bt a0 x3_2) > 122
         ·rw [if_pos c23] at H
          have c23b0 : decide (122 < (bt a0 x3_2)) = true := dt_ c23
          clear c23
          by_cases c25 : (bt a0 x3_2) < 48
          ·rw [if_pos c25] at H
           have c25b0 : decide ((bt a0 x3_2) < 48) = true := dt_ c25
           clear c25
           by_cases c27 : (bt a0 x3_2) = 45
           ·rw [if_pos c27] at H
            have c27b0 : ((bt a0 x3_2) == 45) = true := beq_iff_eq.mpr c27
            have c27b1 : ((bt a0 x3_2) != 45) = false := bne_eq_false_iff_eq.mpr c27
            clear c27
            have H' := ak_ H
            clear H
            have p12 : 0 ≤ (x3_2 : Int) := od_
            have q12 : x3_2 < (a0.size : Int) := od_
            have hx12 := bt_at a0 x3_2
            replace p12 := eq_true p12
            replace q12 := eq_true q12
            have p22 : 0 ≤ (x3_2 : Int) := od_
            have q22 : x3_2 < (a0.size : Int) := od_
            have hx22 := bt_at a0 x3_2
            replace p22 := eq_true p22
            replace q22 := eq_true q22
            have p24 : 0 ≤ (x3_2 : Int) := od_
            have q24 : x3_2 < (a0.size : Int) := od_
            have hx24 := bt_at a0 x3_2
            replace p24 := eq_true p24
            replace q24 := eq_true q24
            have p26 : 0 ≤ (x3_2 : Int) := od_
            have q26 : x3_2 < (a0.size : Int) := od_
            have hx26 := bt_at a0 x3_2
            replace p26 := eq_true p26
            replace q26 := eq_true q26
            go_wp2
            go_roundg k2
            case measure => have := HJ1.out; have := HK2.out; omega
            case rel => exact ⟨(wrap64 (x3_2 + 1)), fr_, H', ⟨by have := HJ1.out; have := HK2.out; omega⟩, by repeat (first | exact Drawn0.refl _ | apply Drawn0.step)⟩
           ·rw [if_neg c27] at H
            have c27b0 : ((bt a0 x3_2) == 45) = false := beq_eq_false_iff_ne.mpr c27
            have c27b1 : ((bt a0 x3_2) != 45) = true := bne_iff_ne.mpr c27
            obtain rfl := Option.some.inj H
            have p12 : 0 ≤ (x3_2 : Int) := od_
            have q12 : x3_2 < (a0.size : Int) := od_
            have hx12 := bt_at a0 x3_2
            replace p12 := eq_true p12
            replace q12 := eq_true q12
            have p22 : 0 ≤ (x3_2 : Int) := od_
            have q22 : x3_2 < (a0.size : Int) := od_
            have hx22 := bt_at a0 x3_2
            replace p22 := eq_true p22
            replace q22 := eq_true q22
            have p24 : 0 ≤ (x3_2 : Int) := od_
            have q24 : x3_2 < (a0.size : Int) := od_
            have hx24 := bt_at a0 x3_2
            replace p24 := eq_true p24
            replace q24 := eq_true q24
            have p26 : 0 ≤ (x3_2 : Int) := od_
            have q26 : x3_2 < (a0.size : Int) := od_
            have hx26 := bt_at a0 x3_2
            replace p26 := eq_true p26
            replace q26 := eq_true q26
            go_wp2
            go_ret
            exact ⟨by first | rfl | (simp; done) | (simp [*]; done), by repeat (first | exact Drawn0.refl _ | apply Drawn0.step)⟩
          ·rw [if_neg c25] at H
           have c25b0 : decide ((bt a0 x3_2) < 48) = false := decide_eq_false c25
           clear c25
           by_cases c29 : (bt a0 x3_2) > 57
           ·rw [if_pos c29] at H
            have c29b0 : decide (57 < (bt a0 x3_2)) = true := dt_ c29
            clear c29
            by_cases c31 : (bt a0 x3_2) = 45
            ·rw [if_pos c31] at H
             have c31b0 : ((bt a0 x3_2) == 45) = true := beq_iff_eq.mpr c31
             have c31b1 : ((bt a0 x3_2) != 45) = false := bne_eq_false_iff_eq.mpr c31
             clear c31
             have H' := ak_ H
             clear H
             have p12 : 0 ≤ (x3_2 : Int) := od_
             have q12 : x3_2 < (a0.size : Int) := od_
             have hx12 := bt_at a0 x3_2
             replace p12 := eq_true p12
             replace q12 := eq_true q12
             have p22 : 0 ≤ (x3_2 : Int) := od_
             have q22 : x3_2 < (a0.size : Int) := od_
             have hx22 := bt_at a0 x3_2
             replace p22 := eq_true p22
             replace q22 := eq_true q22
             have p24 : 0 ≤ (x3_2 : Int) := od_
             have q24 : x3_2 < (a0.size : Int) := od_
             have hx24 := bt_at a0 x3_2
             replace p24 := eq_true p24
             replace q24 := eq_true q24
             have p28 : 0 ≤ (x3_2 : Int) := od_
             have q28 : x3_2 < (a0.size : Int) := od_
             have hx28 := bt_at a0 x3_2
             replace p28 := eq_true p28
             replace q28 := eq_true q28
             have p30 : 0 ≤ (x3_2 : Int) := od_
             have q30 : x3_2 < (a0.size : Int) := od_
             have hx30 := bt_at a0 x3_2
             replace p30 := eq_true p30
             replace q30 := eq_true q30
             go_wp2
             go_roundg k2
             case measure => have := HJ1.out; have := HK2.out; omega
             case rel => exact ⟨(wrap64 (x3_2 + 1)), fr_, H', ⟨by have := HJ1.out; have := HK2.out; omega⟩, by repeat (first | exact Drawn0.refl _ | apply Drawn0.step)⟩
            ·rw [if_neg c31] at H
             have c31b0 : ((bt a0 x3_2) == 45) = false := beq_eq_false_iff_ne.mpr c31
             have c31b1 : ((bt a0 x3_2) != 45) = true := bne_iff_ne.mpr c31
             obtain rfl := Option.some.inj H
             have p12 : 0 ≤ (x3_2 : Int) := od_
             have q12 : x3_2 < (a0.size : Int) := od_
             have hx12 := bt_at a0 x3_2
             replace p12 := eq_true p12
             replace q12 := eq_true q12
             have p22 : 0 ≤ (x3_2 : Int) := od_
             have q22 : x3_2 < (a0.size : Int) := od_
             have hx22 := bt_at a0 x3_2
             replace p22 := eq_true p22
             replace q22 := eq_true q22
             have p24 : 0 ≤ (x3_2 : Int) := od_
             have q24 : x3_2 < (a0.size : Int) := od_
             have hx24 := bt_at a0 x3_2
             replace p24 := eq_true p24
             replace q24 := eq_true q24
             have p28 : 0 ≤ (x3_2 : Int) := od_
             have q28 : x3_2 < (a0.size : Int) := od_
             have hx28 := bt_at a0 x3_2
             replace p28 := eq_true p28
             replace q28 := eq_true q28
             have p30 : 0 ≤ (x3_2 : Int) := od_
             have q30 : x3_2 < (a0.size : Int) := od_
             have hx30 := bt_at a0 x3_2
             replace p30 := eq_true p30
             replace q30 := eq_true q30
             go_wp2
             go_ret
             exact ⟨by first | rfl | (simp; done) | (simp [*]; done), by repeat (first | exact Drawn0.refl _ | apply Drawn0.step)⟩
           ·rw [if_neg c29] at H
            have c29b0 : decide (57 < (bt a0 x3_2)) = false := decide_eq_false c29
            clear c29
            have H' := ak_ H
            clear H
            have p12 : 0 ≤ (x3_2 : Int) := od_
            have q12 : x3_2 < (a0.size : Int) := od_
            have hx12 := bt_at a0 x3_2
            replace p12 := eq_true p12
            replace q12 := eq_true q12
            have p22 : 0 ≤ (x3_2 : Int) := od_
            have q22 : x3_2 < (a0.size : Int) := od_
            have hx22 := bt_at a0 x3_2
            replace p22 := eq_true p22
            replace q22 := eq_true q22
            have p24 : 0 ≤ (x3_2 : Int) := od_
            have q24 : x3_2 < (a0.size : Int) := od_
            have hx24 := bt_at a0 x3_2
            replace p24 := eq_true p24
            replace q24 := eq_true q24
            have p28 : 0 ≤ (x3_2 : Int) := od_
            have q28 : x3_2 < (a0.size : Int) := od_
            have hx28 := bt_at a0 x3_2
            replace p28 := eq_true p28
            replace q28 := eq_true q28
            go_wp2
            go_roundg k2
            case measure => have := HJ1.out; have := HK2.out; omega
            case rel => exact ⟨(wrap64 (x3_2 + 1)), fr_, H', ⟨by have := HJ1.out; have := HK2.out; omega⟩, by repeat (first | exact Drawn0.refl _ | apply Drawn0.step)⟩
         ·rw [if_neg c23] at H
          have c23b0 : decide (122 < (bt a0 x3_2)) = false := decide_eq_false c23
          clear c23
          have H' := ak_ H
          clear H
          have p12 : 0 ≤ (x3_2 : Int) := od_
          have q12 : x3_2 < (a0.size : Int) := od_
          have hx12 := bt_at a0 x3_2
          replace p12 := eq_true p12
          replace q12 := eq_true q12
          have p22 : 0 ≤ (x3_2 : Int) := od_
          have q22 : x3_2 < (a0.size : Int) := od_
          have hx22 := bt_at a0 x3_2
          replace p22 := eq_true p22
          replace q22 := eq_true q22
          go_wp2
          go_roundg k2
          case measure => have := HJ1.out; have := HK2.out; omega
          case rel => exact ⟨(wrap64 (x3_2 + 1)), fr_, H', ⟨by have := HJ1.out; have := HK2.out; omega⟩, by repeat (first | exact Drawn0.refl _ | apply Drawn0.step)⟩
       ·rw [if_neg c11] at H
        exact absurd H (by simp)
      ·rw [if_neg c10] at H
       have c10b0 : decide (x3_2 < (a0.size : Int)) = false := decide_eq_false c10
       clear c10
       obtain rfl := Option.some.inj H
       go_wp2
       go_ret
       exact ⟨by first | rfl | (simp; done) | (simp [*]; done), by repeat (first | exact Drawn0.refl _ | apply Drawn0.step)⟩

/-! ### impl_addRail: function 70 -/
open Go.Proofs.YtcenjcgfdghfnaaW.Hand
def impl_addRail.f (k : Nat) (f0 : List S91) (f1 : List ByteArray) (f2 : List S41) (a0 a1 : ByteArray) (a2 : Int) : Option (List S91 × Int) :=
 (impl_IsName.f k a0).bind fun t => if t = true then (if sideB a1 = true then ((impl_within.f a2 1 30).bind fun u => if u = true then ((impl_railNamed.f f0 f1 f2 a0).bind fun i => if i ≥ 0 then some (f0, 5) else if (f0.length : Int) = 10 then some (f0, 8) else if f0.length < 1000 then some (f0 ++ [⟨a0, a1, a2⟩], 0) else none) else some (f0, 4)) else some (f0, 1)) else some (f0, 3)
def impl_addRail.T11 : Bool × List (List Nat × List Nat) := (true, [([], []), ([], []), ([1], [1]), ([2], [2]), ([3], [3]), ([], []), ([5], [5]), ([4, 6], [4, 6]), ([0, 0, 1, 2, 3, 4, 5, 6, 7], [0]), ([8, 0, 1, 2, 3, 4, 5, 6, 7], [8]), ([9, 7, 7, 0, 1, 2, 3, 4, 5, 6, 7], [7, 9])])
def impl_addRail.B11 : List Nat := [0, 0, 2, 6, 14, 0, 32, 126, 255, 511, 1023]
theorem impl_addRail.tab11 : rtab .any (opsOf Try.f70 11) = impl_addRail.T11 := by kernel_rfl
theorem impl_addRail.bits11 : waitsOk impl_addRail.T11.2 impl_addRail.B11 = true := by kernel_rfl
set_option maxRecDepth 100000 in
set_option maxHeartbeats 8000000 in
theorem impl_addRail.calls (k base : Nat) (g : Nat) (f0 : List S91) (f1 : List ByteArray) (f2 : List S41) (a0 a1 : ByteArray) (a2 : Int) (q : List S91) (r : Int) (w : World) (hI : RigOwn base w g f0 f1 f2) (h : impl_addRail.f k f0 f1 f2 a0 a1 a2 = some (q, r)) :
  Calls Try.prog 70 #[.pointer (some ⟨g, 0, none⟩), .agg #[.string a0, .string a1, .int .i64 a2]] w fun e w' => e = .returned (.int .i64 r) ∧ RigOwn base w' g q f1 f2 ∧ Below base w w' := by
 obtain ⟨A0, c0, A1, c1, A2, c2, hI⟩ := hI
 have HI := ak_ hI
 have hB0 := hI.lt
 have hu := Try.underlying91
 clear hI
 unfold impl_addRail.f at h
 obtain ⟨t, ht, h⟩ := ob_ h
 have HT := ak_ ht
 clear ht
 cases t with
 | false =>
  simp only [Bool.false_eq_true, if_false, Option.some.injEq, Prod.mk.injEq] at h
  obtain ⟨rfl, rfl⟩ := h
  go_enter Try.func70, Try.ntmps70
  go_wp2_with (first | ((with_reducible refine gate_dst (N := 3) rfl ?_); refine hand_box (fun g_ W_ => RailSt base w W_ g g_ A0 c0 A1 c1 A2 c2 f0 f1 f2 #[.string a0, .string a1, .int .i64 a2] 91) ?hg (N := 3) ?hd (cs := #[.string a0, .string a1, .int .i64 a2]) (t := 91) ?hr ?hF ?_; (case hd => rfl); (case hg => rfl); (case hr => first | (go_simp; done) | (go_simp; rfl)); (case hF => exact ⟨HI.out.step (below_alloc (Below.refl _ _) _), heap_alloc_new _ _, (Below.refl base w).alloc hB0 _⟩); intro bl w1 hh; obtain ⟨z0, z1, z2⟩ := hh.s0; have HS1 := ak_ hh; clear hh) | (go_at_call 96; refine (impl_IsName.calls k a0 false w1 HT.out).mono ?_; rintro e w2 ⟨rfl, hb2⟩; have HS2 := ak_ (HS1.out.step hb2.below); clear hb2 z0 z1 z2; obtain ⟨z0, z1, z2⟩ := HS2.out.s0))
  go_ret
  exact ⟨rfl, HS2.out.rig.own, HS2.out.below⟩
 | true =>
  simp only [if_true] at h
  by_cases hs : sideB a1 = true
  rotate_left
  ·rw [if_neg hs] at h
   simp only [Option.some.injEq, Prod.mk.injEq] at h
   obtain ⟨rfl, rfl⟩ := h
   obtain ⟨k1, k2, k3⟩ := sideB_no hs
   have n1 := ne_of_beq k1
   have n2 := ne_of_beq k2
   have n3 := ne_of_beq k3
   go_enter Try.func70, Try.ntmps70
   go_wp2_with (first | ((with_reducible refine gate_dst (N := 3) rfl ?_); refine hand_box (fun g_ W_ => RailSt base w W_ g g_ A0 c0 A1 c1 A2 c2 f0 f1 f2 #[.string a0, .string a1, .int .i64 a2] 91) ?hg (N := 3) ?hd (cs := #[.string a0, .string a1, .int .i64 a2]) (t := 91) ?hr ?hF ?_; (case hd => rfl); (case hg => rfl); (case hr => first | (go_simp; done) | (go_simp; rfl)); (case hF => exact ⟨HI.out.step (below_alloc (Below.refl _ _) _), heap_alloc_new _ _, (Below.refl base w).alloc hB0 _⟩); intro bl w1 hh; obtain ⟨z0, z1, z2⟩ := hh.s0; have HS1 := ak_ hh; clear hh) | (go_at_call 96; refine (impl_IsName.calls k a0 true w1 HT.out).mono ?_; rintro e w2 ⟨rfl, hb2⟩; have HS2 := ak_ (HS1.out.step hb2.below); clear hb2 z0 z1 z2; obtain ⟨z0, z1, z2⟩ := HS2.out.s0))
   go_ret
   exact ⟨rfl, HS2.out.rig.own, HS2.out.below⟩
  ·rw [if_pos hs] at h
   obtain ⟨u, hu2, h⟩ := ob_ h
   have HU := ak_ hu2
   clear hu2
   rcases sideB_yes hs with k1 | ⟨k1, k2⟩ | ⟨k1, k2, k3⟩ <;> (
    have n1 := ne_of_beq k1
    (try have n2 := ne_of_beq k2)
    (try have n3 := ne_of_beq k3)
    go_enter Try.func70, Try.ntmps70
    go_upto_if 24 with (first | ((with_reducible refine gate_dst (N := 3) rfl ?_); refine hand_box (fun g_ W_ => RailSt base w W_ g g_ A0 c0 A1 c1 A2 c2 f0 f1 f2 #[.string a0, .string a1, .int .i64 a2] 91) ?hg (N := 3) ?hd (cs := #[.string a0, .string a1, .int .i64 a2]) (t := 91) ?hr ?hF ?_; (case hd => rfl); (case hg => rfl); (case hr => first | (go_simp; done) | (go_simp; rfl)); (case hF => exact ⟨HI.out.step (below_alloc (Below.refl _ _) _), heap_alloc_new _ _, (Below.refl base w).alloc hB0 _⟩); intro bl w1 hh; obtain ⟨z0, z1, z2⟩ := hh.s0; have HS1 := ak_ hh; clear hh) | (go_at_call 96; refine (impl_IsName.calls k a0 true w1 HT.out).mono ?_; rintro e w2 ⟨rfl, hb2⟩; have HS2 := ak_ (HS1.out.step hb2.below); clear hb2 z0 z1 z2; obtain ⟨z0, z1, z2⟩ := HS2.out.s0) | (go_at_call 85; refine (impl_within.calls a2 1 30 u w2 HU.out).mono ?_; rintro e w3 ⟨rfl, hb3⟩; have HS3 := ak_ (HS2.out.step hb3.below); clear hb3 z0 z1 z2; obtain ⟨z0, z1, z2⟩ := HS3.out.s0))
    clear n1 k1
    (try clear n2 k2)
    (try clear n3 k3)
    cases u with
    | false =>
     simp only [Bool.false_eq_true, if_false, Option.some.injEq, Prod.mk.injEq] at h
     obtain ⟨rfl, rfl⟩ := h
     go_wp2_with fail
     go_ret
     exact ⟨rfl, HS3.out.rig.own, HS3.out.below⟩
    | true =>
     simp only [if_true] at h
     obtain ⟨i, hi, h⟩ := ob_ h
     have HX := ak_ hi
     clear hi
     go_upto_region 7 with fail
     refine hand_tail 5 (fun W => RailSt base w W g bl A0 c0 A1 c1 A2 c2 f0 f1 f2 #[.string a0, .string a1, .int .i64 a2] 91) (by kernel_rfl) (by kernel_rfl) (HS3.out.step (below_drew (Below.refl _ _))) ?_
     clear z0 z1 z2
     rintro W hS
     obtain ⟨z0, z1, z2⟩ := hS.s0
     have x0 := hS.rig.c0
     have x1 := hS.rig.c1
     have x2 := hS.rig.c2
     have hu2 := Try.underlying31
     have HSW := ak_ hS
     clear hS
     simp only [List.take_succ_cons, List.take_zero, List.drop_succ_cons, List.drop_zero]
     repeat still_step
     refine wpStill_nil ?_
     go_upto_if 29 with (go_at_call 68; refine (impl_railNamed.calls A0 c0 f0 A1 c1 f1 A2 c2 f2 a0 i W (Kd.R_reads' HSW.out.rig.r0).2.2 (Kd.R_reads' HSW.out.rig.r0).2.1 (Kd.R_reads' HSW.out.rig.r1).2.2 (Kd.R_reads' HSW.out.rig.r1).2.1 (Kd.R_reads' HSW.out.rig.r2).2.2 (Kd.R_reads' HSW.out.rig.r2).2.1 HX.out).mono ?_; rintro e w4 ⟨rfl, hb4⟩; have HS4 := ak_ (HSW.out.step hb4); clear hb4 z0 z1 z2 x0 x1 x2; obtain ⟨z0, z1, z2⟩ := HS4.out.s0)
     clear hs
     by_cases hi0 : i ≥ 0
     ·rw [if_pos hi0] at h
      simp only [Option.some.injEq, Prod.mk.injEq] at h
      obtain ⟨rfl, rfl⟩ := h
      have hid : decide ((0 : Int) ≤ i) = true := dt_ hi0
      go_wp2_with fail
      go_ret
      exact ⟨rfl, HS4.out.rig.own, HS4.out.below⟩
     ·rw [if_neg hi0] at h
      have hid : decide ((0 : Int) ≤ i) = false := decide_eq_false hi0
      have x0 := HS4.out.rig.c0
      by_cases hf : (f0.length : Int) = 10
      ·rw [if_pos hf] at h
       simp only [Option.some.injEq, Prod.mk.injEq] at h
       obtain ⟨rfl, rfl⟩ := h
       have hfe : ((f0.length : Int) == 10) = true := by simpa using hf
       go_wp2_with fail
       go_ret
       exact ⟨rfl, HS4.out.rig.own, HS4.out.below⟩
      ·rw [if_neg hf] at h
       have hfe : ((f0.length : Int) == 10) = false := by simpa using hf
       by_cases hl : f0.length < 1000
       ·rw [if_pos hl] at h
        simp only [Option.some.injEq, Prod.mk.injEq] at h
        obtain ⟨rfl, rfl⟩ := h
        have HLM := ak_ hl
        clear hf hl
        have y0 : w4.drew.cell? ⟨g, 0, none⟩ = some (.slice A0 f0.length c0) := HS4.out.rig.c0
        have z0 : w4.drew.cell? ⟨bl, 0, none⟩ = some (.string a0) := HS4.out.s0.1
        have z1 : w4.drew.cell? ⟨bl, 1, none⟩ = some (.string a1) := HS4.out.s0.2.1
        have z2 : w4.drew.cell? ⟨bl, 2, none⟩ = some (.int .i64 a2) := HS4.out.s0.2.2
        go_upto_region 11 with fail
        refine start_ (n := 11) (S := fun w' => w'.cell? ⟨g, 0, none⟩ = some (.slice A0 f0.length c0) ∧ w'.cell? ⟨bl, 0, none⟩ = some (.string a0) ∧ w'.cell? ⟨bl, 1, none⟩ = some (.string a1) ∧ w'.cell? ⟨bl, 2, none⟩ = some (.int .i64 a2)) (ds := [7, 10]) #[F_,F_,F_,F_,F_,F_,F_,F_,F_,F_,F_] (by kernel_rfl) rfl rfl ⟨y0, z0, z1, z2⟩ (fun hHeld => ?_); refine with_tabW impl_addRail.tab11 impl_addRail.bits11 (fun HT_ HW_ => ?_)
        generalize hW5 : w4.drew = W5 at hHeld y0 z0 z1 z2 ⊢
        have HS5 : Aside0 (RailSt base w W5 g bl A0 c0 A1 c1 A2 c2 f0 f1 f2 #[.string a0, .string a1, .int .i64 a2] 91) := ⟨by rw [← hW5]; exact HS4.out.step (below_drew (Below.refl _ _))⟩
        clear hW5
        refine pv (i := 0) (N := some 44) HT_ ?_
        refine pv (i := 1) (N := some 45) HT_ ?_
        refine pv (i := 2) (N := some 46) HT_ ?_
        refine pv (i := 3) (N := some 47) HT_ ?_
        refine take_ (i := 4) (N := some 48) (v := ?_) (a' := ?_) #[T_,T_,T_,T_,T_,F_,F_,F_,F_,F_,F_] rfl rfl (take_ofW HT_.out HW_.out (by kernel_rfl)) (fun _ _ _ h => h) (Or.inl ⟨by rfl, ?_⟩) hHeld ?_ ?_
        rotate_left
        ·rintro w' ⟨s0, s1, s2, s3⟩
         go_simp
         with_reducible rfl
        rotate_left
        ·simp only [Act.put, sT_, s0_, sS_, i64_w, i32_w]
         rfl
        refine take_ (i := 5) (N := some 49) (v := ?_) (a' := ?_) #[T_,T_,T_,T_,T_,T_,F_,F_,F_,F_,F_] rfl rfl (take_ofW HT_.out HW_.out (by kernel_rfl)) (fun _ _ _ h => h) (Or.inl ⟨by rfl, ?_⟩) hHeld ?_ ?_
        rotate_left
        ·rintro w' ⟨s0, s1, s2, s3⟩
         go_simp
         with_reducible rfl
        rotate_left
        ·simp only [Act.put, sT_, s0_, sS_, i64_w, i32_w]
         rfl
        refine one_ (i := 6) (N := (some 50)) #[T_,T_,T_,T_,T_,T_,T_,F_,F_,F_,F_] rfl rfl (one_of HT_.out (by kernel_rfl)) (by decide) (fun K hK => ?_)
        refine event_step (v := .slice (some ⟨W5.heap.size, 0, none⟩) 1 1) (w1 := W5.alloc (.cells #[.string a0, .string a1, .int .i64 a2] 91)) (by rfl) (by first | (go_simp; done) | (go_simp; rfl)) ?_
        refine hK.out _ _ ⟨pw_cell_below (below_alloc (Below.refl W5.heap.size W5) _) y0, pw_cell_below (below_alloc (Below.refl W5.heap.size W5) _) z0, pw_cell_below (below_alloc (Below.refl W5.heap.size W5) _) z1, pw_cell_below (below_alloc (Below.refl W5.heap.size W5) _) z2⟩ (fun hHeld => ?_)
        clear hK K
        refine norm_ (a' := ?_) ?_ ?_
        rotate_left
        ·show Act.put _ (some 50) _ = _
         simp only [Act.put, sT_, s0_, sS_, i64_w, i32_w]
         rfl
        refine last_ (i := 7) (N := (some 51)) #[T_,T_,T_,T_,T_,T_,T_,T_,F_,F_,F_] rfl rfl (one_of HT_.out (by kernel_rfl)) (by decide) (fun K hK => ?_)
        refine Kd.R_append_step k91 (w0 := w) base (by rfl) (.tmp 48) (.tmp 50) 28 91 (.agg #[(.string ⟨#[]⟩), (.string ⟨#[]⟩), (.int .i64 0)]) 40 rfl Try.underlying28 info91 rfl (by decide) (by decide) (.slice A0 f0.length c0) f0 (⟨a0, a1, a2⟩ : S91) [.string a0, .string a1, .int .i64 a2] (fun _ => True) (fun _ => False) rfl rfl (k91_mkM _ _ _ _) (fun _ hk => hk.elim) (fun _ _ => trivial) HS5.out.rig.r0 HS5.out.below HS5.out.rig.lt (by have := HLM.out; omega) ?_
        intro v6 w6 ho hb hg hat
        obtain ⟨A6, c6, e6⟩ := Kd.R_slice ho
        subst e6
        have hP := HS5.out.rig.put0 hg ho
        have HP := ak_ hP
        have HB6 := ak_ hb
        clear ho hb hg hat hP
        refine hK.out _ _ ?_
        clear hK K
        refine norm_ (a' := ?_) ?_ ?_
        rotate_left
        ·show Act.put _ (some 51) _ = _
         simp only [Act.put, sT_, s0_, sS_, i64_w, i32_w]
         rfl
        refine pv (i := 8) (N := some 52) HT_ ?_
        refine pv (i := 9) (N := some 53) HT_ ?_
        refine last_ (i := 10) (N := none) #[T_,T_,T_,T_,T_,T_,T_,T_,T_,T_,T_] rfl rfl (one_of HT_.out (by kernel_rfl)) (by decide) (fun K hK => ?_)
        refine skip_ (w1 := w6.setCell ⟨g, 0, none⟩ (.slice A6 (f0 ++ [(⟨a0, a1, a2⟩ : S91)]).length c6)) (by rfl) rfl ?_ ?_
        ·have fz := HP.out.1.1
         have xz := HP.out.1.2
         first | (go_simp; done) | (go_simp; rfl)
        refine hK.out _ _ ?_
        clear hK K
        refine done_ (done_of HT_.out (by kernel_rfl)) ?_
        obtain ⟨w7, hw7⟩ : ∃ w7, w7 = w6.setCell ⟨g, 0, none⟩ (.slice A6 (f0 ++ [(⟨a0, a1, a2⟩ : S91)]).length c6) := ⟨_, rfl⟩
        have HR7 : Aside0 (RigOwn base w7 g (f0 ++ [(⟨a0, a1, a2⟩ : S91)]) f1 f2) := ⟨by rw [hw7]; exact HP.out.2.own⟩
        have HB7 : Aside0 (Below base w w7) := ⟨by rw [hw7]; exact HB6.out.setCell HS5.out.rig.ge _⟩
        rw [← hw7]
        clear hw7 HP HB6 HS5 y0 z0 z1 z2
        go_wp2_with fail
        go_ret
        exact ⟨rfl, HR7.out, HB7.out⟩
       ·rw [if_neg hl] at h
        exact absurd h (by simp))


/-! ### slices_Index_string_string: function 77 -/
def slices_Index_string_string.l0 : Nat → List ByteArray → ByteArray → Int → Int → Option (Int)
 | 0, _, _, _, _ => none
 | k + 1, x0, x1, x7, x8 => if x8 < x7 then (if 0 ≤ x8 then (if x8 < (x0.length : Int) then (if x1.toList = (rdOf ByteArray.empty x0 x8).toList then (some x8) else (slices_Index_string_string.l0 k x0 x1 x7 (wrap64 (x8 + 1)))) else (none)) else (none)) else (some (-1))
def slices_Index_string_string.f (k : Nat) (l0 : List ByteArray) (a1 : ByteArray) : Option (Int) := slices_Index_string_string.l0 k l0 a1 (l0.length : Int) 0
set_option maxHeartbeats 8000000 in
set_option maxRecDepth 100000 in
theorem slices_Index_string_string.calls (k : Nat) (A0 : Option Addr) (c0 : Nat) (l0 : List ByteArray) (a1 : ByteArray) (r : Int) (w : World) (hr0 : Kd.C Kd.string w A0 l0.length l0) (hc0 : l0.length ≤ c0) (h : slices_Index_string_string.f k l0 a1 = some r) :
  Calls Try.prog 77 #[.slice A0 l0.length c0, .string a1] w fun e w' => e = .returned (.int .i64 r) ∧ Drawn0 w w' := by
 have HR0 := ak_ hr0
 have HC0 := ak_ hc0
 clear hr0 hc0
 have H : (slices_Index_string_string.l0 k l0 a1 (l0.length : Int) 0) = some r := h
 clear h
 have H' := ak_ H
 clear H
 go_enter Try.func77, Try.ntmps77
 go_wp2
 go_loopg [8] k (fun kq v8 w' => ∃ (x8_1 : Int), v8 = .int .i64 x8_1 ∧ Aside0 (slices_Index_string_string.l0 kq l0 a1 (l0.length : Int) x8_1 = some r) ∧ Aside0 (kq ≤ k) ∧ Drawn0 w w')
 case atStart => exact ⟨(0), fr_, H', ⟨Nat.le_refl _⟩, by repeat (first | exact Drawn0.refl _ | apply Drawn0.step)⟩
 case round =>
  clear H'
  try clear p2
  obtain ⟨x8_1, rfl, HA, HK1, ⟨m1, rfl⟩⟩ := hrel
  cases gk with
  | zero => exact absurd HA.out (by simp [slices_Index_string_string.l0])
  | succ k1 =>
   have H := HA.out
   clear HA
   simp only [slices_Index_string_string.l0] at H
   by_cases c3 : x8_1 < (l0.length : Int)
   ·rw [if_pos c3] at H
    have c3b0 : decide (x8_1 < (l0.length : Int)) = true := dt_ c3
    clear c3
    by_cases c4 : 0 ≤ x8_1
    ·rw [if_pos c4] at H
     have c4b0 : decide (0 ≤ x8_1) = true := dt_ c4
     clear c4
     by_cases c5 : x8_1 < (l0.length : Int)
     ·rw [if_pos c5] at H
      have c5b0 : decide (x8_1 < (l0.length : Int)) = true := dt_ c5
      clear c5
      by_cases c6 : a1.toList = (rdOf ByteArray.empty l0 x8_1).toList
      ·rw [if_pos c6] at H
       have c6b0 : (a1.toList == (rdOf ByteArray.empty l0 x8_1).toList) = true := beq_iff_eq.mpr c6
       have c6b1 : (a1.toList != (rdOf ByteArray.empty l0 x8_1).toList) = false := bne_eq_false_iff_eq.mpr c6
       clear c6
       obtain rfl := Option.some.inj H
       have p172 : 0 ≤ (x8_1 : Int) := od_
       have q172 : x8_1 < (l0.length : Int) := od_
       obtain ⟨ad172, e172, hx172_0⟩ := Kd.at_string HR0.out x8_1 p172 q172
       cases e172
       replace p172 := eq_true p172
       replace q172 := eq_true q172
       go_wp2
       go_ret
       exact ⟨by first | rfl | (simp; done) | (simp [*]; done), by repeat (first | exact Drawn0.refl _ | apply Drawn0.step)⟩
      ·rw [if_neg c6] at H
       have c6b0 : (a1.toList == (rdOf ByteArray.empty l0 x8_1).toList) = false := beq_eq_false_iff_ne.mpr c6
       have c6b1 : (a1.toList != (rdOf ByteArray.empty l0 x8_1).toList) = true := bne_iff_ne.mpr c6
       have H' := ak_ H
       clear H
       have p172 : 0 ≤ (x8_1 : Int) := od_
       have q172 : x8_1 < (l0.length : Int) := od_
       obtain ⟨ad172, e172, hx172_0⟩ := Kd.at_string HR0.out x8_1 p172 q172
       cases e172
       replace p172 := eq_true p172
       replace q172 := eq_true q172
       go_wp2
       go_roundg k1
       case measure => have := HK1.out; omega
       case rel => exact ⟨(wrap64 (x8_1 + 1)), fr_, H', ⟨by have := HK1.out; omega⟩, by repeat (first | exact Drawn0.refl _ | apply Drawn0.step)⟩
     ·rw [if_neg c5] at H
      exact absurd H (by simp)
    ·rw [if_neg c4] at H
     exact absurd H (by simp)
   ·rw [if_neg c3] at H
    have c3b0 : decide (x8_1 < (l0.length : Int)) = false := decide_eq_false c3
    clear c3
    obtain rfl := Option.some.inj H
    go_wp2
    go_ret
    exact ⟨by first | rfl | (simp; done) | (simp [*]; done), by repeat (first | exact Drawn0.refl _ | apply Drawn0.step)⟩

/-! ### slices_Contains_string_string: function 43 -/
def slices_Contains_string_string.f (k : Nat) (l0 : List ByteArray) (a1 : ByteArray) : Option (Bool) := (slices_Index_string_string.f k l0 a1).bind fun t173 => (some (decide (t173 ≥ 0)))
set_option maxHeartbeats 8000000 in
set_option maxRecDepth 100000 in
theorem slices_Contains_string_string.calls (k : Nat) (A0 : Option Addr) (c0 : Nat) (l0 : List ByteArray) (a1 : ByteArray) (r : Bool) (w : World) (hr0 : Kd.C Kd.string w A0 l0.length l0) (hc0 : l0.length ≤ c0) (h : slices_Contains_string_string.f k l0 a1 = some r) :
  Calls Try.prog 43 #[.slice A0 l0.length c0, .string a1] w fun e w' => e = .returned (.bool r) ∧ Drawn0 w w' := by
 have HR0 := ak_ hr0
 have HC0 := ak_ hc0
 clear hr0 hc0
 have H : ((slices_Index_string_string.f k l0 a1).bind fun t173 => (some (decide (t173 ≥ 0)))) = some r := h
 clear h
 replace H := ob_ H
 obtain ⟨t173, A30, H⟩ := H
 (try dsimp only at H)
 have A3 := ak_ A30
 clear A30
 obtain rfl := Option.some.inj H
 go_enter Try.func43, Try.ntmps43
 go_wp2_with (first | ((with_reducible refine gate_callee (f := 77) rfl ?_); refine goesL_ (some 7) rfl rfl Try.func77 (by kernel_rfl) rfl #[.slice A0 l0.length c0, .string a1] rfl ln_ ?_; (with_reducible refine (slices_Index_string_string.calls k _ _ l0 a1 t173 _ (kc_ HR0.out) HC0.out A3.out).mono ?_); rintro e w' ⟨rfl, ⟨nd, rfl⟩⟩; refine ⟨_, rfl, ?_⟩))
 go_ret
 exact ⟨by first | rfl | (simp; done) | (simp [*]; done), by repeat (first | exact Drawn0.refl _ | apply Drawn0.step)⟩

/-! ### impl_addLine: function 71 -/
open Go.Proofs.YtcenjcgfdghfnaaW.Hand
def impl_addLine.f (k : Nat) (f0 : List S91) (f1 : List ByteArray) (f2 : List S41) (a : ByteArray) : Option (List ByteArray × Int) :=
 (impl_IsName.f k a).bind fun t => if t = true then ((slices_Contains_string_string.f k f1 a).bind fun u => if u = true then some (f1, 5) else if (f1.length : Int) = 60 then some (f1, 8) else if f1.length < 1000 then some (f1 ++ [a], 0) else none) else some (f1, 3)
set_option maxRecDepth 100000 in
set_option maxHeartbeats 4000000 in
theorem impl_addLine.calls (k base : Nat) (g : Nat) (f0 : List S91) (f1 : List ByteArray) (f2 : List S41) (a : ByteArray) (q : List ByteArray) (r : Int) (w : World) (hI : RigOwn base w g f0 f1 f2) (h : impl_addLine.f k f0 f1 f2 a = some (q, r)) :
  Calls Try.prog 71 #[.pointer (some ⟨g, 0, none⟩), .string a] w fun e w' => e = .returned (.int .i64 r) ∧ RigOwn base w' g f0 q f2 ∧ Below base w w' := by
 obtain ⟨A0, c0, A1, c1, A2, c2, hI⟩ := hI
 have HI := ak_ hI
 have hB0 := hI.lt
 clear hI
 unfold impl_addLine.f at h
 obtain ⟨t, ht, h⟩ := ob_ h
 have HT := ak_ ht
 clear ht
 go_enter Try.func71, Try.ntmps71
 go_upto_if 5 with (go_at_call 96; refine (impl_IsName.calls k a t w HT.out).mono ?_; rintro e w1 ⟨rfl, hb1⟩; have HI1 := ak_ (HI.out.step hb1.below); have HB1 := ak_ (below_mono hb1.below hB0); clear hb1)
 cases t with
 | false =>
  simp only [Bool.false_eq_true, if_false, Option.some.injEq, Prod.mk.injEq] at h
  obtain ⟨rfl, rfl⟩ := h
  go_wp2_with fail
  go_ret
  exact ⟨rfl, HI1.out.own, HB1.out⟩
 | true =>
  simp only [if_true] at h
  obtain ⟨u, hu, h⟩ := ob_ h
  have HU := ak_ hu
  clear hu
  have x1 := HI1.out.c1
  have hB1 := HI1.out.lt
  go_upto_if 9 with (go_at_call 43; refine (slices_Contains_string_string.calls k A1 c1 f1 a u w1 (Kd.R_reads' HI1.out.r1).2.2 (Kd.R_reads' HI1.out.r1).2.1 HU.out).mono ?_; rintro e w2 ⟨rfl, hb2⟩; have HI2 := ak_ (HI1.out.step hb2.below); have HB2 := ak_ (below_trans HB1.out (below_mono hb2.below hB1)); clear hb2)
  cases u with
  | true =>
   simp only [if_true, Option.some.injEq, Prod.mk.injEq] at h
   obtain ⟨rfl, rfl⟩ := h
   go_wp2_with fail
   go_ret
   exact ⟨rfl, HI2.out.own, HB2.out⟩
  | false =>
   simp only [Bool.false_eq_true, if_false] at h
   clear x1
   have x2 := HI2.out.c1
   by_cases hf : (f1.length : Int) = 60
   ·rw [if_pos hf] at h
    simp only [Option.some.injEq, Prod.mk.injEq] at h
    obtain ⟨rfl, rfl⟩ := h
    have hfd : decide ((f1.length : Int) = 60) = true := dt_ hf
    have hfe : ((f1.length : Int) == 60) = true := by simpa using hf
    go_wp2_with fail
    go_ret
    exact ⟨rfl, HI2.out.own, HB2.out⟩
   ·rw [if_neg hf] at h
    have hfd : decide ((f1.length : Int) = 60) = false := decide_eq_false hf
    have hfe : ((f1.length : Int) == 60) = false := by simpa using hf
    by_cases hl : f1.length < 1000
    ·rw [if_pos hl] at h
     simp only [Option.some.injEq, Prod.mk.injEq] at h
     obtain ⟨rfl, rfl⟩ := h
     have HLM := ak_ hl
     clear hf hl
     go_wp2_with (first
      | ((with_reducible refine gate_builtin (b := .append) (xs := #[.tmp 27, .tmp 29]) rfl ?_); at_builtin; refine Kd.R_append Kd.string (w0 := w) base rfl (.tmp 27) (.tmp 29) 23 9 (.string ⟨#[]⟩) 16 rfl Try.underlying23 info9 rfl (by decide) (by omega) (.slice A1 f1.length c1) f1 a [.string a] (fun _ => True) (fun _ => False) rfl rfl ?aP (fun _ hk => hk.elim) ?aF ?aO ?aB ?aS ?aL ?_; (case aP => exact rfl); (case aB => exact HB2.out); (case aF => exact (fun _ _ => trivial)); (case aO => exact HI2.out.r1); (case aS => exact HI2.out.lt); (case aL => have := HLM.out; omega); intro v3 w3 ho hb hg hat; obtain ⟨A3, c3, e3⟩ := Kd.R_slice ho; subst e3; have hP := HI2.out.put1 hg ho; have fz := hP.1.1; have xz := hP.1.2; have HP := ak_ hP.2; have HB3 := ak_ hb; have hB3 := Nat.le_trans hB0 hb.size; clear x2 ho hb hg hat hP)
      | (refine hand_store (fun w4 => RigOwn base w4 g f0 (f1 ++ [a]) f2 ∧ Below base w w4) (t := 23) (p := 32) (v := .tmp 30) (w1 := w3.setCell ⟨g, 1, none⟩ (.slice A3 (f1 ++ [a]).length c3)) ?hg4 rfl ?hN4 ?hr4 ?hF4 ?_; (case hg4 => rfl); (case hN4 => rfl); (case hr4 => first | (go_simp; done) | (go_simp; rfl)); (case hF4 => exact ⟨HP.out.own, HB3.out.setCell HI.out.ge _⟩); clear fz xz; rintro w4 ⟨hI4, hB4⟩; have HI4 := ak_ hI4; have HB4 := ak_ hB4; clear hI4 hB4))
     go_ret
     exact ⟨rfl, HI4.out, HB4.out⟩
    ·rw [if_neg hl] at h
     exact absurd h (by simp)


/-! ### impl_belayOf: function 44 -/
def impl_belayOf.go : List S41 → ByteArray → Int → Int
 | [], _, _ => -1
 | x :: xs, a, i => if x.f0.toList = a.toList then i else impl_belayOf.go xs a (i + 1)
def impl_belayOf.f (l0_0 : List S91) (l0_1 : List ByteArray) (l0_2 : List S41) (a1 : ByteArray) : Option Int := some (impl_belayOf.go l0_2 a1 0)
theorem impl_belayOf.pred (x : S41) (name : ByteArray) (b : Bool) (hq : (x.f0.toList == name.toList) = b) (B : Nat) (w : World) (hB : w.heap[B]? = some (.cells #[.string name] 9 (0, 0))) :
  Calls Try.prog 79 #[.agg #[.string x.f0, .string x.f1, .int .i64 x.f2], .pointer (some ⟨B, 0, none⟩)] w fun e w' => e = .returned (.bool b) ∧ Below w.heap.size w w' := by
 have hc : w.cell? ⟨B, 0, none⟩ = some (.string name) := (blk_cell hB 0).trans rfl
 have hlt := blk_lt hB
 have hne : B ≠ w.heap.size := by omega
 clear hB
 have hu := Try.underlying41
 go_enter Try.func79, Try.ntmps79
 go_wp2
 go_ret
 exact ⟨rfl, (Below.refl _ _).alloc (Nat.le_refl _) _⟩
theorem impl_belayOf.step (l : List S41) (a : ByteArray) (j : Nat) (h : j < l.length) : impl_belayOf.go (l.drop j) a j = if (rd_T41 l j).f0.toList = a.toList then (j : Int) else impl_belayOf.go (l.drop (j + 1)) a ((j + 1 : Nat) : Int) := by
 rw [List.drop_eq_getElem_cons h, impl_belayOf.go]
 have e : rd_T41 l (j : Int) = l[j] := by
  unfold rd_T41
  rw [Int.toNat_natCast, List.getD_eq_getElem?_getD, List.getElem?_eq_getElem h]
  rfl
 rw [e]
 rfl
set_option maxHeartbeats 2000000 in
theorem impl_belayOf.loop (A0 : Option Addr) (c0 : Nat) (l0 : List S41) (name : ByteArray) (B : Nat) (w : World) (hr : Kd.C k41 w A0 l0.length l0) (hB : w.heap[B]? = some (.cells #[.string name] 9 (0, 0))) :
  Calls Try.prog 78 #[.slice A0 l0.length c0, .func (.func 79) #[] #[.pointer (some ⟨B, 0, none⟩)]] w fun e w' => e = .returned (.int .i64 (impl_belayOf.go l0 name 0)) ∧ Below w.heap.size w w' := by
 have eg : ∀ args w, (callFunc 79 args).run Try.prog w = .ok (.enter 79 args) w := enters_of Try.func79 (by kernel_rfl) rfl
 have HR := ak_ hr
 have hm := hr.2.1
 have HBX := ak_ hB
 have HG : Aside0 (impl_belayOf.go l0 name 0 = impl_belayOf.go (l0.drop 0) name ((0 : Nat) : Int)) := ⟨rfl⟩
 clear hr hB
 go_enter Try.func78, Try.ntmps78
 go_wp2
 go_loopg [5, 8] l0.length (fun gg _ v8 wr => ∃ j : Nat, v8 = .int .i64 (j : Int) ∧ Aside0 (j ≤ l0.length ∧ l0.length - j ≤ gg) ∧ Aside0 (impl_belayOf.go l0 name 0 = impl_belayOf.go (l0.drop j) name (j : Int)) ∧ Aside0 (Below w.heap.size w wr))
 case atStart => exact ⟨0, rfl, ⟨Nat.zero_le _, by omega⟩, HG, ⟨Below.refl _ _⟩⟩
 case round =>
  clear HG
  obtain ⟨j, rfl, HJ, HG, HB⟩ := hrel
  by_cases hlt : j < l0.length
  ·have p0 : (0 : Int) ≤ (j : Int) := Int.natCast_nonneg j
   have q0 : (j : Int) < (l0.length : Int) := by omega
   obtain ⟨ad, e0, hx0, hx1, hx2⟩ := at_T41 HR.out (j : Int) p0 q0
   cases e0
   replace hx0 := cq_ HB hx0
   replace hx1 := cq_ HB hx1
   replace hx2 := cq_ HB hx2
   have HG2 := ak_ (HG.out.trans (impl_belayOf.step l0 name j hlt))
   clear HG
   have hBw : wr.heap[B]? = some (.cells #[.string name] 9 (0, 0)) := (HB.out.block B (blk_lt HBX.out)).trans HBX.out
   rw [Int.toNat_natCast] at hx0 hx1 hx2
   cases hq : ((rd_T41 l0 (j : Int)).f0.toList == name.toList) with
   | true =>
    have hcall := impl_belayOf.pred (rd_T41 l0 (j : Int)) name true hq B wr hBw
    have HC := ak_ hcall
    have HV : Aside0 (impl_belayOf.go l0 name 0 = (j : Int)) := ⟨by rw [HG2.out, if_pos (by simpa using hq)]⟩
    clear hcall hq hBw HG2
    go_wp2_with (go_at_fn 79; refine HC.out.mono ?_; rintro e w' ⟨rfl, hb⟩)
    go_ret
    exact ⟨by rw [HV.out]; rfl, HB.out.trans (hb.mono HB.out.size)⟩
   | false =>
    have hcall := impl_belayOf.pred (rd_T41 l0 (j : Int)) name false hq B wr hBw
    have HC := ak_ hcall
    have HV : Aside0 (impl_belayOf.go l0 name 0 = impl_belayOf.go (l0.drop (j + 1)) name ((j + 1 : Nat) : Int)) := ⟨by rw [HG2.out, if_neg (by simpa using hq)]⟩
    clear hcall hq hBw HG2
    go_wp2_with (go_at_fn 79; refine HC.out.mono ?_; rintro e w' ⟨rfl, hb⟩)
    go_roundg (l0.length - (j + 1))
    case measure => have := HJ.out; omega
    case rel => exact ⟨j + 1, by go_num, ⟨by omega, by omega⟩, HV, ⟨HB.out.trans (hb.mono HB.out.size)⟩⟩
  ·have he : j = l0.length := by have := HJ.out; omega
   have HV : Aside0 (impl_belayOf.go l0 name 0 = -1) := ⟨by rw [HG.out, he, List.drop_length]; rfl⟩
   have hlt2 : decide (j < l0.length) = false := decide_eq_false hlt
   clear HG he hlt
   go_wp2
   go_ret
   exact ⟨by rw [HV.out]; rfl, HB.out⟩
theorem impl_belayOf.calls (A0_0 : Option Addr) (c0_0 : Nat) (l0_0 : List S91) (A0_1 : Option Addr) (c0_1 : Nat) (l0_1 : List ByteArray) (A0_2 : Option Addr) (c0_2 : Nat) (l0_2 : List S41) (a1 : ByteArray) (r : Int) (w : World) (_hr0_0 : Kd.C k91 w A0_0 l0_0.length l0_0) (_hc0_0 : l0_0.length ≤ c0_0) (_hr0_1 : Kd.C Kd.string w A0_1 l0_1.length l0_1) (_hc0_1 : l0_1.length ≤ c0_1) (hr0_2 : Kd.C k41 w A0_2 l0_2.length l0_2) (_hc0_2 : l0_2.length ≤ c0_2) (h : impl_belayOf.f l0_0 l0_1 l0_2 a1 = some r) :
  Calls Try.prog 44 #[.agg #[.slice A0_0 l0_0.length c0_0, .slice A0_1 l0_1.length c0_1, .slice A0_2 l0_2.length c0_2], .string a1] w fun e w' => e = .returned (.int .i64 r) ∧ Below w.heap.size w w' := by
 have hr := Option.some.inj h
 have hbb : Below w.heap.size w ((w.alloc (.cells #[.slice A0_0 l0_0.length c0_0, .slice A0_1 l0_1.length c0_1, .slice A0_2 l0_2.length c0_2] 31)).alloc (.cells #[.string a1] 9)) := below_alloc (below_alloc (Below.refl _ _) _) _
 have hcon := impl_belayOf.loop A0_2 c0_2 l0_2 a1 (w.heap.size + 1) ((w.alloc (.cells #[.slice A0_0 l0_0.length c0_0, .slice A0_1 l0_1.length c0_1, .slice A0_2 l0_2.length c0_2] 31)).alloc (.cells #[.string a1] 9)) (Kd.C_below hr0_2 hbb) (by have := heap_alloc_new (w.alloc (.cells #[.slice A0_0 l0_0.length c0_0, .slice A0_1 l0_1.length c0_1, .slice A0_2 l0_2.length c0_2] 31)) (.cells #[.string a1] 9); simpa using this)
 rw [hr] at hcon
 have HC := ak_ hcon
 have HBB := ak_ hbb
 clear hcon hr h hr0_2 hbb
 have hmf : ∀ (fn : Fn) (first cap : Array Value) (w : World), (Instr.makeFunc fn first cap).run Try.prog w = .ok (.func fn first cap) w := fun _ _ _ _ => rfl
 have hu := Try.underlying31
 have c0 : ((w.alloc (.cells #[.slice A0_0 l0_0.length c0_0, .slice A0_1 l0_1.length c0_1, .slice A0_2 l0_2.length c0_2] 31)).alloc (.cells #[.string a1] 9)).cell? ⟨w.heap.size, 2, none⟩ = some (.slice A0_2 l0_2.length c0_2) := (blk_cell ((Below.heap_alloc (w.alloc (.cells #[.slice A0_0 l0_0.length c0_0, .slice A0_1 l0_1.length c0_1, .slice A0_2 l0_2.length c0_2] 31)) _ w.heap.size (by simp)).trans (heap_alloc_new w (.cells #[.slice A0_0 l0_0.length c0_0, .slice A0_1 l0_1.length c0_1, .slice A0_2 l0_2.length c0_2] 31))) 2).trans rfl
 go_enter Try.func44, Try.ntmps44
 go_wp2_with (go_at_call 78; refine HC.out.mono ?_; rintro e w' ⟨rfl, hb⟩)
 go_ret
 exact ⟨rfl, HBB.out.trans (hb.mono (by simp; omega))⟩


end Go.Proofs.Ytcenjcgfdghfnaa.P
end
