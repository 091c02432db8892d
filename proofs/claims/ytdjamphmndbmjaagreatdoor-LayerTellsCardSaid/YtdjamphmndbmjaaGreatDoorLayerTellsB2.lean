/- Part 3 of 6 of the proof of LayerTellsCardSaid: a law of the given program, for every input; no condition is added. -/
import Derived.Test.YtdjamphmndbmjaaGreatDoorLayerTellsB1
import Derived.Lib.SliceRun
import Derived.Shelf.Abstract
import Derived.Shelf.SlSortCmp.QuietGrown
import Derived.Shelf.SlSortCmp.NoneTotal
import Derived.Shelf.SlGeneric
import Derived.Ground.SlsfProg
import Derived.Test.YtdjamphmndbmjaaGreatDoorProg
-- WRITTEN BY wip/drv.py, a program of this repo that drives the kit's print.py beside contracts typed by hand. Lean checks it.
namespace Go.Proofs.YtdjamphmndbmjaaGreatDoor.M
open Go.RowKit Go.Proofs.YtdjamphmndbmjaaGreatDoorW.PrintWords Go.Proofs.YtdjamphmndbmjaaGreatDoorW.PrintLast Go.Proofs.YtdjamphmndbmjaaGreatDoorW.PrintMore
attribute [local go_sem] max2_int min2_int max_two min_two max_three min_three max_four min_four   -- for this text's walks alone
set_option linter.unusedVariables false
set_option linter.unusedSimpArgs false

/-! ### term_Compare: function 42 -/
def term_Compare.f (k : Nat) (a0_0 : Int) (a0_1 : ByteArray) (a0_2 : ByteArray) (a1_0 : Int) (a1_1 : ByteArray) (a1_2 : ByteArray) : Option (Int) := (cmp_Compare_int.f a0_0 a1_0).bind fun t124 => ((strings_Compare.f a0_1 a1_1).bind fun t125 => ((strings_Compare.f a0_2 a1_2).bind fun t126 => ((cmp_Or_int.f k (([t124, t125, t126] : List Int))).bind fun t130 => (some t130))))
theorem term_Compare.mono : ∀ a0 a1 a2 a3 a4 a5 k, LeO (term_Compare.f k a0 a1 a2 a3 a4 a5) (term_Compare.f (k + 1) a0 a1 a2 a3 a4 a5) := by
  intro a0 a1 a2 a3 a4 a5 k
  unfold term_Compare.f
  repeat' first
      | (with_reducible exact cmp_Or_int.mono _ _)
      | (with_reducible exact LeO.refl _)
      | (with_reducible exact LeO.none _)
      | (with_reducible refine LeO.ite ?_ ?_)
      | (with_reducible refine LeO.bind ?_ (fun _ => ?_))
      | exact cmp_Or_int.mono _ _
      | exact LeO.none _
      | refine LeO.ite ?_ ?_
      | refine LeO.bind ?_ (fun _ => ?_)
def term_Compare.T1 : Bool × List (List Nat × List Nat) := (true, [([], []), ([0], [0]), ([], []), ([2], [2]), ([1, 3], [1, 3]), ([], []), ([5], [5]), ([], []), ([7], [7]), ([6, 8, 4], [6, 8]), ([], []), ([10], [10]), ([], []), ([12], [12]), ([11, 13, 9], [11, 13]), ([4, 9, 14], [4, 9, 14]), ([15, 14], [15]), ([16, 16, 0, 1, 2, 3, 4, 5, 6, 7, 8, 9, 10, 11, 12, 13, 14, 15, 16], [16])])
def term_Compare.B1 : List Nat := [0, 1, 0, 4, 15, 0, 32, 0, 128, 511, 0, 1024, 0, 4096, 16383, 32767, 65535, 131071]
theorem term_Compare.tab1 : rtab .any (opsOf Tryz.f42 1) = term_Compare.T1 := by kernel_rfl
theorem term_Compare.bits1 : waitsOk term_Compare.T1.2 term_Compare.B1 = true := by kernel_rfl
set_option maxHeartbeats 8000000 in
set_option maxRecDepth 100000 in
theorem term_Compare.callsG (k : Nat) (a0_0 : Int) (a0_1 : ByteArray) (a0_2 : ByteArray) (a1_0 : Int) (a1_1 : ByteArray) (a1_2 : ByteArray) (r : Int) (w : World) (h : term_Compare.f k a0_0 a0_1 a0_2 a1_0 a1_1 a1_2 = some r) :
    Calls Tryz.prog 42 #[.agg #[.int .i64 a0_0, .string a0_1, .string a0_2], .agg #[.int .i64 a1_0, .string a1_1, .string a1_2]] w fun e w' => e = .returned (.int .i64 r) ∧ GBelow w.heap.size w w' := by
  have hu23 := Tryz.underlying23
  have HB := Aside0.mk (GBelow.refl w.heap.size w)
  have H : ((cmp_Compare_int.f a0_0 a1_0).bind fun t124 => ((strings_Compare.f a0_1 a1_1).bind fun t125 => ((strings_Compare.f a0_2 a1_2).bind fun t126 => ((cmp_Or_int.f k (([t124, t125, t126] : List Int))).bind fun t130 => (some t130))))) = some r := h
  clear h
  replace H := Option.bind_eq_some_iff.mp H
  obtain ⟨t124, A30, H⟩ := H
  replace H : ((strings_Compare.f a0_1 a1_1).bind fun t125 => ((strings_Compare.f a0_2 a1_2).bind fun t126 => ((cmp_Or_int.f k (([t124, t125, t126] : List Int))).bind fun t130 => (some t130)))) = some r := H
  have A3 := Aside0.mk A30
  clear A30
  replace H := Option.bind_eq_some_iff.mp H
  obtain ⟨t125, A40, H⟩ := H
  replace H : ((strings_Compare.f a0_2 a1_2).bind fun t126 => ((cmp_Or_int.f k (([t124, t125, t126] : List Int))).bind fun t130 => (some t130))) = some r := H
  have A4 := Aside0.mk A40
  clear A40
  replace H := Option.bind_eq_some_iff.mp H
  obtain ⟨t126, A50, H⟩ := H
  replace H : ((cmp_Or_int.f k (([t124, t125, t126] : List Int))).bind fun t130 => (some t130)) = some r := H
  have A5 := Aside0.mk A50
  clear A50
  obtain ⟨y127, hy127⟩ : ∃ y_ : List Int, y_ = (([t124, t125, t126] : List Int)) := ⟨_, rfl⟩
  replace H : ((cmp_Or_int.f k y127).bind fun t130 => (some t130)) = some r := by first | (rw [hy127]; with_reducible exact H) | (have H2_ := (Option.bind_some _ _).symm.trans H; rw [hy127]; with_reducible exact H2_) | (have H2_ := (Option.bind_some _ _).symm.trans H; with_reducible exact H2_) | with_reducible exact H | (rw [hy127]; exact H) | exact H
  have Ny127 := Aside0.mk hy127
  clear hy127
  replace H := Option.bind_eq_some_iff.mp H
  obtain ⟨t130, A60, H⟩ := H
  replace H : (some t130) = some r := H
  have A6 := Aside0.mk A60
  clear A60
  obtain rfl := Option.some.inj H
  go_enter Tryz.func42, Tryz.ntmps42
  try go_wp2_with (first | ((with_reducible refine gate_dst (N := 2) rfl ?_); refine gbox_event ?hg (N := 2) ?hd (cs := #[.int .i64 a0_0, .string a0_1, .string a0_2]) (t := 23) ?hr ?_; (case hd => rfl); (case hg => rfl); (case hr => first | (go_simp; done) | (go_simp; rfl)); intro gb122 hg w7 hbox hb; have n0_ := Aside0.mk (gbelow_step (by repeat (first | (with_reducible first | exact HB.out | apply gbelow_alloc | apply pw_gbelow_drewN | apply gbelow_drew1) | exact HB.out)) hb); have n1_ := Aside0.mk (hbox); have n2_ := Aside0.mk ((by rw [hg]; exact (gbelow_size (by repeat (first | (with_reducible first | exact HB.out | apply gbelow_alloc | apply pw_gbelow_drewN | apply gbelow_drew1) | exact HB.out))) : w.heap.size ≤ gb122)); have n3_ := Aside0.mk ((by rw [hg]; exact (gbelow_size (by repeat (first | (with_reducible first | exact HB.out | apply gbelow_alloc | apply pw_gbelow_drewN | apply gbelow_drew1) | exact HB.out))) : w.heap.size ≤ gb122)); clear HB; have HB := n0_; have BK122 := n1_; have GW122 := n2_; have GE122 := n3_; clear n0_ n1_ n2_ n3_; clear hb hbox hg) | ((with_reducible refine gate_dst (N := 3) rfl ?_); refine gbox_event ?hg (N := 3) ?hd (cs := #[.int .i64 a1_0, .string a1_1, .string a1_2]) (t := 23) ?hr ?_; (case hd => rfl); (case hg => rfl); (case hr => first | (go_simp; done) | (go_simp; rfl)); intro gb123 hg w8 hbox hb; have n0_ := Aside0.mk (gblk_below (g := gb122) (o := .cells #[.int .i64 a0_0, .string a0_1, .string a0_2] 23 (0, 0)) (by (with_reducible repeat (first | refine blk_drewN ?_ _ | refine blk_drew ?_ | refine blk_alloc ?_ _)); exact BK122.out) hb); have n1_ := Aside0.mk (gbelow_step (by repeat (first | (with_reducible first | exact HB.out | apply gbelow_alloc | apply pw_gbelow_drewN | apply gbelow_drew1 | refine gbelow_set ?_ GE122.out) | exact HB.out)) hb); have n2_ := Aside0.mk (hbox); have n3_ := Aside0.mk ((by rw [hg]; exact (gbelow_size (by repeat (first | (with_reducible first | exact HB.out | apply gbelow_alloc | apply pw_gbelow_drewN | apply gbelow_drew1 | refine gbelow_set ?_ GE122.out) | exact HB.out))) : w.heap.size ≤ gb123)); have n4_ := Aside0.mk ((by rw [hg]; exact (gbelow_size (by repeat (first | (with_reducible first | exact HB.out | apply gbelow_alloc | apply pw_gbelow_drewN | apply gbelow_drew1 | refine gbelow_set ?_ GE122.out) | exact HB.out))) : w.heap.size ≤ gb123)); have n5_ := Aside0.mk ((by rw [hg]; exact Nat.ne_of_lt (blk_lt (g := gb122) (o := .cells #[.int .i64 a0_0, .string a0_1, .string a0_2] 23 (0, 0)) (by (with_reducible repeat (first | refine blk_drewN ?_ _ | refine blk_drew ?_ | refine blk_alloc ?_ _)); exact BK122.out)) : gb122 ≠ gb123)); have n6_ := Aside0.mk ((by rw [hg]; exact Nat.ne_of_gt (blk_lt (g := gb122) (o := .cells #[.int .i64 a0_0, .string a0_1, .string a0_2] 23 (0, 0)) (by (with_reducible repeat (first | refine blk_drewN ?_ _ | refine blk_drew ?_ | refine blk_alloc ?_ _)); exact BK122.out)) : gb123 ≠ gb122)); clear BK122; clear HB; have BK122 := n0_; have HB := n1_; have BK123 := n2_; have GW123 := n3_; have GE123 := n4_; have NB122_123 := n5_; have NB123_122 := n6_; clear n0_ n1_ n2_ n3_ n4_ n5_ n6_; clear hb hbox hg))
  have n0_ := Aside0.mk (blk_drew BK122.out)
  have n1_ := Aside0.mk (blk_drew BK123.out)
  have n2_ := Aside0.mk (gbelow_drew1 HB.out)
  clear BK122
  clear BK123
  clear HB
  have BK122 := n0_
  have BK123 := n1_
  have HB := n2_
  clear n0_ n1_ n2_
  refine start_ (n := 18) (S := fun w' => w'.cell? ⟨gb122, 0, none⟩ = some (.int .i64 a0_0) ∧ w'.cell? ⟨gb122, 1, none⟩ = some (.string a0_1) ∧ w'.cell? ⟨gb122, 2, none⟩ = some (.string a0_2) ∧ w'.cell? ⟨gb123, 0, none⟩ = some (.int .i64 a1_0) ∧ w'.cell? ⟨gb123, 1, none⟩ = some (.string a1_1) ∧ w'.cell? ⟨gb123, 2, none⟩ = some (.string a1_2)) (ds := []) #[false, false, false, false, false, false, false, false, false, false, false, false, false, false, false, false, false, false] (by kernel_rfl) rfl rfl ⟨(blk_cell BK122.out 0).trans rfl, (blk_cell BK122.out 1).trans rfl, (blk_cell BK122.out 2).trans rfl, (blk_cell BK123.out 0).trans rfl, (blk_cell BK123.out 1).trans rfl, (blk_cell BK123.out 2).trans rfl⟩ (fun hHeld => ?_); refine with_tabW term_Compare.tab1 term_Compare.bits1 (fun HT_ HW_ => ?_)
  generalize w8.drew = w9 at BK122 BK123 HB hHeld ⊢
  refine pure_ (i := 0) (N := some 5) (v := ?_) (a' := ?_) #[true, false, false, false, false, false, false, false, false, false, false, false, false, false, false, false, false, false] rfl rfl (any_of HT_.out (by kernel_rfl)) (fun _ _ _ h => h) (Or.inl ⟨by rfl, ?_⟩) ?_ ?_
  rotate_left
  · intro w'
    go_simp
    with_reducible rfl
  rotate_left
  · simp only [Act.put, List.setIfInBounds_toArray, List.set_cons_zero, List.set_cons_succ, i64_w, i32_w]
    rfl
  refine pure_ (i := 2) (N := some 7) (v := ?_) (a' := ?_) #[true, false, true, false, false, false, false, false, false, false, false, false, false, false, false, false, false, false] rfl rfl (any_of HT_.out (by kernel_rfl)) (fun _ _ _ h => h) (Or.inl ⟨by rfl, ?_⟩) ?_ ?_
  rotate_left
  · intro w'
    go_simp
    with_reducible rfl
  rotate_left
  · simp only [Act.put, List.setIfInBounds_toArray, List.set_cons_zero, List.set_cons_succ, i64_w, i32_w]
    rfl
  refine pure_ (i := 5) (N := some 10) (v := ?_) (a' := ?_) #[true, false, true, false, false, true, false, false, false, false, false, false, false, false, false, false, false, false] rfl rfl (any_of HT_.out (by kernel_rfl)) (fun _ _ _ h => h) (Or.inl ⟨by rfl, ?_⟩) ?_ ?_
  rotate_left
  · intro w'
    go_simp
    with_reducible rfl
  rotate_left
  · simp only [Act.put, List.setIfInBounds_toArray, List.set_cons_zero, List.set_cons_succ, i64_w, i32_w]
    rfl
  refine pure_ (i := 7) (N := some 12) (v := ?_) (a' := ?_) #[true, false, true, false, false, true, false, true, false, false, false, false, false, false, false, false, false, false] rfl rfl (any_of HT_.out (by kernel_rfl)) (fun _ _ _ h => h) (Or.inl ⟨by rfl, ?_⟩) ?_ ?_
  rotate_left
  · intro w'
    go_simp
    with_reducible rfl
  rotate_left
  · simp only [Act.put, List.setIfInBounds_toArray, List.set_cons_zero, List.set_cons_succ, i64_w, i32_w]
    rfl
  refine pure_ (i := 10) (N := some 15) (v := ?_) (a' := ?_) #[true, false, true, false, false, true, false, true, false, false, true, false, false, false, false, false, false, false] rfl rfl (any_of HT_.out (by kernel_rfl)) (fun _ _ _ h => h) (Or.inl ⟨by rfl, ?_⟩) ?_ ?_
  rotate_left
  · intro w'
    go_simp
    with_reducible rfl
  rotate_left
  · simp only [Act.put, List.setIfInBounds_toArray, List.set_cons_zero, List.set_cons_succ, i64_w, i32_w]
    rfl
  refine pure_ (i := 12) (N := some 17) (v := ?_) (a' := ?_) #[true, false, true, false, false, true, false, true, false, false, true, false, true, false, false, false, false, false] rfl rfl (any_of HT_.out (by kernel_rfl)) (fun _ _ _ h => h) (Or.inl ⟨by rfl, ?_⟩) ?_ ?_
  rotate_left
  · intro w'
    go_simp
    with_reducible rfl
  rotate_left
  · simp only [Act.put, List.setIfInBounds_toArray, List.set_cons_zero, List.set_cons_succ, i64_w, i32_w]
    rfl
  refine take_ (i := 1) (N := some 6) (v := ?_) (a' := ?_) #[true, true, true, false, false, true, false, true, false, false, true, false, true, false, false, false, false, false] rfl rfl (take_ofW HT_.out HW_.out (by kernel_rfl)) (fun _ _ _ h => h) (Or.inl ⟨by rfl, ?_⟩) hHeld ?_ ?_
  rotate_left
  · rintro w' ⟨s0, s1, s2, s3, s4, s5⟩
    go_simp
    with_reducible rfl
  rotate_left
  · simp only [Act.put, List.setIfInBounds_toArray, List.set_cons_zero, List.set_cons_succ, i64_w, i32_w]
    rfl
  refine take_ (i := 3) (N := some 8) (v := ?_) (a' := ?_) #[true, true, true, true, false, true, false, true, false, false, true, false, true, false, false, false, false, false] rfl rfl (take_ofW HT_.out HW_.out (by kernel_rfl)) (fun _ _ _ h => h) (Or.inl ⟨by rfl, ?_⟩) hHeld ?_ ?_
  rotate_left
  · rintro w' ⟨s0, s1, s2, s3, s4, s5⟩
    go_simp
    with_reducible rfl
  rotate_left
  · simp only [Act.put, List.setIfInBounds_toArray, List.set_cons_zero, List.set_cons_succ, i64_w, i32_w]
    rfl
  refine take_ (i := 6) (N := some 11) (v := ?_) (a' := ?_) #[true, true, true, true, false, true, true, true, false, false, true, false, true, false, false, false, false, false] rfl rfl (take_ofW HT_.out HW_.out (by kernel_rfl)) (fun _ _ _ h => h) (Or.inl ⟨by rfl, ?_⟩) hHeld ?_ ?_
  rotate_left
  · rintro w' ⟨s0, s1, s2, s3, s4, s5⟩
    go_simp
    with_reducible rfl
  rotate_left
  · simp only [Act.put, List.setIfInBounds_toArray, List.set_cons_zero, List.set_cons_succ, i64_w, i32_w]
    rfl
  refine take_ (i := 8) (N := some 13) (v := ?_) (a' := ?_) #[true, true, true, true, false, true, true, true, true, false, true, false, true, false, false, false, false, false] rfl rfl (take_ofW HT_.out HW_.out (by kernel_rfl)) (fun _ _ _ h => h) (Or.inl ⟨by rfl, ?_⟩) hHeld ?_ ?_
  rotate_left
  · rintro w' ⟨s0, s1, s2, s3, s4, s5⟩
    go_simp
    with_reducible rfl
  rotate_left
  · simp only [Act.put, List.setIfInBounds_toArray, List.set_cons_zero, List.set_cons_succ, i64_w, i32_w]
    rfl
  refine take_ (i := 11) (N := some 16) (v := ?_) (a' := ?_) #[true, true, true, true, false, true, true, true, true, false, true, true, true, false, false, false, false, false] rfl rfl (take_ofW HT_.out HW_.out (by kernel_rfl)) (fun _ _ _ h => h) (Or.inl ⟨by rfl, ?_⟩) hHeld ?_ ?_
  rotate_left
  · rintro w' ⟨s0, s1, s2, s3, s4, s5⟩
    go_simp
    with_reducible rfl
  rotate_left
  · simp only [Act.put, List.setIfInBounds_toArray, List.set_cons_zero, List.set_cons_succ, i64_w, i32_w]
    rfl
  refine take_ (i := 13) (N := some 18) (v := ?_) (a' := ?_) #[true, true, true, true, false, true, true, true, true, false, true, true, true, true, false, false, false, false] rfl rfl (take_ofW HT_.out HW_.out (by kernel_rfl)) (fun _ _ _ h => h) (Or.inl ⟨by rfl, ?_⟩) hHeld ?_ ?_
  rotate_left
  · rintro w' ⟨s0, s1, s2, s3, s4, s5⟩
    go_simp
    with_reducible rfl
  rotate_left
  · simp only [Act.put, List.setIfInBounds_toArray, List.set_cons_zero, List.set_cons_succ, i64_w, i32_w]
    rfl
  refine one_ (i := 4) (N := some 9) #[true, true, true, true, true, true, true, true, true, false, true, true, true, true, false, false, false, false] rfl rfl (one_of HT_.out (by kernel_rfl)) (by decide) (fun K hK => ?_)
  refine goes_ Tryz.func104 (by kernel_rfl) rfl #[.int .i64 a0_0, .int .i64 a1_0] (by rfl) rfl rfl (by (try simp only [List.map_toArray, List.map_cons, List.map_nil]); first | done | rfl | (simp only [List.length_drop, List.length_take]; rfl)) ?_
  with_reducible refine (cmp_Compare_int.calls a0_0 a1_0 t124 _ A3.out).mono ?_
  rintro e w' ⟨rfl, ⟨nd, rfl⟩⟩
  refine ⟨_, rfl, ?_⟩
  refine hK.out _ _ ⟨(blk_cell BK122.out 0).trans rfl, (blk_cell BK122.out 1).trans rfl, (blk_cell BK122.out 2).trans rfl, (blk_cell BK123.out 0).trans rfl, (blk_cell BK123.out 1).trans rfl, (blk_cell BK123.out 2).trans rfl⟩ (fun hHeld => ?_)
  clear hK K
  refine norm_ (a' := ?_) ?_ ?_
  rotate_left
  · show Act.put _ (some 9) _ = _
    simp only [Act.put, List.setIfInBounds_toArray, List.set_cons_zero, List.set_cons_succ, i64_w, i32_w]
    rfl
  refine one_ (i := 9) (N := some 14) #[true, true, true, true, true, true, true, true, true, true, true, true, true, true, false, false, false, false] rfl rfl (one_of HT_.out (by kernel_rfl)) (by decide) (fun K hK => ?_)
  refine goes_ Tryz.func105 (by kernel_rfl) rfl #[.string a0_1, .string a1_1] (by rfl) rfl rfl (by (try simp only [List.map_toArray, List.map_cons, List.map_nil]); first | done | rfl | (simp only [List.length_drop, List.length_take]; rfl)) ?_
  with_reducible refine (strings_Compare.calls a0_1 a1_1 t125 _ A4.out).mono ?_
  rintro e w' ⟨rfl, ⟨nd, rfl⟩⟩
  refine ⟨_, rfl, ?_⟩
  refine hK.out _ _ ⟨(blk_cell BK122.out 0).trans rfl, (blk_cell BK122.out 1).trans rfl, (blk_cell BK122.out 2).trans rfl, (blk_cell BK123.out 0).trans rfl, (blk_cell BK123.out 1).trans rfl, (blk_cell BK123.out 2).trans rfl⟩ (fun hHeld => ?_)
  clear hK K
  refine norm_ (a' := ?_) ?_ ?_
  rotate_left
  · show Act.put _ (some 14) _ = _
    simp only [Act.put, List.setIfInBounds_toArray, List.set_cons_zero, List.set_cons_succ, i64_w, i32_w]
    rfl
  refine one_ (i := 14) (N := some 19) #[true, true, true, true, true, true, true, true, true, true, true, true, true, true, true, false, false, false] rfl rfl (one_of HT_.out (by kernel_rfl)) (by decide) (fun K hK => ?_)
  refine goes_ Tryz.func105 (by kernel_rfl) rfl #[.string a0_2, .string a1_2] (by rfl) rfl rfl (by (try simp only [List.map_toArray, List.map_cons, List.map_nil]); first | done | rfl | (simp only [List.length_drop, List.length_take]; rfl)) ?_
  with_reducible refine (strings_Compare.calls a0_2 a1_2 t126 _ A5.out).mono ?_
  rintro e w' ⟨rfl, ⟨nd, rfl⟩⟩
  refine ⟨_, rfl, ?_⟩
  refine hK.out _ _ ⟨(blk_cell BK122.out 0).trans rfl, (blk_cell BK122.out 1).trans rfl, (blk_cell BK122.out 2).trans rfl, (blk_cell BK123.out 0).trans rfl, (blk_cell BK123.out 1).trans rfl, (blk_cell BK123.out 2).trans rfl⟩ (fun hHeld => ?_)
  clear hK K
  refine norm_ (a' := ?_) ?_ ?_
  rotate_left
  · show Act.put _ (some 19) _ = _
    simp only [Act.put, List.setIfInBounds_toArray, List.set_cons_zero, List.set_cons_succ, i64_w, i32_w]
    rfl
  refine one_ (i := 15) (N := some 20) #[true, true, true, true, true, true, true, true, true, true, true, true, true, true, true, true, false, false] rfl rfl (one_of HT_.out (by kernel_rfl)) (by decide) (fun K hK => ?_)
  refine R_lit_stepG (Kd.int .i64) _ 3 ?hg (N := 20) ?hd (xs := ([t124, t125, t126] : List Int)) (inner := [.int .i64 t124, .int .i64 t125, .int .i64 t126]) (ok := fun _ => True) (okp := fun _ => True) ?hr ?hp (fun _ hk => hk) trivial (GBelow.refl _ _) (Nat.le_refl _) (by simp) ?_; (case hd => rfl); (case hg => rfl); (case hr => first | (go_simp; done) | (go_simp; rfl)); (case hp => exact (Reps.one (show Kd.M (Kd.int .i64) _ _ _ t124 [.int .i64 t124] from rfl) (Reps.one (show Kd.M (Kd.int .i64) _ _ _ t125 [.int .i64 t125] from rfl) (Reps.one (show Kd.M (Kd.int .i64) _ _ _ t126 [.int .i64 t126] from rfl) (Reps.none _ _)))))
  intro v128 w10 ho11 hb hg_ hnew_
  clear hg_ hnew_
  (first | rw [← Ny127.out] at ho11 | (simp only [Int.reduceToNat] at ho11; rw [← Ny127.out] at ho11))
  have n0_ := Aside0.mk (Kd.R_lower ho11 (gbelow_size (by repeat (first | (with_reducible first | exact HB.out | apply gbelow_alloc | apply pw_gbelow_drewN | apply gbelow_drew1 | refine gbelow_set ?_ GE122.out | refine gbelow_set ?_ GE123.out) | exact HB.out))))
  have n1_ := Aside0.mk (gblk_below (g := gb122) (o := .cells #[.int .i64 a0_0, .string a0_1, .string a0_2] 23 (0, 0)) (by (with_reducible repeat (first | refine blk_drewN ?_ _ | refine blk_drew ?_ | refine blk_alloc ?_ _)); exact BK122.out) hb)
  have n2_ := Aside0.mk (gblk_below (g := gb123) (o := .cells #[.int .i64 a1_0, .string a1_1, .string a1_2] 23 (0, 0)) (by (with_reducible repeat (first | refine blk_drewN ?_ _ | refine blk_drew ?_ | refine blk_alloc ?_ _)); exact BK123.out) hb)
  have n3_ := Aside0.mk (gbelow_step (by repeat (first | (with_reducible first | exact HB.out | apply gbelow_alloc | apply pw_gbelow_drewN | apply gbelow_drew1 | refine gbelow_set ?_ GE122.out | refine gbelow_set ?_ GE123.out) | exact HB.out)) hb)
  clear BK122
  clear BK123
  clear HB
  have HO129 := n0_
  have BK122 := n1_
  have BK123 := n2_
  have HB := n3_
  clear n0_ n1_ n2_ n3_
  clear hb ho11
  obtain ⟨Ao12, co12, eo12⟩ := Kd.R_slice HO129.out
  (first | subst eo12 | (injection eo12 with f1_ f2_ f3_; have f4_ := f1_.symm; have f5_ := f3_.symm; clear f1_ f2_ f3_; subst f4_; subst f5_))
  refine hK.out _ _ ⟨(blk_cell BK122.out 0).trans rfl, (blk_cell BK122.out 1).trans rfl, (blk_cell BK122.out 2).trans rfl, (blk_cell BK123.out 0).trans rfl, (blk_cell BK123.out 1).trans rfl, (blk_cell BK123.out 2).trans rfl⟩ (fun hHeld => ?_)
  clear hK K
  refine norm_ (a' := ?_) ?_ ?_
  rotate_left
  · show Act.put _ (some 20) _ = _
    simp only [Act.put, List.setIfInBounds_toArray, List.set_cons_zero, List.set_cons_succ, i64_w, i32_w]
    rfl
  refine one_ (i := 16) (N := some 21) #[true, true, true, true, true, true, true, true, true, true, true, true, true, true, true, true, true, false] rfl rfl (one_of HT_.out (by kernel_rfl)) (by decide) (fun K hK => ?_)
  refine goes_ Tryz.func82 (by kernel_rfl) rfl #[.slice Ao12 y127.length co12] (by rfl) rfl rfl (by (try simp only [List.map_toArray, List.map_cons, List.map_nil]); first | done | rfl | (simp only [List.length_drop, List.length_take]; rfl)) ?_
  with_reducible refine (cmp_Or_int.calls k _ _ y127 t130 _ ?side1 ?side2 A6.out).mono ?_
  (case side1 => repeat (first | exact (Kd.R_reads' HO129.out).2.2 | (with_reducible refine Kd.C_alloc ?_ _) | (with_reducible refine Kd.C_drewN ?_ _) | (with_reducible refine Kd.C_drew ?_)))
  (case side2 => exact (Kd.R_reads' HO129.out).2.1)
  rintro e w' ⟨rfl, ⟨nd, rfl⟩⟩
  refine ⟨_, rfl, ?_⟩
  refine hK.out _ _ ⟨(blk_cell BK122.out 0).trans rfl, (blk_cell BK122.out 1).trans rfl, (blk_cell BK122.out 2).trans rfl, (blk_cell BK123.out 0).trans rfl, (blk_cell BK123.out 1).trans rfl, (blk_cell BK123.out 2).trans rfl⟩ (fun hHeld => ?_)
  clear hK K
  refine norm_ (a' := ?_) ?_ ?_
  rotate_left
  · show Act.put _ (some 21) _ = _
    simp only [Act.put, List.setIfInBounds_toArray, List.set_cons_zero, List.set_cons_succ, i64_w, i32_w]
    rfl
  refine pure_ (i := 17) (N := some 4) (v := ?_) (a' := ?_) #[true, true, true, true, true, true, true, true, true, true, true, true, true, true, true, true, true, true] rfl rfl (any_of HT_.out (by kernel_rfl)) (fun _ _ _ h => h) (Or.inl ⟨by rfl, ?_⟩) ?_ ?_
  rotate_left
  · intro w'
    go_simp
    with_reducible rfl
  rotate_left
  · simp only [Act.put, List.setIfInBounds_toArray, List.set_cons_zero, List.set_cons_succ, i64_w, i32_w]
    rfl
  refine done_ (done_of HT_.out (by kernel_rfl)) ?_
  try go_wp2
  go_ret
  exact ⟨by first | rfl | (simp [errW_none, errW_some] <;> rfl) | (simp [*, errW_none, errW_some] <;> rfl), by repeat (first | (with_reducible first | exact HB.out | apply gbelow_alloc | apply pw_gbelow_drewN | apply gbelow_drew1 | refine gbelow_set ?_ GE122.out | refine gbelow_set ?_ GE123.out) | exact HB.out)⟩
theorem term_Compare.calls (k : Nat) (a0_0 : Int) (a0_1 : ByteArray) (a0_2 : ByteArray) (a1_0 : Int) (a1_1 : ByteArray) (a1_2 : ByteArray) (r : Int) (w : World) (h : term_Compare.f k a0_0 a0_1 a0_2 a1_0 a1_1 a1_2 = some r) :
    Calls Tryz.prog 42 #[.agg #[.int .i64 a0_0, .string a0_1, .string a0_2], .agg #[.int .i64 a1_0, .string a1_1, .string a1_2]] w fun e w' => e = .returned (.int .i64 r) ∧ Below w.heap.size w w' := (term_Compare.callsG k a0_0 a0_1 a0_2 a1_0 a1_1 a1_2 r w h).mono fun _ _ ⟨he, hb⟩ => ⟨he, hb.bel⟩

/-! ### triple_Compare: function 21 -/
def triple_Compare.f (k : Nat) (a0_0 : Int) (a0_1 : ByteArray) (a0_2 : ByteArray) (a0_3 : Int) (a0_4 : ByteArray) (a0_5 : ByteArray) (a0_6 : Int) (a0_7 : ByteArray) (a0_8 : ByteArray) (a1_0 : Int) (a1_1 : ByteArray) (a1_2 : ByteArray) (a1_3 : Int) (a1_4 : ByteArray) (a1_5 : ByteArray) (a1_6 : Int) (a1_7 : ByteArray) (a1_8 : ByteArray) : Option (Int) := (term_Compare.f k a0_0 a0_1 a0_2 a1_0 a1_1 a1_2).bind fun t133 => ((term_Compare.f k a0_3 a0_4 a0_5 a1_3 a1_4 a1_5).bind fun t134 => ((term_Compare.f k a0_6 a0_7 a0_8 a1_6 a1_7 a1_8).bind fun t135 => ((cmp_Or_int.f k (([t133, t134, t135] : List Int))).bind fun t139 => (some t139))))
theorem triple_Compare.mono : ∀ a0 a1 a2 a3 a4 a5 a6 a7 a8 a9 a10 a11 a12 a13 a14 a15 a16 a17 k, LeO (triple_Compare.f k a0 a1 a2 a3 a4 a5 a6 a7 a8 a9 a10 a11 a12 a13 a14 a15 a16 a17) (triple_Compare.f (k + 1) a0 a1 a2 a3 a4 a5 a6 a7 a8 a9 a10 a11 a12 a13 a14 a15 a16 a17) := by
  intro a0 a1 a2 a3 a4 a5 a6 a7 a8 a9 a10 a11 a12 a13 a14 a15 a16 a17 k
  unfold triple_Compare.f
  repeat' first
      | (with_reducible exact cmp_Or_int.mono _ _)
      | (with_reducible exact term_Compare.mono _ _ _ _ _ _ _)
      | (with_reducible exact LeO.refl _)
      | (with_reducible exact LeO.none _)
      | (with_reducible refine LeO.ite ?_ ?_)
      | (with_reducible refine LeO.bind ?_ (fun _ => ?_))
      | exact cmp_Or_int.mono _ _
      | exact term_Compare.mono _ _ _ _ _ _ _
      | exact LeO.none _
      | refine LeO.ite ?_ ?_
      | refine LeO.bind ?_ (fun _ => ?_)
def triple_Compare.T1 : Bool × List (List Nat × List Nat) := (true, [([], []), ([0], [0]), ([], []), ([2], [2]), ([1, 3], [1, 3]), ([], []), ([5], [5]), ([], []), ([7], [7]), ([6, 8, 4], [6, 8]), ([], []), ([10], [10]), ([], []), ([12], [12]), ([11, 13, 9], [11, 13]), ([4, 9, 14], [4, 9, 14]), ([15, 14], [15]), ([16, 16, 0, 1, 2, 3, 4, 5, 6, 7, 8, 9, 10, 11, 12, 13, 14, 15, 16], [16])])
def triple_Compare.B1 : List Nat := [0, 1, 0, 4, 15, 0, 32, 0, 128, 511, 0, 1024, 0, 4096, 16383, 32767, 65535, 131071]
theorem triple_Compare.tab1 : rtab .any (opsOf Tryz.f21 1) = triple_Compare.T1 := by kernel_rfl
theorem triple_Compare.bits1 : waitsOk triple_Compare.T1.2 triple_Compare.B1 = true := by kernel_rfl
set_option maxHeartbeats 8000000 in
set_option maxRecDepth 100000 in
theorem triple_Compare.callsG (k : Nat) (a0_0 : Int) (a0_1 : ByteArray) (a0_2 : ByteArray) (a0_3 : Int) (a0_4 : ByteArray) (a0_5 : ByteArray) (a0_6 : Int) (a0_7 : ByteArray) (a0_8 : ByteArray) (a1_0 : Int) (a1_1 : ByteArray) (a1_2 : ByteArray) (a1_3 : Int) (a1_4 : ByteArray) (a1_5 : ByteArray) (a1_6 : Int) (a1_7 : ByteArray) (a1_8 : ByteArray) (r : Int) (w : World) (h : triple_Compare.f k a0_0 a0_1 a0_2 a0_3 a0_4 a0_5 a0_6 a0_7 a0_8 a1_0 a1_1 a1_2 a1_3 a1_4 a1_5 a1_6 a1_7 a1_8 = some r) :
    Calls Tryz.prog 21 #[.agg #[.int .i64 a0_0, .string a0_1, .string a0_2, .int .i64 a0_3, .string a0_4, .string a0_5, .int .i64 a0_6, .string a0_7, .string a0_8], .agg #[.int .i64 a1_0, .string a1_1, .string a1_2, .int .i64 a1_3, .string a1_4, .string a1_5, .int .i64 a1_6, .string a1_7, .string a1_8]] w fun e w' => e = .returned (.int .i64 r) ∧ GBelow w.heap.size w w' := by
  have hu25 := Tryz.underlying25
  have hu23 := Tryz.underlying23
  have HB := Aside0.mk (GBelow.refl w.heap.size w)
  have H : ((term_Compare.f k a0_0 a0_1 a0_2 a1_0 a1_1 a1_2).bind fun t133 => ((term_Compare.f k a0_3 a0_4 a0_5 a1_3 a1_4 a1_5).bind fun t134 => ((term_Compare.f k a0_6 a0_7 a0_8 a1_6 a1_7 a1_8).bind fun t135 => ((cmp_Or_int.f k (([t133, t134, t135] : List Int))).bind fun t139 => (some t139))))) = some r := h
  clear h
  replace H := Option.bind_eq_some_iff.mp H
  obtain ⟨t133, A30, H⟩ := H
  replace H : ((term_Compare.f k a0_3 a0_4 a0_5 a1_3 a1_4 a1_5).bind fun t134 => ((term_Compare.f k a0_6 a0_7 a0_8 a1_6 a1_7 a1_8).bind fun t135 => ((cmp_Or_int.f k (([t133, t134, t135] : List Int))).bind fun t139 => (some t139)))) = some r := H
  have A3 := Aside0.mk A30
  clear A30
  replace H := Option.bind_eq_some_iff.mp H
  obtain ⟨t134, A40, H⟩ := H
  replace H : ((term_Compare.f k a0_6 a0_7 a0_8 a1_6 a1_7 a1_8).bind fun t135 => ((cmp_Or_int.f k (([t133, t134, t135] : List Int))).bind fun t139 => (some t139))) = some r := H
  have A4 := Aside0.mk A40
  clear A40
  replace H := Option.bind_eq_some_iff.mp H
  obtain ⟨t135, A50, H⟩ := H
  replace H : ((cmp_Or_int.f k (([t133, t134, t135] : List Int))).bind fun t139 => (some t139)) = some r := H
  have A5 := Aside0.mk A50
  clear A50
  obtain ⟨y136, hy136⟩ : ∃ y_ : List Int, y_ = (([t133, t134, t135] : List Int)) := ⟨_, rfl⟩
  replace H : ((cmp_Or_int.f k y136).bind fun t139 => (some t139)) = some r := by first | (rw [hy136]; with_reducible exact H) | (have H2_ := (Option.bind_some _ _).symm.trans H; rw [hy136]; with_reducible exact H2_) | (have H2_ := (Option.bind_some _ _).symm.trans H; with_reducible exact H2_) | with_reducible exact H | (rw [hy136]; exact H) | exact H
  have Ny136 := Aside0.mk hy136
  clear hy136
  replace H := Option.bind_eq_some_iff.mp H
  obtain ⟨t139, A60, H⟩ := H
  replace H : (some t139) = some r := H
  have A6 := Aside0.mk A60
  clear A60
  obtain rfl := Option.some.inj H
  go_enter Tryz.func21, Tryz.ntmps21
  try go_wp2_with (first | ((with_reducible refine gate_dst (N := 2) rfl ?_); refine gbox_event ?hg (N := 2) ?hd (cs := #[.int .i64 a0_0, .string a0_1, .string a0_2, .int .i64 a0_3, .string a0_4, .string a0_5, .int .i64 a0_6, .string a0_7, .string a0_8]) (t := 25) ?hr ?_; (case hd => rfl); (case hg => rfl); (case hr => first | (go_simp; done) | (go_simp; rfl)); intro gb131 hg w7 hbox hb; have n0_ := Aside0.mk (gbelow_step (by repeat (first | (with_reducible first | exact HB.out | apply gbelow_alloc | apply pw_gbelow_drewN | apply gbelow_drew1) | exact HB.out)) hb); have n1_ := Aside0.mk (hbox); have n2_ := Aside0.mk ((by rw [hg]; exact (gbelow_size (by repeat (first | (with_reducible first | exact HB.out | apply gbelow_alloc | apply pw_gbelow_drewN | apply gbelow_drew1) | exact HB.out))) : w.heap.size ≤ gb131)); have n3_ := Aside0.mk ((by rw [hg]; exact (gbelow_size (by repeat (first | (with_reducible first | exact HB.out | apply gbelow_alloc | apply pw_gbelow_drewN | apply gbelow_drew1) | exact HB.out))) : w.heap.size ≤ gb131)); clear HB; have HB := n0_; have BK131 := n1_; have GW131 := n2_; have GE131 := n3_; clear n0_ n1_ n2_ n3_; clear hb hbox hg) | ((with_reducible refine gate_dst (N := 3) rfl ?_); refine gbox_event ?hg (N := 3) ?hd (cs := #[.int .i64 a1_0, .string a1_1, .string a1_2, .int .i64 a1_3, .string a1_4, .string a1_5, .int .i64 a1_6, .string a1_7, .string a1_8]) (t := 25) ?hr ?_; (case hd => rfl); (case hg => rfl); (case hr => first | (go_simp; done) | (go_simp; rfl)); intro gb132 hg w8 hbox hb; have n0_ := Aside0.mk (gblk_below (g := gb131) (o := .cells #[.int .i64 a0_0, .string a0_1, .string a0_2, .int .i64 a0_3, .string a0_4, .string a0_5, .int .i64 a0_6, .string a0_7, .string a0_8] 25 (0, 0)) (by (with_reducible repeat (first | refine blk_drewN ?_ _ | refine blk_drew ?_ | refine blk_alloc ?_ _)); exact BK131.out) hb); have n1_ := Aside0.mk (gbelow_step (by repeat (first | (with_reducible first | exact HB.out | apply gbelow_alloc | apply pw_gbelow_drewN | apply gbelow_drew1 | refine gbelow_set ?_ GE131.out) | exact HB.out)) hb); have n2_ := Aside0.mk (hbox); have n3_ := Aside0.mk ((by rw [hg]; exact (gbelow_size (by repeat (first | (with_reducible first | exact HB.out | apply gbelow_alloc | apply pw_gbelow_drewN | apply gbelow_drew1 | refine gbelow_set ?_ GE131.out) | exact HB.out))) : w.heap.size ≤ gb132)); have n4_ := Aside0.mk ((by rw [hg]; exact (gbelow_size (by repeat (first | (with_reducible first | exact HB.out | apply gbelow_alloc | apply pw_gbelow_drewN | apply gbelow_drew1 | refine gbelow_set ?_ GE131.out) | exact HB.out))) : w.heap.size ≤ gb132)); have n5_ := Aside0.mk ((by rw [hg]; exact Nat.ne_of_lt (blk_lt (g := gb131) (o := .cells #[.int .i64 a0_0, .string a0_1, .string a0_2, .int .i64 a0_3, .string a0_4, .string a0_5, .int .i64 a0_6, .string a0_7, .string a0_8] 25 (0, 0)) (by (with_reducible repeat (first | refine blk_drewN ?_ _ | refine blk_drew ?_ | refine blk_alloc ?_ _)); exact BK131.out)) : gb131 ≠ gb132)); have n6_ := Aside0.mk ((by rw [hg]; exact Nat.ne_of_gt (blk_lt (g := gb131) (o := .cells #[.int .i64 a0_0, .string a0_1, .string a0_2, .int .i64 a0_3, .string a0_4, .string a0_5, .int .i64 a0_6, .string a0_7, .string a0_8] 25 (0, 0)) (by (with_reducible repeat (first | refine blk_drewN ?_ _ | refine blk_drew ?_ | refine blk_alloc ?_ _)); exact BK131.out)) : gb132 ≠ gb131)); clear BK131; clear HB; have BK131 := n0_; have HB := n1_; have BK132 := n2_; have GW132 := n3_; have GE132 := n4_; have NB131_132 := n5_; have NB132_131 := n6_; clear n0_ n1_ n2_ n3_ n4_ n5_ n6_; clear hb hbox hg))
  have n0_ := Aside0.mk (blk_drew BK131.out)
  have n1_ := Aside0.mk (blk_drew BK132.out)
  have n2_ := Aside0.mk (gbelow_drew1 HB.out)
  clear BK131
  clear BK132
  clear HB
  have BK131 := n0_
  have BK132 := n1_
  have HB := n2_
  clear n0_ n1_ n2_
  refine start_ (n := 18) (S := fun w' => w'.cell? ⟨gb131, 0, none⟩ = some (.int .i64 a0_0) ∧ w'.cell? ⟨gb131, 1, none⟩ = some (.string a0_1) ∧ w'.cell? ⟨gb131, 2, none⟩ = some (.string a0_2) ∧ w'.cell? ⟨gb131, 3, none⟩ = some (.int .i64 a0_3) ∧ w'.cell? ⟨gb131, 4, none⟩ = some (.string a0_4) ∧ w'.cell? ⟨gb131, 5, none⟩ = some (.string a0_5) ∧ w'.cell? ⟨gb131, 6, none⟩ = some (.int .i64 a0_6) ∧ w'.cell? ⟨gb131, 7, none⟩ = some (.string a0_7) ∧ w'.cell? ⟨gb131, 8, none⟩ = some (.string a0_8) ∧ w'.cell? ⟨gb132, 0, none⟩ = some (.int .i64 a1_0) ∧ w'.cell? ⟨gb132, 1, none⟩ = some (.string a1_1) ∧ w'.cell? ⟨gb132, 2, none⟩ = some (.string a1_2) ∧ w'.cell? ⟨gb132, 3, none⟩ = some (.int .i64 a1_3) ∧ w'.cell? ⟨gb132, 4, none⟩ = some (.string a1_4) ∧ w'.cell? ⟨gb132, 5, none⟩ = some (.string a1_5) ∧ w'.cell? ⟨gb132, 6, none⟩ = some (.int .i64 a1_6) ∧ w'.cell? ⟨gb132, 7, none⟩ = some (.string a1_7) ∧ w'.cell? ⟨gb132, 8, none⟩ = some (.string a1_8)) (ds := []) #[false, false, false, false, false, false, false, false, false, false, false, false, false, false, false, false, false, false] (by kernel_rfl) rfl rfl ⟨(blk_cell BK131.out 0).trans rfl, (blk_cell BK131.out 1).trans rfl, (blk_cell BK131.out 2).trans rfl, (blk_cell BK131.out 3).trans rfl, (blk_cell BK131.out 4).trans rfl, (blk_cell BK131.out 5).trans rfl, (blk_cell BK131.out 6).trans rfl, (blk_cell BK131.out 7).trans rfl, (blk_cell BK131.out 8).trans rfl, (blk_cell BK132.out 0).trans rfl, (blk_cell BK132.out 1).trans rfl, (blk_cell BK132.out 2).trans rfl, (blk_cell BK132.out 3).trans rfl, (blk_cell BK132.out 4).trans rfl, (blk_cell BK132.out 5).trans rfl, (blk_cell BK132.out 6).trans rfl, (blk_cell BK132.out 7).trans rfl, (blk_cell BK132.out 8).trans rfl⟩ (fun hHeld => ?_); refine with_tabW triple_Compare.tab1 triple_Compare.bits1 (fun HT_ HW_ => ?_)
  generalize w8.drew = w9 at BK131 BK132 HB hHeld ⊢
  refine pure_ (i := 0) (N := some 5) (v := ?_) (a' := ?_) #[true, false, false, false, false, false, false, false, false, false, false, false, false, false, false, false, false, false] rfl rfl (any_of HT_.out (by kernel_rfl)) (fun _ _ _ h => h) (Or.inl ⟨by rfl, ?_⟩) ?_ ?_
  rotate_left
  · intro w'
    go_simp
    with_reducible rfl
  rotate_left
  · simp only [Act.put, List.setIfInBounds_toArray, List.set_cons_zero, List.set_cons_succ, i64_w, i32_w]
    rfl
  refine pure_ (i := 2) (N := some 7) (v := ?_) (a' := ?_) #[true, false, true, false, false, false, false, false, false, false, false, false, false, false, false, false, false, false] rfl rfl (any_of HT_.out (by kernel_rfl)) (fun _ _ _ h => h) (Or.inl ⟨by rfl, ?_⟩) ?_ ?_
  rotate_left
  · intro w'
    go_simp
    with_reducible rfl
  rotate_left
  · simp only [Act.put, List.setIfInBounds_toArray, List.set_cons_zero, List.set_cons_succ, i64_w, i32_w]
    rfl
  refine pure_ (i := 5) (N := some 10) (v := ?_) (a' := ?_) #[true, false, true, false, false, true, false, false, false, false, false, false, false, false, false, false, false, false] rfl rfl (any_of HT_.out (by kernel_rfl)) (fun _ _ _ h => h) (Or.inl ⟨by rfl, ?_⟩) ?_ ?_
  rotate_left
  · intro w'
    go_simp
    with_reducible rfl
  rotate_left
  · simp only [Act.put, List.setIfInBounds_toArray, List.set_cons_zero, List.set_cons_succ, i64_w, i32_w]
    rfl
  refine pure_ (i := 7) (N := some 12) (v := ?_) (a' := ?_) #[true, false, true, false, false, true, false, true, false, false, false, false, false, false, false, false, false, false] rfl rfl (any_of HT_.out (by kernel_rfl)) (fun _ _ _ h => h) (Or.inl ⟨by rfl, ?_⟩) ?_ ?_
  rotate_left
  · intro w'
    go_simp
    with_reducible rfl
  rotate_left
  · simp only [Act.put, List.setIfInBounds_toArray, List.set_cons_zero, List.set_cons_succ, i64_w, i32_w]
    rfl
  refine pure_ (i := 10) (N := some 15) (v := ?_) (a' := ?_) #[true, false, true, false, false, true, false, true, false, false, true, false, false, false, false, false, false, false] rfl rfl (any_of HT_.out (by kernel_rfl)) (fun _ _ _ h => h) (Or.inl ⟨by rfl, ?_⟩) ?_ ?_
  rotate_left
  · intro w'
    go_simp
    with_reducible rfl
  rotate_left
  · simp only [Act.put, List.setIfInBounds_toArray, List.set_cons_zero, List.set_cons_succ, i64_w, i32_w]
    rfl
  refine pure_ (i := 12) (N := some 17) (v := ?_) (a' := ?_) #[true, false, true, false, false, true, false, true, false, false, true, false, true, false, false, false, false, false] rfl rfl (any_of HT_.out (by kernel_rfl)) (fun _ _ _ h => h) (Or.inl ⟨by rfl, ?_⟩) ?_ ?_
  rotate_left
  · intro w'
    go_simp
    with_reducible rfl
  rotate_left
  · simp only [Act.put, List.setIfInBounds_toArray, List.set_cons_zero, List.set_cons_succ, i64_w, i32_w]
    rfl
  refine take_ (i := 1) (N := some 6) (v := ?_) (a' := ?_) #[true, true, true, false, false, true, false, true, false, false, true, false, true, false, false, false, false, false] rfl rfl (take_ofW HT_.out HW_.out (by kernel_rfl)) (fun _ _ _ h => h) (Or.inl ⟨by rfl, ?_⟩) hHeld ?_ ?_
  rotate_left
  · rintro w' ⟨s0, s1, s2, s3, s4, s5, s6, s7, s8, s9, s10, s11, s12, s13, s14, s15, s16, s17⟩
    go_simp
    with_reducible rfl
  rotate_left
  · simp only [Act.put, List.setIfInBounds_toArray, List.set_cons_zero, List.set_cons_succ, i64_w, i32_w]
    rfl
  refine take_ (i := 3) (N := some 8) (v := ?_) (a' := ?_) #[true, true, true, true, false, true, false, true, false, false, true, false, true, false, false, false, false, false] rfl rfl (take_ofW HT_.out HW_.out (by kernel_rfl)) (fun _ _ _ h => h) (Or.inl ⟨by rfl, ?_⟩) hHeld ?_ ?_
  rotate_left
  · rintro w' ⟨s0, s1, s2, s3, s4, s5, s6, s7, s8, s9, s10, s11, s12, s13, s14, s15, s16, s17⟩
    go_simp
    with_reducible rfl
  rotate_left
  · simp only [Act.put, List.setIfInBounds_toArray, List.set_cons_zero, List.set_cons_succ, i64_w, i32_w]
    rfl
  refine take_ (i := 6) (N := some 11) (v := ?_) (a' := ?_) #[true, true, true, true, false, true, true, true, false, false, true, false, true, false, false, false, false, false] rfl rfl (take_ofW HT_.out HW_.out (by kernel_rfl)) (fun _ _ _ h => h) (Or.inl ⟨by rfl, ?_⟩) hHeld ?_ ?_
  rotate_left
  · rintro w' ⟨s0, s1, s2, s3, s4, s5, s6, s7, s8, s9, s10, s11, s12, s13, s14, s15, s16, s17⟩
    go_simp
    with_reducible rfl
  rotate_left
  · simp only [Act.put, List.setIfInBounds_toArray, List.set_cons_zero, List.set_cons_succ, i64_w, i32_w]
    rfl
  refine take_ (i := 8) (N := some 13) (v := ?_) (a' := ?_) #[true, true, true, true, false, true, true, true, true, false, true, false, true, false, false, false, false, false] rfl rfl (take_ofW HT_.out HW_.out (by kernel_rfl)) (fun _ _ _ h => h) (Or.inl ⟨by rfl, ?_⟩) hHeld ?_ ?_
  rotate_left
  · rintro w' ⟨s0, s1, s2, s3, s4, s5, s6, s7, s8, s9, s10, s11, s12, s13, s14, s15, s16, s17⟩
    go_simp
    with_reducible rfl
  rotate_left
  · simp only [Act.put, List.setIfInBounds_toArray, List.set_cons_zero, List.set_cons_succ, i64_w, i32_w]
    rfl
  refine take_ (i := 11) (N := some 16) (v := ?_) (a' := ?_) #[true, true, true, true, false, true, true, true, true, false, true, true, true, false, false, false, false, false] rfl rfl (take_ofW HT_.out HW_.out (by kernel_rfl)) (fun _ _ _ h => h) (Or.inl ⟨by rfl, ?_⟩) hHeld ?_ ?_
  rotate_left
  · rintro w' ⟨s0, s1, s2, s3, s4, s5, s6, s7, s8, s9, s10, s11, s12, s13, s14, s15, s16, s17⟩
    go_simp
    with_reducible rfl
  rotate_left
  · simp only [Act.put, List.setIfInBounds_toArray, List.set_cons_zero, List.set_cons_succ, i64_w, i32_w]
    rfl
  refine take_ (i := 13) (N := some 18) (v := ?_) (a' := ?_) #[true, true, true, true, false, true, true, true, true, false, true, true, true, true, false, false, false, false] rfl rfl (take_ofW HT_.out HW_.out (by kernel_rfl)) (fun _ _ _ h => h) (Or.inl ⟨by rfl, ?_⟩) hHeld ?_ ?_
  rotate_left
  · rintro w' ⟨s0, s1, s2, s3, s4, s5, s6, s7, s8, s9, s10, s11, s12, s13, s14, s15, s16, s17⟩
    go_simp
    with_reducible rfl
  rotate_left
  · simp only [Act.put, List.setIfInBounds_toArray, List.set_cons_zero, List.set_cons_succ, i64_w, i32_w]
    rfl
  refine one_ (i := 4) (N := some 9) #[true, true, true, true, true, true, true, true, true, false, true, true, true, true, false, false, false, false] rfl rfl (one_of HT_.out (by kernel_rfl)) (by decide) (fun K hK => ?_)
  refine goes_ Tryz.func42 (by kernel_rfl) rfl #[.agg #[.int .i64 a0_0, .string a0_1, .string a0_2], .agg #[.int .i64 a1_0, .string a1_1, .string a1_2]] (by rfl) rfl rfl (by (try simp only [List.map_toArray, List.map_cons, List.map_nil]); first | done | rfl | (simp only [List.length_drop, List.length_take]; rfl)) ?_
  with_reducible refine (term_Compare.callsG k a0_0 a0_1 a0_2 a1_0 a1_1 a1_2 t133 _ A3.out).mono ?_
  rintro e w10 ⟨rfl, hb⟩
  refine ⟨_, rfl, ?_⟩
  have n0_ := Aside0.mk (gblk_below (g := gb131) (o := .cells #[.int .i64 a0_0, .string a0_1, .string a0_2, .int .i64 a0_3, .string a0_4, .string a0_5, .int .i64 a0_6, .string a0_7, .string a0_8] 25 (0, 0)) (by (with_reducible repeat (first | refine blk_drewN ?_ _ | refine blk_drew ?_ | refine blk_alloc ?_ _)); exact BK131.out) hb)
  have n1_ := Aside0.mk (gblk_below (g := gb132) (o := .cells #[.int .i64 a1_0, .string a1_1, .string a1_2, .int .i64 a1_3, .string a1_4, .string a1_5, .int .i64 a1_6, .string a1_7, .string a1_8] 25 (0, 0)) (by (with_reducible repeat (first | refine blk_drewN ?_ _ | refine blk_drew ?_ | refine blk_alloc ?_ _)); exact BK132.out) hb)
  have n2_ := Aside0.mk (gbelow_step (by repeat (first | (with_reducible first | exact HB.out | apply gbelow_alloc | apply pw_gbelow_drewN | apply gbelow_drew1 | refine gbelow_set ?_ GE131.out | refine gbelow_set ?_ GE132.out) | exact HB.out)) hb)
  clear BK131
  clear BK132
  clear HB
  have BK131 := n0_
  have BK132 := n1_
  have HB := n2_
  clear n0_ n1_ n2_
  (try clear hb)
  (try clear hb2)
  (try clear hk)
  (try clear hi)
  refine hK.out _ _ ⟨(blk_cell BK131.out 0).trans rfl, (blk_cell BK131.out 1).trans rfl, (blk_cell BK131.out 2).trans rfl, (blk_cell BK131.out 3).trans rfl, (blk_cell BK131.out 4).trans rfl, (blk_cell BK131.out 5).trans rfl, (blk_cell BK131.out 6).trans rfl, (blk_cell BK131.out 7).trans rfl, (blk_cell BK131.out 8).trans rfl, (blk_cell BK132.out 0).trans rfl, (blk_cell BK132.out 1).trans rfl, (blk_cell BK132.out 2).trans rfl, (blk_cell BK132.out 3).trans rfl, (blk_cell BK132.out 4).trans rfl, (blk_cell BK132.out 5).trans rfl, (blk_cell BK132.out 6).trans rfl, (blk_cell BK132.out 7).trans rfl, (blk_cell BK132.out 8).trans rfl⟩ (fun hHeld => ?_)
  clear hK K
  refine norm_ (a' := ?_) ?_ ?_
  rotate_left
  · show Act.put _ (some 9) _ = _
    simp only [Act.put, List.setIfInBounds_toArray, List.set_cons_zero, List.set_cons_succ, i64_w, i32_w]
    rfl
  refine one_ (i := 9) (N := some 14) #[true, true, true, true, true, true, true, true, true, true, true, true, true, true, false, false, false, false] rfl rfl (one_of HT_.out (by kernel_rfl)) (by decide) (fun K hK => ?_)
  refine goes_ Tryz.func42 (by kernel_rfl) rfl #[.agg #[.int .i64 a0_3, .string a0_4, .string a0_5], .agg #[.int .i64 a1_3, .string a1_4, .string a1_5]] (by rfl) rfl rfl (by (try simp only [List.map_toArray, List.map_cons, List.map_nil]); first | done | rfl | (simp only [List.length_drop, List.length_take]; rfl)) ?_
  with_reducible refine (term_Compare.callsG k a0_3 a0_4 a0_5 a1_3 a1_4 a1_5 t134 _ A4.out).mono ?_
  rintro e w11 ⟨rfl, hb⟩
  refine ⟨_, rfl, ?_⟩
  have n0_ := Aside0.mk (gblk_below (g := gb131) (o := .cells #[.int .i64 a0_0, .string a0_1, .string a0_2, .int .i64 a0_3, .string a0_4, .string a0_5, .int .i64 a0_6, .string a0_7, .string a0_8] 25 (0, 0)) (by (with_reducible repeat (first | refine blk_drewN ?_ _ | refine blk_drew ?_ | refine blk_alloc ?_ _)); exact BK131.out) hb)
  have n1_ := Aside0.mk (gblk_below (g := gb132) (o := .cells #[.int .i64 a1_0, .string a1_1, .string a1_2, .int .i64 a1_3, .string a1_4, .string a1_5, .int .i64 a1_6, .string a1_7, .string a1_8] 25 (0, 0)) (by (with_reducible repeat (first | refine blk_drewN ?_ _ | refine blk_drew ?_ | refine blk_alloc ?_ _)); exact BK132.out) hb)
  have n2_ := Aside0.mk (gbelow_step (by repeat (first | (with_reducible first | exact HB.out | apply gbelow_alloc | apply pw_gbelow_drewN | apply gbelow_drew1 | refine gbelow_set ?_ GE131.out | refine gbelow_set ?_ GE132.out) | exact HB.out)) hb)
  clear BK131
  clear BK132
  clear HB
  have BK131 := n0_
  have BK132 := n1_
  have HB := n2_
  clear n0_ n1_ n2_
  (try clear hb)
  (try clear hb2)
  (try clear hk)
  (try clear hi)
  refine hK.out _ _ ⟨(blk_cell BK131.out 0).trans rfl, (blk_cell BK131.out 1).trans rfl, (blk_cell BK131.out 2).trans rfl, (blk_cell BK131.out 3).trans rfl, (blk_cell BK131.out 4).trans rfl, (blk_cell BK131.out 5).trans rfl, (blk_cell BK131.out 6).trans rfl, (blk_cell BK131.out 7).trans rfl, (blk_cell BK131.out 8).trans rfl, (blk_cell BK132.out 0).trans rfl, (blk_cell BK132.out 1).trans rfl, (blk_cell BK132.out 2).trans rfl, (blk_cell BK132.out 3).trans rfl, (blk_cell BK132.out 4).trans rfl, (blk_cell BK132.out 5).trans rfl, (blk_cell BK132.out 6).trans rfl, (blk_cell BK132.out 7).trans rfl, (blk_cell BK132.out 8).trans rfl⟩ (fun hHeld => ?_)
  clear hK K
  refine norm_ (a' := ?_) ?_ ?_
  rotate_left
  · show Act.put _ (some 14) _ = _
    simp only [Act.put, List.setIfInBounds_toArray, List.set_cons_zero, List.set_cons_succ, i64_w, i32_w]
    rfl
  refine one_ (i := 14) (N := some 19) #[true, true, true, true, true, true, true, true, true, true, true, true, true, true, true, false, false, false] rfl rfl (one_of HT_.out (by kernel_rfl)) (by decide) (fun K hK => ?_)
  refine goes_ Tryz.func42 (by kernel_rfl) rfl #[.agg #[.int .i64 a0_6, .string a0_7, .string a0_8], .agg #[.int .i64 a1_6, .string a1_7, .string a1_8]] (by rfl) rfl rfl (by (try simp only [List.map_toArray, List.map_cons, List.map_nil]); first | done | rfl | (simp only [List.length_drop, List.length_take]; rfl)) ?_
  with_reducible refine (term_Compare.callsG k a0_6 a0_7 a0_8 a1_6 a1_7 a1_8 t135 _ A5.out).mono ?_
  rintro e w12 ⟨rfl, hb⟩
  refine ⟨_, rfl, ?_⟩
  have n0_ := Aside0.mk (gblk_below (g := gb131) (o := .cells #[.int .i64 a0_0, .string a0_1, .string a0_2, .int .i64 a0_3, .string a0_4, .string a0_5, .int .i64 a0_6, .string a0_7, .string a0_8] 25 (0, 0)) (by (with_reducible repeat (first | refine blk_drewN ?_ _ | refine blk_drew ?_ | refine blk_alloc ?_ _)); exact BK131.out) hb)
  have n1_ := Aside0.mk (gblk_below (g := gb132) (o := .cells #[.int .i64 a1_0, .string a1_1, .string a1_2, .int .i64 a1_3, .string a1_4, .string a1_5, .int .i64 a1_6, .string a1_7, .string a1_8] 25 (0, 0)) (by (with_reducible repeat (first | refine blk_drewN ?_ _ | refine blk_drew ?_ | refine blk_alloc ?_ _)); exact BK132.out) hb)
  have n2_ := Aside0.mk (gbelow_step (by repeat (first | (with_reducible first | exact HB.out | apply gbelow_alloc | apply pw_gbelow_drewN | apply gbelow_drew1 | refine gbelow_set ?_ GE131.out | refine gbelow_set ?_ GE132.out) | exact HB.out)) hb)
  clear BK131
  clear BK132
  clear HB
  have BK131 := n0_
  have BK132 := n1_
  have HB := n2_
  clear n0_ n1_ n2_
  (try clear hb)
  (try clear hb2)
  (try clear hk)
  (try clear hi)
  refine hK.out _ _ ⟨(blk_cell BK131.out 0).trans rfl, (blk_cell BK131.out 1).trans rfl, (blk_cell BK131.out 2).trans rfl, (blk_cell BK131.out 3).trans rfl, (blk_cell BK131.out 4).trans rfl, (blk_cell BK131.out 5).trans rfl, (blk_cell BK131.out 6).trans rfl, (blk_cell BK131.out 7).trans rfl, (blk_cell BK131.out 8).trans rfl, (blk_cell BK132.out 0).trans rfl, (blk_cell BK132.out 1).trans rfl, (blk_cell BK132.out 2).trans rfl, (blk_cell BK132.out 3).trans rfl, (blk_cell BK132.out 4).trans rfl, (blk_cell BK132.out 5).trans rfl, (blk_cell BK132.out 6).trans rfl, (blk_cell BK132.out 7).trans rfl, (blk_cell BK132.out 8).trans rfl⟩ (fun hHeld => ?_)
  clear hK K
  refine norm_ (a' := ?_) ?_ ?_
  rotate_left
  · show Act.put _ (some 19) _ = _
    simp only [Act.put, List.setIfInBounds_toArray, List.set_cons_zero, List.set_cons_succ, i64_w, i32_w]
    rfl
  refine one_ (i := 15) (N := some 20) #[true, true, true, true, true, true, true, true, true, true, true, true, true, true, true, true, false, false] rfl rfl (one_of HT_.out (by kernel_rfl)) (by decide) (fun K hK => ?_)
  refine R_lit_stepG (Kd.int .i64) _ 3 ?hg (N := 20) ?hd (xs := ([t133, t134, t135] : List Int)) (inner := [.int .i64 t133, .int .i64 t134, .int .i64 t135]) (ok := fun _ => True) (okp := fun _ => True) ?hr ?hp (fun _ hk => hk) trivial (GBelow.refl _ _) (Nat.le_refl _) (by simp) ?_; (case hd => rfl); (case hg => rfl); (case hr => first | (go_simp; done) | (go_simp; rfl)); (case hp => exact (Reps.one (show Kd.M (Kd.int .i64) _ _ _ t133 [.int .i64 t133] from rfl) (Reps.one (show Kd.M (Kd.int .i64) _ _ _ t134 [.int .i64 t134] from rfl) (Reps.one (show Kd.M (Kd.int .i64) _ _ _ t135 [.int .i64 t135] from rfl) (Reps.none _ _)))))
  intro v137 w13 ho14 hb hg_ hnew_
  clear hg_ hnew_
  (first | rw [← Ny136.out] at ho14 | (simp only [Int.reduceToNat] at ho14; rw [← Ny136.out] at ho14))
  have n0_ := Aside0.mk (Kd.R_lower ho14 (gbelow_size (by repeat (first | (with_reducible first | exact HB.out | apply gbelow_alloc | apply pw_gbelow_drewN | apply gbelow_drew1 | refine gbelow_set ?_ GE131.out | refine gbelow_set ?_ GE132.out) | exact HB.out))))
  have n1_ := Aside0.mk (gblk_below (g := gb131) (o := .cells #[.int .i64 a0_0, .string a0_1, .string a0_2, .int .i64 a0_3, .string a0_4, .string a0_5, .int .i64 a0_6, .string a0_7, .string a0_8] 25 (0, 0)) (by (with_reducible repeat (first | refine blk_drewN ?_ _ | refine blk_drew ?_ | refine blk_alloc ?_ _)); exact BK131.out) hb)
  have n2_ := Aside0.mk (gblk_below (g := gb132) (o := .cells #[.int .i64 a1_0, .string a1_1, .string a1_2, .int .i64 a1_3, .string a1_4, .string a1_5, .int .i64 a1_6, .string a1_7, .string a1_8] 25 (0, 0)) (by (with_reducible repeat (first | refine blk_drewN ?_ _ | refine blk_drew ?_ | refine blk_alloc ?_ _)); exact BK132.out) hb)
  have n3_ := Aside0.mk (gbelow_step (by repeat (first | (with_reducible first | exact HB.out | apply gbelow_alloc | apply pw_gbelow_drewN | apply gbelow_drew1 | refine gbelow_set ?_ GE131.out | refine gbelow_set ?_ GE132.out) | exact HB.out)) hb)
  clear BK131
  clear BK132
  clear HB
  have HO138 := n0_
  have BK131 := n1_
  have BK132 := n2_
  have HB := n3_
  clear n0_ n1_ n2_ n3_
  clear hb ho14
  obtain ⟨Ao15, co15, eo15⟩ := Kd.R_slice HO138.out
  (first | subst eo15 | (injection eo15 with f1_ f2_ f3_; have f4_ := f1_.symm; have f5_ := f3_.symm; clear f1_ f2_ f3_; subst f4_; subst f5_))
  refine hK.out _ _ ⟨(blk_cell BK131.out 0).trans rfl, (blk_cell BK131.out 1).trans rfl, (blk_cell BK131.out 2).trans rfl, (blk_cell BK131.out 3).trans rfl, (blk_cell BK131.out 4).trans rfl, (blk_cell BK131.out 5).trans rfl, (blk_cell BK131.out 6).trans rfl, (blk_cell BK131.out 7).trans rfl, (blk_cell BK131.out 8).trans rfl, (blk_cell BK132.out 0).trans rfl, (blk_cell BK132.out 1).trans rfl, (blk_cell BK132.out 2).trans rfl, (blk_cell BK132.out 3).trans rfl, (blk_cell BK132.out 4).trans rfl, (blk_cell BK132.out 5).trans rfl, (blk_cell BK132.out 6).trans rfl, (blk_cell BK132.out 7).trans rfl, (blk_cell BK132.out 8).trans rfl⟩ (fun hHeld => ?_)
  clear hK K
  refine norm_ (a' := ?_) ?_ ?_
  rotate_left
  · show Act.put _ (some 20) _ = _
    simp only [Act.put, List.setIfInBounds_toArray, List.set_cons_zero, List.set_cons_succ, i64_w, i32_w]
    rfl
  refine one_ (i := 16) (N := some 21) #[true, true, true, true, true, true, true, true, true, true, true, true, true, true, true, true, true, false] rfl rfl (one_of HT_.out (by kernel_rfl)) (by decide) (fun K hK => ?_)
  refine goes_ Tryz.func82 (by kernel_rfl) rfl #[.slice Ao15 y136.length co15] (by rfl) rfl rfl (by (try simp only [List.map_toArray, List.map_cons, List.map_nil]); first | done | rfl | (simp only [List.length_drop, List.length_take]; rfl)) ?_
  with_reducible refine (cmp_Or_int.calls k _ _ y136 t139 _ ?side1 ?side2 A6.out).mono ?_
  (case side1 => repeat (first | exact (Kd.R_reads' HO138.out).2.2 | (with_reducible refine Kd.C_alloc ?_ _) | (with_reducible refine Kd.C_drewN ?_ _) | (with_reducible refine Kd.C_drew ?_)))
  (case side2 => exact (Kd.R_reads' HO138.out).2.1)
  rintro e w' ⟨rfl, ⟨nd, rfl⟩⟩
  refine ⟨_, rfl, ?_⟩
  refine hK.out _ _ ⟨(blk_cell BK131.out 0).trans rfl, (blk_cell BK131.out 1).trans rfl, (blk_cell BK131.out 2).trans rfl, (blk_cell BK131.out 3).trans rfl, (blk_cell BK131.out 4).trans rfl, (blk_cell BK131.out 5).trans rfl, (blk_cell BK131.out 6).trans rfl, (blk_cell BK131.out 7).trans rfl, (blk_cell BK131.out 8).trans rfl, (blk_cell BK132.out 0).trans rfl, (blk_cell BK132.out 1).trans rfl, (blk_cell BK132.out 2).trans rfl, (blk_cell BK132.out 3).trans rfl, (blk_cell BK132.out 4).trans rfl, (blk_cell BK132.out 5).trans rfl, (blk_cell BK132.out 6).trans rfl, (blk_cell BK132.out 7).trans rfl, (blk_cell BK132.out 8).trans rfl⟩ (fun hHeld => ?_)
  clear hK K
  refine norm_ (a' := ?_) ?_ ?_
  rotate_left
  · show Act.put _ (some 21) _ = _
    simp only [Act.put, List.setIfInBounds_toArray, List.set_cons_zero, List.set_cons_succ, i64_w, i32_w]
    rfl
  refine pure_ (i := 17) (N := some 4) (v := ?_) (a' := ?_) #[true, true, true, true, true, true, true, true, true, true, true, true, true, true, true, true, true, true] rfl rfl (any_of HT_.out (by kernel_rfl)) (fun _ _ _ h => h) (Or.inl ⟨by rfl, ?_⟩) ?_ ?_
  rotate_left
  · intro w'
    go_simp
    with_reducible rfl
  rotate_left
  · simp only [Act.put, List.setIfInBounds_toArray, List.set_cons_zero, List.set_cons_succ, i64_w, i32_w]
    rfl
  refine done_ (done_of HT_.out (by kernel_rfl)) ?_
  try go_wp2
  go_ret
  exact ⟨by first | rfl | (simp [errW_none, errW_some] <;> rfl) | (simp [*, errW_none, errW_some] <;> rfl), by repeat (first | (with_reducible first | exact HB.out | apply gbelow_alloc | apply pw_gbelow_drewN | apply gbelow_drew1 | refine gbelow_set ?_ GE131.out | refine gbelow_set ?_ GE132.out) | exact HB.out)⟩
theorem triple_Compare.calls (k : Nat) (a0_0 : Int) (a0_1 : ByteArray) (a0_2 : ByteArray) (a0_3 : Int) (a0_4 : ByteArray) (a0_5 : ByteArray) (a0_6 : Int) (a0_7 : ByteArray) (a0_8 : ByteArray) (a1_0 : Int) (a1_1 : ByteArray) (a1_2 : ByteArray) (a1_3 : Int) (a1_4 : ByteArray) (a1_5 : ByteArray) (a1_6 : Int) (a1_7 : ByteArray) (a1_8 : ByteArray) (r : Int) (w : World) (h : triple_Compare.f k a0_0 a0_1 a0_2 a0_3 a0_4 a0_5 a0_6 a0_7 a0_8 a1_0 a1_1 a1_2 a1_3 a1_4 a1_5 a1_6 a1_7 a1_8 = some r) :
    Calls Tryz.prog 21 #[.agg #[.int .i64 a0_0, .string a0_1, .string a0_2, .int .i64 a0_3, .string a0_4, .string a0_5, .int .i64 a0_6, .string a0_7, .string a0_8], .agg #[.int .i64 a1_0, .string a1_1, .string a1_2, .int .i64 a1_3, .string a1_4, .string a1_5, .int .i64 a1_6, .string a1_7, .string a1_8]] w fun e w' => e = .returned (.int .i64 r) ∧ Below w.heap.size w w' := (triple_Compare.callsG k a0_0 a0_1 a0_2 a0_3 a0_4 a0_5 a0_6 a0_7 a0_8 a1_0 a1_1 a1_2 a1_3 a1_4 a1_5 a1_6 a1_7 a1_8 r w h).mono fun _ _ ⟨he, hb⟩ => ⟨he, hb.bel⟩

end Go.Proofs.YtdjamphmndbmjaaGreatDoor.M

-- WRITTEN BY wip/drv.py, a program of this repo that drives the kit's print.py beside contracts typed by hand. Lean checks it.
namespace Go.Proofs.YtdjamphmndbmjaaGreatDoor.M
open Go.RowKit Go.Proofs.YtdjamphmndbmjaaGreatDoorW.PrintWords Go.Proofs.YtdjamphmndbmjaaGreatDoorW.PrintLast Go.Proofs.YtdjamphmndbmjaaGreatDoorW.PrintMore
attribute [local go_sem] max2_int min2_int max_two min_two max_three min_three max_four min_four   -- for this text's walks alone
set_option linter.unusedVariables false
set_option linter.unusedSimpArgs false

/-! ### triple_Sorted: function 16 -/
def triple_Sorted.l0 : Nat → List (S25) → List (S25) → Int → Int → Option (Option Int)
  | 0, _, _, _, _ => none
  | k + 1, x0, x10, x11, x12 => if x12 < x11 then (if 0 ≤ x12 then (if x12 < (x10.length : Int) then ((triple_Check.f k ((rd_T25 x10 x12).f0.f0) ((rd_T25 x10 x12).f0.f1) ((rd_T25 x10 x12).f0.f2) ((rd_T25 x10 x12).f1.f0) ((rd_T25 x10 x12).f1.f1) ((rd_T25 x10 x12).f1.f2) ((rd_T25 x10 x12).f2.f0) ((rd_T25 x10 x12).f2.f1) ((rd_T25 x10 x12).f2.f2)).bind fun t142 => (if t142.isNone = true then (if x12 > 0 then (if 0 ≤ (wrap64 (x12 - 1)) then (if (wrap64 (x12 - 1)) < (x0.length : Int) then ((triple_Compare.f k ((rd_T25 x0 (wrap64 (x12 - 1))).f0.f0) ((rd_T25 x0 (wrap64 (x12 - 1))).f0.f1) ((rd_T25 x0 (wrap64 (x12 - 1))).f0.f2) ((rd_T25 x0 (wrap64 (x12 - 1))).f1.f0) ((rd_T25 x0 (wrap64 (x12 - 1))).f1.f1) ((rd_T25 x0 (wrap64 (x12 - 1))).f1.f2) ((rd_T25 x0 (wrap64 (x12 - 1))).f2.f0) ((rd_T25 x0 (wrap64 (x12 - 1))).f2.f1) ((rd_T25 x0 (wrap64 (x12 - 1))).f2.f2) ((rd_T25 x10 x12).f0.f0) ((rd_T25 x10 x12).f0.f1) ((rd_T25 x10 x12).f0.f2) ((rd_T25 x10 x12).f1.f0) ((rd_T25 x10 x12).f1.f1) ((rd_T25 x10 x12).f1.f2) ((rd_T25 x10 x12).f2.f0) ((rd_T25 x10 x12).f2.f1) ((rd_T25 x10 x12).f2.f2)).bind fun t145 => (if t145 ≥ 0 then (some (some 6)) else (triple_Sorted.l0 k x0 x10 x11 (wrap64 (x12 + 1))))) else (none)) else (none)) else (triple_Sorted.l0 k x0 x10 x11 (wrap64 (x12 + 1)))) else (some (some (t142.getD 0))))) else (none)) else (none)) else (some none)
def triple_Sorted.f (k : Nat) (l0 : List (S25)) : Option (Option Int) := if (l0.length : Int) > 200 then (some (some 4)) else (triple_Sorted.l0 k l0 l0 (l0.length : Int) 0)
theorem triple_Sorted.mono_l : ∀ k, (∀ y0 y1 y2 y3, LeO (triple_Sorted.l0 k y0 y1 y2 y3) (triple_Sorted.l0 (k + 1) y0 y1 y2 y3))
  | 0 => fun _ _ _ _ r h => by simp [triple_Sorted.l0] at h
  | k + 1 => by
    have ih0 := triple_Sorted.mono_l k
    · intro y0 y1 y2 y3
      unfold triple_Sorted.l0
      repeat' first
      | (with_reducible exact ih0 _ _ _ _)
      | (with_reducible exact triple_Check.mono _ _ _ _ _ _ _ _ _ _)
      | (with_reducible exact triple_Compare.mono _ _ _ _ _ _ _ _ _ _ _ _ _ _ _ _ _ _ _)
      | (with_reducible exact LeO.refl _)
      | (with_reducible exact LeO.none _)
      | (with_reducible refine LeO.ite ?_ ?_)
      | (with_reducible refine LeO.bind ?_ (fun _ => ?_))
      | exact ih0 _ _ _ _
      | exact triple_Check.mono _ _ _ _ _ _ _ _ _ _
      | exact triple_Compare.mono _ _ _ _ _ _ _ _ _ _ _ _ _ _ _ _ _ _ _
      | exact LeO.none _
      | refine LeO.ite ?_ ?_
      | refine LeO.bind ?_ (fun _ => ?_)
theorem triple_Sorted.mono : ∀ a0 k, LeO (triple_Sorted.f k a0) (triple_Sorted.f (k + 1) a0) := by
  intro a0 k
  have ih0 := triple_Sorted.mono_l k
  unfold triple_Sorted.f
  repeat' first
      | (with_reducible exact ih0 _ _ _ _)
      | (with_reducible exact triple_Check.mono _ _ _ _ _ _ _ _ _ _)
      | (with_reducible exact triple_Compare.mono _ _ _ _ _ _ _ _ _ _ _ _ _ _ _ _ _ _ _)
      | (with_reducible exact LeO.refl _)
      | (with_reducible exact LeO.none _)
      | (with_reducible refine LeO.ite ?_ ?_)
      | (with_reducible refine LeO.bind ?_ (fun _ => ?_))
      | exact ih0 _ _ _ _
      | exact triple_Check.mono _ _ _ _ _ _ _ _ _ _
      | exact triple_Compare.mono _ _ _ _ _ _ _ _ _ _ _ _ _ _ _ _ _ _ _
      | exact LeO.none _
      | refine LeO.ite ?_ ?_
      | refine LeO.bind ?_ (fun _ => ?_)
def triple_Sorted.T9 : Bool × List (List Nat × List Nat) := (true, [([], []), ([0], [0]), ([1], [1]), ([2], [2]), ([2], [2]), ([4, 2], [2, 4]), ([3, 5, 2], [2, 3, 5]), ([6, 2], [2, 6]), ([2], [2]), ([7, 8, 2, 2], [2, 7, 8]), ([9, 2], [2, 9]), ([2, 10], [2, 10])])
def triple_Sorted.B9 : List Nat := [0, 1, 3, 7, 7, 23, 63, 127, 7, 511, 1023, 2047]
theorem triple_Sorted.tab9 : rtab .any (opsOf Tryz.f16 9) = triple_Sorted.T9 := by kernel_rfl
theorem triple_Sorted.bits9 : waitsOk triple_Sorted.T9.2 triple_Sorted.B9 = true := by kernel_rfl
set_option maxHeartbeats 8000000 in
set_option maxRecDepth 100000 in
theorem triple_Sorted.calls (k : Nat) (A0 : Option Addr) (c0 : Nat) (l0 : List (S25)) (r : Option Int) (w : World) (hr0 : Kd.C k25 w A0 l0.length l0) (hc0 : l0.length ≤ c0) (h : triple_Sorted.f k l0 = some r) :
    Calls Tryz.prog 16 #[.slice A0 l0.length c0] w fun e w' => e = .returned (errW r) ∧ Below w.heap.size w w' := by
  have hu25 := Tryz.underlying25
  have hu30 := Tryz.underlying30
  have hu116 := Tryz.underlying116
  have HR0 := Aside0.mk hr0
  have HC0 := Aside0.mk hc0
  clear hr0 hc0
  have HB := Aside0.mk (Below.refl w.heap.size w)
  have H : (if (l0.length : Int) > 200 then (some (some 4)) else (triple_Sorted.l0 k l0 l0 (l0.length : Int) 0)) = some r := h
  clear h
  by_cases c2 : (l0.length : Int) > 200
  · rw [if_pos c2] at H
    have c2b0 : decide (200 < (l0.length : Int)) = true := decide_eq_true c2
    have c2b1 : decide (200 < l0.length) = true := decide_eq_true (by omega)
    clear c2
    obtain rfl := Option.some.inj H
    go_enter Tryz.func16, Tryz.ntmps16
    go_wp2
    go_ret
    exact ⟨by first | rfl | (simp [errW_none, errW_some] <;> rfl) | (simp [*, errW_none, errW_some] <;> rfl), by repeat (first | (with_reducible first | exact HB.out | apply below_alloc | apply pw_below_drewN | apply below_drew1) | exact HB.out)⟩
  · rw [if_neg c2] at H
    have c2b0 : decide (200 < (l0.length : Int)) = false := decide_eq_false c2
    have c2b1 : decide (200 < l0.length) = false := decide_eq_false (by omega)
    clear c2
    have H' := Aside0.mk H
    clear H
    go_enter Tryz.func16, Tryz.ntmps16
    go_wp2
    go_loopg [12] k (fun kq v12 w' => ∃ (x12_1 : Int), v12 = .int .i64 x12_1 ∧ Aside0 (triple_Sorted.l0 kq l0 l0 (l0.length : Int) x12_1 = some r) ∧ Aside0 (kq ≤ k) ∧ Aside0 (Below w.heap.size w w'))
    case atStart => exact ⟨(0), (by first | rfl | (simp; done) | (simp [*]; done)), H', ⟨Nat.le_refl _⟩, ⟨by repeat (first | (with_reducible first | exact HB.out | apply below_alloc | apply pw_below_drewN | apply below_drew1) | exact HB.out)⟩⟩
    case round =>
      clear H'
      try clear c1
      try clear c2
      try clear c2b0
      try clear c2b1
      try clear p2
      obtain ⟨x12_1, rfl, HA, HK1, HB⟩ := hrel
      cases gk with
      | zero => exact absurd HA.out (by simp [triple_Sorted.l0])
      | succ k1 =>
        have H := HA.out
        clear HA
        simp only [triple_Sorted.l0] at H
        by_cases c3 : x12_1 < (l0.length : Int)
        · rw [if_pos c3] at H
          have c3b0 : decide (x12_1 < (l0.length : Int)) = true := decide_eq_true c3
          clear c3
          by_cases c4 : 0 ≤ x12_1
          · rw [if_pos c4] at H
            have c4b0 : decide (0 ≤ x12_1) = true := decide_eq_true c4
            clear c4
            by_cases c5 : x12_1 < (l0.length : Int)
            · rw [if_pos c5] at H
              have c5b0 : decide (x12_1 < (l0.length : Int)) = true := decide_eq_true c5
              clear c5
              replace H := Option.bind_eq_some_iff.mp H
              obtain ⟨t142, A60, H⟩ := H
              replace H : (if t142.isNone = true then (if x12_1 > 0 then (if 0 ≤ (wrap64 (x12_1 - 1)) then (if (wrap64 (x12_1 - 1)) < (l0.length : Int) then ((triple_Compare.f k1 ((rd_T25 l0 (wrap64 (x12_1 - 1))).f0.f0) ((rd_T25 l0 (wrap64 (x12_1 - 1))).f0.f1) ((rd_T25 l0 (wrap64 (x12_1 - 1))).f0.f2) ((rd_T25 l0 (wrap64 (x12_1 - 1))).f1.f0) ((rd_T25 l0 (wrap64 (x12_1 - 1))).f1.f1) ((rd_T25 l0 (wrap64 (x12_1 - 1))).f1.f2) ((rd_T25 l0 (wrap64 (x12_1 - 1))).f2.f0) ((rd_T25 l0 (wrap64 (x12_1 - 1))).f2.f1) ((rd_T25 l0 (wrap64 (x12_1 - 1))).f2.f2) ((rd_T25 l0 x12_1).f0.f0) ((rd_T25 l0 x12_1).f0.f1) ((rd_T25 l0 x12_1).f0.f2) ((rd_T25 l0 x12_1).f1.f0) ((rd_T25 l0 x12_1).f1.f1) ((rd_T25 l0 x12_1).f1.f2) ((rd_T25 l0 x12_1).f2.f0) ((rd_T25 l0 x12_1).f2.f1) ((rd_T25 l0 x12_1).f2.f2)).bind fun t145 => (if t145 ≥ 0 then (some (some 6)) else (triple_Sorted.l0 k1 l0 l0 (l0.length : Int) (wrap64 (x12_1 + 1))))) else (none)) else (none)) else (triple_Sorted.l0 k1 l0 l0 (l0.length : Int) (wrap64 (x12_1 + 1)))) else (some (some (t142.getD 0)))) = some r := H
              have A6 := Aside0.mk A60
              clear A60
              rcases t142 with _ | q143
              · have H1 : (if x12_1 > 0 then (if 0 ≤ (wrap64 (x12_1 - 1)) then (if (wrap64 (x12_1 - 1)) < (l0.length : Int) then ((triple_Compare.f k1 ((rd_T25 l0 (wrap64 (x12_1 - 1))).f0.f0) ((rd_T25 l0 (wrap64 (x12_1 - 1))).f0.f1) ((rd_T25 l0 (wrap64 (x12_1 - 1))).f0.f2) ((rd_T25 l0 (wrap64 (x12_1 - 1))).f1.f0) ((rd_T25 l0 (wrap64 (x12_1 - 1))).f1.f1) ((rd_T25 l0 (wrap64 (x12_1 - 1))).f1.f2) ((rd_T25 l0 (wrap64 (x12_1 - 1))).f2.f0) ((rd_T25 l0 (wrap64 (x12_1 - 1))).f2.f1) ((rd_T25 l0 (wrap64 (x12_1 - 1))).f2.f2) ((rd_T25 l0 x12_1).f0.f0) ((rd_T25 l0 x12_1).f0.f1) ((rd_T25 l0 x12_1).f0.f2) ((rd_T25 l0 x12_1).f1.f0) ((rd_T25 l0 x12_1).f1.f1) ((rd_T25 l0 x12_1).f1.f2) ((rd_T25 l0 x12_1).f2.f0) ((rd_T25 l0 x12_1).f2.f1) ((rd_T25 l0 x12_1).f2.f2)).bind fun t145 => (if t145 ≥ 0 then (some (some 6)) else (triple_Sorted.l0 k1 l0 l0 (l0.length : Int) (wrap64 (x12_1 + 1))))) else (none)) else (none)) else (triple_Sorted.l0 k1 l0 l0 (l0.length : Int) (wrap64 (x12_1 + 1)))) = some r := by rw [if_pos (show (none : Option Int).isNone = true by rfl)] at H; exact H
                clear H
                have H := H1
                clear H1
                try simp only [errW_none, errW_some]
                by_cases c7 : x12_1 > 0
                · rw [if_pos c7] at H
                  have c7b0 : decide (0 < x12_1) = true := decide_eq_true c7
                  clear c7
                  obtain ⟨ji8, hji8⟩ : ∃ j_ : Int, (wrap64 (x12_1 - 1)) = j_ := ⟨_, rfl⟩
                  replace H : (if 0 ≤ (ji8) then (if (ji8) < (l0.length : Int) then ((triple_Compare.f k1 ((rd_T25 l0 (ji8)).f0.f0) ((rd_T25 l0 (ji8)).f0.f1) ((rd_T25 l0 (ji8)).f0.f2) ((rd_T25 l0 (ji8)).f1.f0) ((rd_T25 l0 (ji8)).f1.f1) ((rd_T25 l0 (ji8)).f1.f2) ((rd_T25 l0 (ji8)).f2.f0) ((rd_T25 l0 (ji8)).f2.f1) ((rd_T25 l0 (ji8)).f2.f2) ((rd_T25 l0 x12_1).f0.f0) ((rd_T25 l0 x12_1).f0.f1) ((rd_T25 l0 x12_1).f0.f2) ((rd_T25 l0 x12_1).f1.f0) ((rd_T25 l0 x12_1).f1.f1) ((rd_T25 l0 x12_1).f1.f2) ((rd_T25 l0 x12_1).f2.f0) ((rd_T25 l0 x12_1).f2.f1) ((rd_T25 l0 x12_1).f2.f2)).bind fun t145 => (if t145 ≥ 0 then (some (some 6)) else (triple_Sorted.l0 k1 l0 l0 (l0.length : Int) (wrap64 (x12_1 + 1))))) else (none)) else (none)) = some r := by first | (rw [hji8] at H; exact H) | (simp only [hji8] at H ⊢; exact H)
                  (try rw [hji8] at A6)
                  have hji8w : (IntKind.i64.wrap (x12_1 - 1)) = ji8 := (i64_w _).trans hji8
                  by_cases c9 : 0 ≤ (ji8)
                  · rw [if_pos c9] at H
                    have c9b0 : decide (0 ≤ (ji8)) = true := decide_eq_true c9
                    clear c9
                    by_cases c10 : (ji8) < (l0.length : Int)
                    · rw [if_pos c10] at H
                      have c10b0 : decide ((ji8) < (l0.length : Int)) = true := decide_eq_true c10
                      clear c10
                      replace H := Option.bind_eq_some_iff.mp H
                      obtain ⟨t145, A110, H⟩ := H
                      replace H : (if t145 ≥ 0 then (some (some 6)) else (triple_Sorted.l0 k1 l0 l0 (l0.length : Int) (wrap64 (x12_1 + 1)))) = some r := H
                      have A11 := Aside0.mk A110
                      clear A110
                      by_cases c12 : t145 ≥ 0
                      · rw [if_pos c12] at H
                        have c12b0 : decide (0 ≤ t145) = true := decide_eq_true c12
                        clear c12
                        obtain rfl := Option.some.inj H
                        have p140 : 0 ≤ (x12_1 : Int) := of_decide_eq_true (by first | (with_reducible assumption) | assumption)
                        have q140 : x12_1 < (l0.length : Int) := of_decide_eq_true (by first | (with_reducible assumption) | assumption)
                        obtain ⟨ad140, e140, hx140_0, hx140_1, hx140_2, hx140_3, hx140_4, hx140_5, hx140_6, hx140_7, hx140_8⟩ := at_T25 HR0.out x12_1 p140 q140
                        cases e140
                        replace hx140_0 := (HB.out.cell (World.block_lt_of_cell? w _ hx140_0)).trans hx140_0
                        replace hx140_1 := (HB.out.cell (World.block_lt_of_cell? w _ hx140_1)).trans hx140_1
                        replace hx140_2 := (HB.out.cell (World.block_lt_of_cell? w _ hx140_2)).trans hx140_2
                        replace hx140_3 := (HB.out.cell (World.block_lt_of_cell? w _ hx140_3)).trans hx140_3
                        replace hx140_4 := (HB.out.cell (World.block_lt_of_cell? w _ hx140_4)).trans hx140_4
                        replace hx140_5 := (HB.out.cell (World.block_lt_of_cell? w _ hx140_5)).trans hx140_5
                        replace hx140_6 := (HB.out.cell (World.block_lt_of_cell? w _ hx140_6)).trans hx140_6
                        replace hx140_7 := (HB.out.cell (World.block_lt_of_cell? w _ hx140_7)).trans hx140_7
                        replace hx140_8 := (HB.out.cell (World.block_lt_of_cell? w _ hx140_8)).trans hx140_8
                        replace p140 := eq_true p140
                        replace q140 := eq_true q140
                        try go_wp2_with (first | ((with_reducible refine gate_dst (N := 4) rfl ?_); refine box_event ?hg (N := 4) ?hd (cs := #[.int .i64 0, .string (⟨#[]⟩ : ByteArray), .string (⟨#[]⟩ : ByteArray), .int .i64 0, .string (⟨#[]⟩ : ByteArray), .string (⟨#[]⟩ : ByteArray), .int .i64 0, .string (⟨#[]⟩ : ByteArray), .string (⟨#[]⟩ : ByteArray)]) (t := 25) ?hr ?_; (case hd => rfl); (case hg => rfl); (case hr => first | (go_simp; done) | (go_simp; rfl)); intro gb141 hg w13 hbox hb; have n0_ := Aside0.mk (below_step (by repeat (first | (with_reducible first | exact HB.out | apply below_alloc | apply pw_below_drewN | apply below_drew1) | exact HB.out)) hb); have n1_ := Aside0.mk (hbox); have n2_ := Aside0.mk ((by rw [hg]; exact (below_size (by repeat (first | (with_reducible first | exact HB.out | apply below_alloc | apply pw_below_drewN | apply below_drew1) | exact HB.out))) : w.heap.size ≤ gb141)); have n3_ := Aside0.mk ((by rw [hg]; exact (below_size (by repeat (first | (with_reducible first | exact HB.out | apply below_alloc | apply pw_below_drewN | apply below_drew1) | exact HB.out))) : w.heap.size ≤ gb141)); clear HB; have HB := n0_; have BK141 := n1_; have GW141 := n2_; have GE141 := n3_; clear n0_ n1_ n2_ n3_; clear hb hbox hg; have hcz14_0 : w13.cell? ⟨gb141, 0, none⟩ = some (.int .i64 0) := (blk_cell BK141.out 0).trans rfl; have hcz14_1 : w13.cell? ⟨gb141, 1, none⟩ = some (.string (⟨#[]⟩ : ByteArray)) := (blk_cell BK141.out 1).trans rfl; have hcz14_2 : w13.cell? ⟨gb141, 2, none⟩ = some (.string (⟨#[]⟩ : ByteArray)) := (blk_cell BK141.out 2).trans rfl; have hcz14_3 : w13.cell? ⟨gb141, 3, none⟩ = some (.int .i64 0) := (blk_cell BK141.out 3).trans rfl; have hcz14_4 : w13.cell? ⟨gb141, 4, none⟩ = some (.string (⟨#[]⟩ : ByteArray)) := (blk_cell BK141.out 4).trans rfl; have hcz14_5 : w13.cell? ⟨gb141, 5, none⟩ = some (.string (⟨#[]⟩ : ByteArray)) := (blk_cell BK141.out 5).trans rfl; have hcz14_6 : w13.cell? ⟨gb141, 6, none⟩ = some (.int .i64 0) := (blk_cell BK141.out 6).trans rfl; have hcz14_7 : w13.cell? ⟨gb141, 7, none⟩ = some (.string (⟨#[]⟩ : ByteArray)) := (blk_cell BK141.out 7).trans rfl; have hcz14_8 : w13.cell? ⟨gb141, 8, none⟩ = some (.string (⟨#[]⟩ : ByteArray)) := (blk_cell BK141.out 8).trans rfl; have hfz14_0 := blk_frozen BK141.out 0; have hfz14_1 := blk_frozen BK141.out 1; have hfz14_2 := blk_frozen BK141.out 2; have hfz14_3 := blk_frozen BK141.out 3; have hfz14_4 := blk_frozen BK141.out 4; have hfz14_5 := blk_frozen BK141.out 5; have hfz14_6 := blk_frozen BK141.out 6; have hfz14_7 := blk_frozen BK141.out 7; have hfz14_8 := blk_frozen BK141.out 8) | ((with_reducible refine gate_callee (f := 11) rfl ?_); refine goesL_ (some 18) rfl rfl Tryz.func11 (by kernel_rfl) rfl #[.agg #[.int .i64 ((rd_T25 l0 x12_1).f0.f0), .string ((rd_T25 l0 x12_1).f0.f1), .string ((rd_T25 l0 x12_1).f0.f2), .int .i64 ((rd_T25 l0 x12_1).f1.f0), .string ((rd_T25 l0 x12_1).f1.f1), .string ((rd_T25 l0 x12_1).f1.f2), .int .i64 ((rd_T25 l0 x12_1).f2.f0), .string ((rd_T25 l0 x12_1).f2.f1), .string ((rd_T25 l0 x12_1).f2.f2)]] rfl (by (try simp only [List.map_toArray, List.map_cons, List.map_nil]); first | done | rfl | (simp only [List.length_drop, List.length_take]; rfl)) ?_; (with_reducible refine (triple_Check.calls k1 ((rd_T25 l0 x12_1).f0.f0) ((rd_T25 l0 x12_1).f0.f1) ((rd_T25 l0 x12_1).f0.f2) ((rd_T25 l0 x12_1).f1.f0) ((rd_T25 l0 x12_1).f1.f1) ((rd_T25 l0 x12_1).f1.f2) ((rd_T25 l0 x12_1).f2.f0) ((rd_T25 l0 x12_1).f2.f1) ((rd_T25 l0 x12_1).f2.f2) none _ A6.out).mono ?_); rintro e w15 ⟨rfl, hb⟩; refine ⟨_, rfl, ?_⟩; have n0_ := Aside0.mk (blk_below (g := gb141) (o := .cells #[.int .i64 ((rd_T25 l0 x12_1).f0.f0), .string ((rd_T25 l0 x12_1).f0.f1), .string ((rd_T25 l0 x12_1).f0.f2), .int .i64 ((rd_T25 l0 x12_1).f1.f0), .string ((rd_T25 l0 x12_1).f1.f1), .string ((rd_T25 l0 x12_1).f1.f2), .int .i64 ((rd_T25 l0 x12_1).f2.f0), .string ((rd_T25 l0 x12_1).f2.f1), .string ((rd_T25 l0 x12_1).f2.f2)] 25 (0, 0)) (by (with_reducible repeat (first | refine blk_drewN ?_ _ | refine blk_drew ?_ | refine blk_alloc ?_ _)); refine blk_put (cs := #[.int .i64 ((rd_T25 l0 x12_1).f0.f0), .string ((rd_T25 l0 x12_1).f0.f1), .string ((rd_T25 l0 x12_1).f0.f2), .int .i64 ((rd_T25 l0 x12_1).f1.f0), .string ((rd_T25 l0 x12_1).f1.f1), .string ((rd_T25 l0 x12_1).f1.f2), .int .i64 ((rd_T25 l0 x12_1).f2.f0), .string ((rd_T25 l0 x12_1).f2.f1), .string (⟨#[]⟩ : ByteArray)]) ?_ 8 _ rfl; (with_reducible repeat (first | refine blk_drewN ?_ _ | refine blk_drew ?_ | refine blk_alloc ?_ _)); refine blk_put (cs := #[.int .i64 ((rd_T25 l0 x12_1).f0.f0), .string ((rd_T25 l0 x12_1).f0.f1), .string ((rd_T25 l0 x12_1).f0.f2), .int .i64 ((rd_T25 l0 x12_1).f1.f0), .string ((rd_T25 l0 x12_1).f1.f1), .string ((rd_T25 l0 x12_1).f1.f2), .int .i64 ((rd_T25 l0 x12_1).f2.f0), .string (⟨#[]⟩ : ByteArray), .string (⟨#[]⟩ : ByteArray)]) ?_ 7 _ rfl; (with_reducible repeat (first | refine blk_drewN ?_ _ | refine blk_drew ?_ | refine blk_alloc ?_ _)); refine blk_put (cs := #[.int .i64 ((rd_T25 l0 x12_1).f0.f0), .string ((rd_T25 l0 x12_1).f0.f1), .string ((rd_T25 l0 x12_1).f0.f2), .int .i64 ((rd_T25 l0 x12_1).f1.f0), .string ((rd_T25 l0 x12_1).f1.f1), .string ((rd_T25 l0 x12_1).f1.f2), .int .i64 0, .string (⟨#[]⟩ : ByteArray), .string (⟨#[]⟩ : ByteArray)]) ?_ 6 _ rfl; (with_reducible repeat (first | refine blk_drewN ?_ _ | refine blk_drew ?_ | refine blk_alloc ?_ _)); refine blk_put (cs := #[.int .i64 ((rd_T25 l0 x12_1).f0.f0), .string ((rd_T25 l0 x12_1).f0.f1), .string ((rd_T25 l0 x12_1).f0.f2), .int .i64 ((rd_T25 l0 x12_1).f1.f0), .string ((rd_T25 l0 x12_1).f1.f1), .string (⟨#[]⟩ : ByteArray), .int .i64 0, .string (⟨#[]⟩ : ByteArray), .string (⟨#[]⟩ : ByteArray)]) ?_ 5 _ rfl; (with_reducible repeat (first | refine blk_drewN ?_ _ | refine blk_drew ?_ | refine blk_alloc ?_ _)); refine blk_put (cs := #[.int .i64 ((rd_T25 l0 x12_1).f0.f0), .string ((rd_T25 l0 x12_1).f0.f1), .string ((rd_T25 l0 x12_1).f0.f2), .int .i64 ((rd_T25 l0 x12_1).f1.f0), .string (⟨#[]⟩ : ByteArray), .string (⟨#[]⟩ : ByteArray), .int .i64 0, .string (⟨#[]⟩ : ByteArray), .string (⟨#[]⟩ : ByteArray)]) ?_ 4 _ rfl; (with_reducible repeat (first | refine blk_drewN ?_ _ | refine blk_drew ?_ | refine blk_alloc ?_ _)); refine blk_put (cs := #[.int .i64 ((rd_T25 l0 x12_1).f0.f0), .string ((rd_T25 l0 x12_1).f0.f1), .string ((rd_T25 l0 x12_1).f0.f2), .int .i64 0, .string (⟨#[]⟩ : ByteArray), .string (⟨#[]⟩ : ByteArray), .int .i64 0, .string (⟨#[]⟩ : ByteArray), .string (⟨#[]⟩ : ByteArray)]) ?_ 3 _ rfl; (with_reducible repeat (first | refine blk_drewN ?_ _ | refine blk_drew ?_ | refine blk_alloc ?_ _)); refine blk_put (cs := #[.int .i64 ((rd_T25 l0 x12_1).f0.f0), .string ((rd_T25 l0 x12_1).f0.f1), .string (⟨#[]⟩ : ByteArray), .int .i64 0, .string (⟨#[]⟩ : ByteArray), .string (⟨#[]⟩ : ByteArray), .int .i64 0, .string (⟨#[]⟩ : ByteArray), .string (⟨#[]⟩ : ByteArray)]) ?_ 2 _ rfl; (with_reducible repeat (first | refine blk_drewN ?_ _ | refine blk_drew ?_ | refine blk_alloc ?_ _)); refine blk_put (cs := #[.int .i64 ((rd_T25 l0 x12_1).f0.f0), .string (⟨#[]⟩ : ByteArray), .string (⟨#[]⟩ : ByteArray), .int .i64 0, .string (⟨#[]⟩ : ByteArray), .string (⟨#[]⟩ : ByteArray), .int .i64 0, .string (⟨#[]⟩ : ByteArray), .string (⟨#[]⟩ : ByteArray)]) ?_ 1 _ rfl; (with_reducible repeat (first | refine blk_drewN ?_ _ | refine blk_drew ?_ | refine blk_alloc ?_ _)); refine blk_put (cs := #[.int .i64 0, .string (⟨#[]⟩ : ByteArray), .string (⟨#[]⟩ : ByteArray), .int .i64 0, .string (⟨#[]⟩ : ByteArray), .string (⟨#[]⟩ : ByteArray), .int .i64 0, .string (⟨#[]⟩ : ByteArray), .string (⟨#[]⟩ : ByteArray)]) ?_ 0 _ rfl; (with_reducible repeat (first | refine blk_drewN ?_ _ | refine blk_drew ?_ | refine blk_alloc ?_ _)); exact BK141.out) hb); have n1_ := Aside0.mk (below_step (by repeat (first | (with_reducible first | exact HB.out | apply below_alloc | apply pw_below_drewN | apply below_drew1 | refine below_set ?_ GE141.out) | exact HB.out)) hb); clear BK141; clear HB; have BK141 := n0_; have HB := n1_; clear n0_ n1_; (try clear hb); (try clear hb2); (try clear hk); (try clear hi); (try simp only [errW_none, errW_some])))
                        have n0_ := Aside0.mk (blk_drew BK141.out)
                        have n1_ := Aside0.mk (below_drew1 HB.out)
                        clear BK141
                        clear HB
                        have BK141 := n0_
                        have HB := n1_
                        clear n0_ n1_
                        have p144 : 0 ≤ ((ji8) : Int) := of_decide_eq_true (by first | (with_reducible assumption) | assumption)
                        have q144 : (ji8) < (l0.length : Int) := of_decide_eq_true (by first | (with_reducible assumption) | assumption)
                        obtain ⟨ad144, e144, hx144_0, hx144_1, hx144_2, hx144_3, hx144_4, hx144_5, hx144_6, hx144_7, hx144_8⟩ := at_T25 HR0.out (ji8) p144 q144
                        have hw144_8 := hx144_8
                        have hw144_7 := hx144_7
                        have hw144_6 := hx144_6
                        have hw144_5 := hx144_5
                        have hw144_4 := hx144_4
                        have hw144_3 := hx144_3
                        have hw144_2 := hx144_2
                        have hw144_1 := hx144_1
                        have hw144_0 := hx144_0
                        obtain rfl : ad140 = ad144 := (by injection e144)
                        replace hx144_0 := (HB.out.cell (World.block_lt_of_cell? w _ hx144_0)).trans hx144_0
                        replace hx144_1 := (HB.out.cell (World.block_lt_of_cell? w _ hx144_1)).trans hx144_1
                        replace hx144_2 := (HB.out.cell (World.block_lt_of_cell? w _ hx144_2)).trans hx144_2
                        replace hx144_3 := (HB.out.cell (World.block_lt_of_cell? w _ hx144_3)).trans hx144_3
                        replace hx144_4 := (HB.out.cell (World.block_lt_of_cell? w _ hx144_4)).trans hx144_4
                        replace hx144_5 := (HB.out.cell (World.block_lt_of_cell? w _ hx144_5)).trans hx144_5
                        replace hx144_6 := (HB.out.cell (World.block_lt_of_cell? w _ hx144_6)).trans hx144_6
                        replace hx144_7 := (HB.out.cell (World.block_lt_of_cell? w _ hx144_7)).trans hx144_7
                        replace hx144_8 := (HB.out.cell (World.block_lt_of_cell? w _ hx144_8)).trans hx144_8
                        replace p144 := eq_true p144
                        replace q144 := eq_true q144
                        refine start_ (n := 12) (S := fun w' => w'.cell? ⟨gb141, 0, none⟩ = some (.int .i64 ((rd_T25 l0 x12_1).f0.f0)) ∧ w'.cell? ⟨gb141, 1, none⟩ = some (.string ((rd_T25 l0 x12_1).f0.f1)) ∧ w'.cell? ⟨gb141, 2, none⟩ = some (.string ((rd_T25 l0 x12_1).f0.f2)) ∧ w'.cell? ⟨gb141, 3, none⟩ = some (.int .i64 ((rd_T25 l0 x12_1).f1.f0)) ∧ w'.cell? ⟨gb141, 4, none⟩ = some (.string ((rd_T25 l0 x12_1).f1.f1)) ∧ w'.cell? ⟨gb141, 5, none⟩ = some (.string ((rd_T25 l0 x12_1).f1.f2)) ∧ w'.cell? ⟨gb141, 6, none⟩ = some (.int .i64 ((rd_T25 l0 x12_1).f2.f0)) ∧ w'.cell? ⟨gb141, 7, none⟩ = some (.string ((rd_T25 l0 x12_1).f2.f1)) ∧ w'.cell? ⟨gb141, 8, none⟩ = some (.string ((rd_T25 l0 x12_1).f2.f2)) ∧ w'.cell? (ad140.add (((ji8)).toNat * 9)) = some (.int .i64 ((rd_T25 l0 (ji8)).f0.f0)) ∧ w'.cell? ⟨(ad140.add (((ji8)).toNat * 9)).block, (ad140.add (((ji8)).toNat * 9)).off + 1, none⟩ = some (.string ((rd_T25 l0 (ji8)).f0.f1)) ∧ w'.cell? ⟨(ad140.add (((ji8)).toNat * 9)).block, (ad140.add (((ji8)).toNat * 9)).off + 2, none⟩ = some (.string ((rd_T25 l0 (ji8)).f0.f2)) ∧ w'.cell? ⟨(ad140.add (((ji8)).toNat * 9)).block, (ad140.add (((ji8)).toNat * 9)).off + 3, none⟩ = some (.int .i64 ((rd_T25 l0 (ji8)).f1.f0)) ∧ w'.cell? ⟨(ad140.add (((ji8)).toNat * 9)).block, (ad140.add (((ji8)).toNat * 9)).off + 4, none⟩ = some (.string ((rd_T25 l0 (ji8)).f1.f1)) ∧ w'.cell? ⟨(ad140.add (((ji8)).toNat * 9)).block, (ad140.add (((ji8)).toNat * 9)).off + 5, none⟩ = some (.string ((rd_T25 l0 (ji8)).f1.f2)) ∧ w'.cell? ⟨(ad140.add (((ji8)).toNat * 9)).block, (ad140.add (((ji8)).toNat * 9)).off + 6, none⟩ = some (.int .i64 ((rd_T25 l0 (ji8)).f2.f0)) ∧ w'.cell? ⟨(ad140.add (((ji8)).toNat * 9)).block, (ad140.add (((ji8)).toNat * 9)).off + 7, none⟩ = some (.string ((rd_T25 l0 (ji8)).f2.f1)) ∧ w'.cell? ⟨(ad140.add (((ji8)).toNat * 9)).block, (ad140.add (((ji8)).toNat * 9)).off + 8, none⟩ = some (.string ((rd_T25 l0 (ji8)).f2.f2))) (ds := []) #[false, false, false, false, false, false, false, false, false, false, false, false] (by kernel_rfl) rfl rfl ⟨(blk_cell BK141.out 0).trans rfl, (blk_cell BK141.out 1).trans rfl, (blk_cell BK141.out 2).trans rfl, (blk_cell BK141.out 3).trans rfl, (blk_cell BK141.out 4).trans rfl, (blk_cell BK141.out 5).trans rfl, (blk_cell BK141.out 6).trans rfl, (blk_cell BK141.out 7).trans rfl, (blk_cell BK141.out 8).trans rfl, ((HB.out.cell (World.block_lt_of_cell? w _ hw144_0)).trans hw144_0), ((HB.out.cell (World.block_lt_of_cell? w _ hw144_1)).trans hw144_1), ((HB.out.cell (World.block_lt_of_cell? w _ hw144_2)).trans hw144_2), ((HB.out.cell (World.block_lt_of_cell? w _ hw144_3)).trans hw144_3), ((HB.out.cell (World.block_lt_of_cell? w _ hw144_4)).trans hw144_4), ((HB.out.cell (World.block_lt_of_cell? w _ hw144_5)).trans hw144_5), ((HB.out.cell (World.block_lt_of_cell? w _ hw144_6)).trans hw144_6), ((HB.out.cell (World.block_lt_of_cell? w _ hw144_7)).trans hw144_7), ((HB.out.cell (World.block_lt_of_cell? w _ hw144_8)).trans hw144_8)⟩ (fun hHeld => ?_); refine with_tabW triple_Sorted.tab9 triple_Sorted.bits9 (fun HT_ HW_ => ?_)
                        generalize w15.drew = w16 at BK141 HB hx144_0 hx144_1 hx144_2 hx144_3 hx144_4 hx144_5 hx144_6 hx144_7 hx144_8 hHeld ⊢
                        refine pure_ (i := 0) (N := some 22) (v := ?_) (a' := ?_) #[true, false, false, false, false, false, false, false, false, false, false, false] rfl rfl (any_of HT_.out (by kernel_rfl)) (fun _ _ _ h => h) (Or.inl ⟨by rfl, ?_⟩) ?_ ?_
                        rotate_left
                        · intro w'
                          go_simp
                          with_reducible rfl
                        rotate_left
                        · simp only [Act.put, List.setIfInBounds_toArray, List.set_cons_zero, List.set_cons_succ, i64_w, i32_w]
                          rfl
                        refine pure_ (i := 1) (N := some 23) (v := ?_) (a' := ?_) #[true, true, false, false, false, false, false, false, false, false, false, false] rfl rfl (any_of HT_.out (by kernel_rfl)) (fun _ _ _ h => h) (Or.inl ⟨by rfl, ?_⟩) ?_ ?_
                        rotate_left
                        · intro w'
                          go_simp
                          with_reducible rfl
                        rotate_left
                        · simp only [Act.put, List.setIfInBounds_toArray, List.set_cons_zero, List.set_cons_succ, i64_w, i32_w]
                          rfl
                        refine pure_ (i := 2) (N := some 24) (v := ?_) (a' := ?_) #[true, true, true, false, false, false, false, false, false, false, false, false] rfl rfl (any_of HT_.out (by kernel_rfl)) (fun _ _ _ h => h) (Or.inl ⟨by rfl, ?_⟩) ?_ ?_
                        rotate_left
                        · intro w'
                          go_simp
                          with_reducible rfl
                        rotate_left
                        · simp only [Act.put, List.setIfInBounds_toArray, List.set_cons_zero, List.set_cons_succ, i64_w, i32_w]
                          rfl
                        refine pure_ (i := 3) (N := some 25) (v := ?_) (a' := ?_) #[true, true, true, true, false, false, false, false, false, false, false, false] rfl rfl (any_of HT_.out (by kernel_rfl)) (fun _ _ _ h => h) (Or.inl ⟨by rfl, ?_⟩) ?_ ?_
                        rotate_left
                        · intro w'
                          go_simp
                          with_reducible rfl
                        rotate_left
                        · simp only [Act.put, List.setIfInBounds_toArray, List.set_cons_zero, List.set_cons_succ, i64_w, i32_w]
                          rfl
                        refine pure_ (i := 4) (N := some 26) (v := ?_) (a' := ?_) #[true, true, true, true, true, false, false, false, false, false, false, false] rfl rfl (any_of HT_.out (by kernel_rfl)) (fun _ _ _ h => h) (Or.inl ⟨by rfl, ?_⟩) ?_ ?_
                        rotate_left
                        · intro w'
                          go_simp
                          with_reducible rfl
                        rotate_left
                        · simp only [Act.put, List.setIfInBounds_toArray, List.set_cons_zero, List.set_cons_succ, i64_w, i32_w]
                          rfl
                        refine pure_ (i := 5) (N := some 27) (v := ?_) (a' := ?_) #[true, true, true, true, true, true, false, false, false, false, false, false] rfl rfl (any_of HT_.out (by kernel_rfl)) (fun _ _ _ h => h) (Or.inl ⟨by rfl, ?_⟩) ?_ ?_
                        rotate_left
                        · intro w'
                          go_simp
                          with_reducible rfl
                        rotate_left
                        · simp only [Act.put, List.setIfInBounds_toArray, List.set_cons_zero, List.set_cons_succ, i64_w, i32_w]
                          rfl
                        refine pure_ (i := 6) (N := some 28) (v := ?_) (a' := ?_) #[true, true, true, true, true, true, true, false, false, false, false, false] rfl rfl (any_of HT_.out (by kernel_rfl)) (fun _ _ _ h => h) (Or.inl ⟨by rfl, ?_⟩) ?_ ?_
                        rotate_left
                        · intro w'
                          go_simp
                          with_reducible rfl
                        rotate_left
                        · simp only [Act.put, List.setIfInBounds_toArray, List.set_cons_zero, List.set_cons_succ, i64_w, i32_w]
                          rfl
                        refine take_ (i := 7) (N := some 29) (v := ?_) (a' := ?_) #[true, true, true, true, true, true, true, true, false, false, false, false] rfl rfl (take_ofW HT_.out HW_.out (by kernel_rfl)) (fun _ _ _ h => h) (Or.inl ⟨by rfl, ?_⟩) hHeld ?_ ?_
                        rotate_left
                        · rintro w' ⟨s0, s1, s2, s3, s4, s5, s6, s7, s8, s9, s10, s11, s12, s13, s14, s15, s16, s17⟩
                          go_simp
                          with_reducible rfl
                        rotate_left
                        · simp only [Act.put, List.setIfInBounds_toArray, List.set_cons_zero, List.set_cons_succ, i64_w, i32_w]
                          rfl
                        refine take_ (i := 8) (N := some 30) (v := ?_) (a' := ?_) #[true, true, true, true, true, true, true, true, true, false, false, false] rfl rfl (take_ofW HT_.out HW_.out (by kernel_rfl)) (fun _ _ _ h => h) (Or.inl ⟨by rfl, ?_⟩) hHeld ?_ ?_
                        rotate_left
                        · rintro w' ⟨s0, s1, s2, s3, s4, s5, s6, s7, s8, s9, s10, s11, s12, s13, s14, s15, s16, s17⟩
                          go_simp
                          with_reducible rfl
                        rotate_left
                        · simp only [Act.put, List.setIfInBounds_toArray, List.set_cons_zero, List.set_cons_succ, i64_w, i32_w]
                          rfl
                        refine one_ (i := 9) (N := some 31) #[true, true, true, true, true, true, true, true, true, true, false, false] rfl rfl (one_of HT_.out (by kernel_rfl)) (by decide) (fun K hK => ?_)
                        refine goes_ Tryz.func21 (by kernel_rfl) rfl #[.agg #[.int .i64 ((rd_T25 l0 (ji8)).f0.f0), .string ((rd_T25 l0 (ji8)).f0.f1), .string ((rd_T25 l0 (ji8)).f0.f2), .int .i64 ((rd_T25 l0 (ji8)).f1.f0), .string ((rd_T25 l0 (ji8)).f1.f1), .string ((rd_T25 l0 (ji8)).f1.f2), .int .i64 ((rd_T25 l0 (ji8)).f2.f0), .string ((rd_T25 l0 (ji8)).f2.f1), .string ((rd_T25 l0 (ji8)).f2.f2)], .agg #[.int .i64 ((rd_T25 l0 x12_1).f0.f0), .string ((rd_T25 l0 x12_1).f0.f1), .string ((rd_T25 l0 x12_1).f0.f2), .int .i64 ((rd_T25 l0 x12_1).f1.f0), .string ((rd_T25 l0 x12_1).f1.f1), .string ((rd_T25 l0 x12_1).f1.f2), .int .i64 ((rd_T25 l0 x12_1).f2.f0), .string ((rd_T25 l0 x12_1).f2.f1), .string ((rd_T25 l0 x12_1).f2.f2)]] (by rfl) rfl rfl (by (try simp only [List.map_toArray, List.map_cons, List.map_nil]); first | done | (simp only [hji8]; rfl) | rfl | (simp only [List.length_drop, List.length_take]; rfl)) ?_
                        with_reducible refine (triple_Compare.calls k1 ((rd_T25 l0 (ji8)).f0.f0) ((rd_T25 l0 (ji8)).f0.f1) ((rd_T25 l0 (ji8)).f0.f2) ((rd_T25 l0 (ji8)).f1.f0) ((rd_T25 l0 (ji8)).f1.f1) ((rd_T25 l0 (ji8)).f1.f2) ((rd_T25 l0 (ji8)).f2.f0) ((rd_T25 l0 (ji8)).f2.f1) ((rd_T25 l0 (ji8)).f2.f2) ((rd_T25 l0 x12_1).f0.f0) ((rd_T25 l0 x12_1).f0.f1) ((rd_T25 l0 x12_1).f0.f2) ((rd_T25 l0 x12_1).f1.f0) ((rd_T25 l0 x12_1).f1.f1) ((rd_T25 l0 x12_1).f1.f2) ((rd_T25 l0 x12_1).f2.f0) ((rd_T25 l0 x12_1).f2.f1) ((rd_T25 l0 x12_1).f2.f2) t145 _ A11.out).mono ?_
                        rintro e w17 ⟨rfl, hb⟩
                        refine ⟨_, rfl, ?_⟩
                        have n0_ := Aside0.mk (blk_below (g := gb141) (o := .cells #[.int .i64 ((rd_T25 l0 x12_1).f0.f0), .string ((rd_T25 l0 x12_1).f0.f1), .string ((rd_T25 l0 x12_1).f0.f2), .int .i64 ((rd_T25 l0 x12_1).f1.f0), .string ((rd_T25 l0 x12_1).f1.f1), .string ((rd_T25 l0 x12_1).f1.f2), .int .i64 ((rd_T25 l0 x12_1).f2.f0), .string ((rd_T25 l0 x12_1).f2.f1), .string ((rd_T25 l0 x12_1).f2.f2)] 25 (0, 0)) (by (with_reducible repeat (first | refine blk_drewN ?_ _ | refine blk_drew ?_ | refine blk_alloc ?_ _)); exact BK141.out) hb)
                        have n1_ := Aside0.mk (below_step (by repeat (first | (with_reducible first | exact HB.out | apply below_alloc | apply pw_below_drewN | apply below_drew1 | refine below_set ?_ GE141.out) | exact HB.out)) hb)
                        clear BK141
                        clear HB
                        have BK141 := n0_
                        have HB := n1_
                        clear n0_ n1_
                        (try clear hb)
                        (try clear hb2)
                        (try clear hk)
                        (try clear hi)
                        refine hK.out _ _ ⟨(blk_cell BK141.out 0).trans rfl, (blk_cell BK141.out 1).trans rfl, (blk_cell BK141.out 2).trans rfl, (blk_cell BK141.out 3).trans rfl, (blk_cell BK141.out 4).trans rfl, (blk_cell BK141.out 5).trans rfl, (blk_cell BK141.out 6).trans rfl, (blk_cell BK141.out 7).trans rfl, (blk_cell BK141.out 8).trans rfl, ((HB.out.cell (World.block_lt_of_cell? w _ hw144_0)).trans hw144_0), ((HB.out.cell (World.block_lt_of_cell? w _ hw144_1)).trans hw144_1), ((HB.out.cell (World.block_lt_of_cell? w _ hw144_2)).trans hw144_2), ((HB.out.cell (World.block_lt_of_cell? w _ hw144_3)).trans hw144_3), ((HB.out.cell (World.block_lt_of_cell? w _ hw144_4)).trans hw144_4), ((HB.out.cell (World.block_lt_of_cell? w _ hw144_5)).trans hw144_5), ((HB.out.cell (World.block_lt_of_cell? w _ hw144_6)).trans hw144_6), ((HB.out.cell (World.block_lt_of_cell? w _ hw144_7)).trans hw144_7), ((HB.out.cell (World.block_lt_of_cell? w _ hw144_8)).trans hw144_8)⟩ (fun hHeld => ?_)
                        clear hK K
                        refine norm_ (a' := ?_) ?_ ?_
                        rotate_left
                        · show Act.put _ (some 31) _ = _
                          simp only [Act.put, List.setIfInBounds_toArray, List.set_cons_zero, List.set_cons_succ, i64_w, i32_w]
                          rfl
                        refine pure_ (i := 10) (N := some 32) (v := ?_) (a' := ?_) #[true, true, true, true, true, true, true, true, true, true, true, false] rfl rfl (any_of HT_.out (by kernel_rfl)) (fun _ _ _ h => h) (Or.inl ⟨by rfl, ?_⟩) ?_ ?_
                        rotate_left
                        · intro w'
                          go_simp
                          with_reducible rfl
                        rotate_left
                        · simp only [Act.put, List.setIfInBounds_toArray, List.set_cons_zero, List.set_cons_succ, i64_w, i32_w]
                          rfl
                        refine pure_ (i := 11) (N := some 33) (v := ?_) (a' := ?_) #[true, true, true, true, true, true, true, true, true, true, true, true] rfl rfl (any_of HT_.out (by kernel_rfl)) (fun _ _ _ h => h) (Or.inl ⟨by rfl, ?_⟩) ?_ ?_
                        rotate_left
                        · intro w'
                          go_simp
                          with_reducible rfl
                        rotate_left
                        · simp only [Act.put, List.setIfInBounds_toArray, List.set_cons_zero, List.set_cons_succ, i64_w, i32_w]
                          rfl
                        refine done_ (done_of HT_.out (by kernel_rfl)) ?_
                        try go_wp2
                        go_ret
                        exact ⟨by first | rfl | (simp [errW_none, errW_some] <;> rfl) | (simp only [← hji8]; first | rfl | (simp [errW_none, errW_some] <;> rfl)) | (simp [*, errW_none, errW_some] <;> rfl), by repeat (first | (with_reducible first | exact HB.out | apply below_alloc | apply pw_below_drewN | apply below_drew1 | refine below_set ?_ GE141.out) | exact HB.out)⟩
                      · rw [if_neg c12] at H
                        have c12b0 : decide (0 ≤ t145) = false := decide_eq_false c12
                        clear c12
                        have H' := Aside0.mk H
                        clear H
                        have p140 : 0 ≤ (x12_1 : Int) := of_decide_eq_true (by first | (with_reducible assumption) | assumption)
                        have q140 : x12_1 < (l0.length : Int) := of_decide_eq_true (by first | (with_reducible assumption) | assumption)
                        obtain ⟨ad140, e140, hx140_0, hx140_1, hx140_2, hx140_3, hx140_4, hx140_5, hx140_6, hx140_7, hx140_8⟩ := at_T25 HR0.out x12_1 p140 q140
                        cases e140
                        replace hx140_0 := (HB.out.cell (World.block_lt_of_cell? w _ hx140_0)).trans hx140_0
                        replace hx140_1 := (HB.out.cell (World.block_lt_of_cell? w _ hx140_1)).trans hx140_1
                        replace hx140_2 := (HB.out.cell (World.block_lt_of_cell? w _ hx140_2)).trans hx140_2
                        replace hx140_3 := (HB.out.cell (World.block_lt_of_cell? w _ hx140_3)).trans hx140_3
                        replace hx140_4 := (HB.out.cell (World.block_lt_of_cell? w _ hx140_4)).trans hx140_4
                        replace hx140_5 := (HB.out.cell (World.block_lt_of_cell? w _ hx140_5)).trans hx140_5
                        replace hx140_6 := (HB.out.cell (World.block_lt_of_cell? w _ hx140_6)).trans hx140_6
                        replace hx140_7 := (HB.out.cell (World.block_lt_of_cell? w _ hx140_7)).trans hx140_7
                        replace hx140_8 := (HB.out.cell (World.block_lt_of_cell? w _ hx140_8)).trans hx140_8
                        replace p140 := eq_true p140
                        replace q140 := eq_true q140
                        try go_wp2_with (first | ((with_reducible refine gate_dst (N := 4) rfl ?_); refine box_event ?hg (N := 4) ?hd (cs := #[.int .i64 0, .string (⟨#[]⟩ : ByteArray), .string (⟨#[]⟩ : ByteArray), .int .i64 0, .string (⟨#[]⟩ : ByteArray), .string (⟨#[]⟩ : ByteArray), .int .i64 0, .string (⟨#[]⟩ : ByteArray), .string (⟨#[]⟩ : ByteArray)]) (t := 25) ?hr ?_; (case hd => rfl); (case hg => rfl); (case hr => first | (go_simp; done) | (go_simp; rfl)); intro gb141 hg w18 hbox hb; have n0_ := Aside0.mk (below_step (by repeat (first | (with_reducible first | exact HB.out | apply below_alloc | apply pw_below_drewN | apply below_drew1) | exact HB.out)) hb); have n1_ := Aside0.mk (hbox); have n2_ := Aside0.mk ((by rw [hg]; exact (below_size (by repeat (first | (with_reducible first | exact HB.out | apply below_alloc | apply pw_below_drewN | apply below_drew1) | exact HB.out))) : w.heap.size ≤ gb141)); have n3_ := Aside0.mk ((by rw [hg]; exact (below_size (by repeat (first | (with_reducible first | exact HB.out | apply below_alloc | apply pw_below_drewN | apply below_drew1) | exact HB.out))) : w.heap.size ≤ gb141)); clear HB; have HB := n0_; have BK141 := n1_; have GW141 := n2_; have GE141 := n3_; clear n0_ n1_ n2_ n3_; clear hb hbox hg; have hcz19_0 : w18.cell? ⟨gb141, 0, none⟩ = some (.int .i64 0) := (blk_cell BK141.out 0).trans rfl; have hcz19_1 : w18.cell? ⟨gb141, 1, none⟩ = some (.string (⟨#[]⟩ : ByteArray)) := (blk_cell BK141.out 1).trans rfl; have hcz19_2 : w18.cell? ⟨gb141, 2, none⟩ = some (.string (⟨#[]⟩ : ByteArray)) := (blk_cell BK141.out 2).trans rfl; have hcz19_3 : w18.cell? ⟨gb141, 3, none⟩ = some (.int .i64 0) := (blk_cell BK141.out 3).trans rfl; have hcz19_4 : w18.cell? ⟨gb141, 4, none⟩ = some (.string (⟨#[]⟩ : ByteArray)) := (blk_cell BK141.out 4).trans rfl; have hcz19_5 : w18.cell? ⟨gb141, 5, none⟩ = some (.string (⟨#[]⟩ : ByteArray)) := (blk_cell BK141.out 5).trans rfl; have hcz19_6 : w18.cell? ⟨gb141, 6, none⟩ = some (.int .i64 0) := (blk_cell BK141.out 6).trans rfl; have hcz19_7 : w18.cell? ⟨gb141, 7, none⟩ = some (.string (⟨#[]⟩ : ByteArray)) := (blk_cell BK141.out 7).trans rfl; have hcz19_8 : w18.cell? ⟨gb141, 8, none⟩ = some (.string (⟨#[]⟩ : ByteArray)) := (blk_cell BK141.out 8).trans rfl; have hfz19_0 := blk_frozen BK141.out 0; have hfz19_1 := blk_frozen BK141.out 1; have hfz19_2 := blk_frozen BK141.out 2; have hfz19_3 := blk_frozen BK141.out 3; have hfz19_4 := blk_frozen BK141.out 4; have hfz19_5 := blk_frozen BK141.out 5; have hfz19_6 := blk_frozen BK141.out 6; have hfz19_7 := blk_frozen BK141.out 7; have hfz19_8 := blk_frozen BK141.out 8) | ((with_reducible refine gate_callee (f := 11) rfl ?_); refine goesL_ (some 18) rfl rfl Tryz.func11 (by kernel_rfl) rfl #[.agg #[.int .i64 ((rd_T25 l0 x12_1).f0.f0), .string ((rd_T25 l0 x12_1).f0.f1), .string ((rd_T25 l0 x12_1).f0.f2), .int .i64 ((rd_T25 l0 x12_1).f1.f0), .string ((rd_T25 l0 x12_1).f1.f1), .string ((rd_T25 l0 x12_1).f1.f2), .int .i64 ((rd_T25 l0 x12_1).f2.f0), .string ((rd_T25 l0 x12_1).f2.f1), .string ((rd_T25 l0 x12_1).f2.f2)]] rfl (by (try simp only [List.map_toArray, List.map_cons, List.map_nil]); first | done | rfl | (simp only [List.length_drop, List.length_take]; rfl)) ?_; (with_reducible refine (triple_Check.calls k1 ((rd_T25 l0 x12_1).f0.f0) ((rd_T25 l0 x12_1).f0.f1) ((rd_T25 l0 x12_1).f0.f2) ((rd_T25 l0 x12_1).f1.f0) ((rd_T25 l0 x12_1).f1.f1) ((rd_T25 l0 x12_1).f1.f2) ((rd_T25 l0 x12_1).f2.f0) ((rd_T25 l0 x12_1).f2.f1) ((rd_T25 l0 x12_1).f2.f2) none _ A6.out).mono ?_); rintro e w20 ⟨rfl, hb⟩; refine ⟨_, rfl, ?_⟩; have n0_ := Aside0.mk (blk_below (g := gb141) (o := .cells #[.int .i64 ((rd_T25 l0 x12_1).f0.f0), .string ((rd_T25 l0 x12_1).f0.f1), .string ((rd_T25 l0 x12_1).f0.f2), .int .i64 ((rd_T25 l0 x12_1).f1.f0), .string ((rd_T25 l0 x12_1).f1.f1), .string ((rd_T25 l0 x12_1).f1.f2), .int .i64 ((rd_T25 l0 x12_1).f2.f0), .string ((rd_T25 l0 x12_1).f2.f1), .string ((rd_T25 l0 x12_1).f2.f2)] 25 (0, 0)) (by (with_reducible repeat (first | refine blk_drewN ?_ _ | refine blk_drew ?_ | refine blk_alloc ?_ _)); refine blk_put (cs := #[.int .i64 ((rd_T25 l0 x12_1).f0.f0), .string ((rd_T25 l0 x12_1).f0.f1), .string ((rd_T25 l0 x12_1).f0.f2), .int .i64 ((rd_T25 l0 x12_1).f1.f0), .string ((rd_T25 l0 x12_1).f1.f1), .string ((rd_T25 l0 x12_1).f1.f2), .int .i64 ((rd_T25 l0 x12_1).f2.f0), .string ((rd_T25 l0 x12_1).f2.f1), .string (⟨#[]⟩ : ByteArray)]) ?_ 8 _ rfl; (with_reducible repeat (first | refine blk_drewN ?_ _ | refine blk_drew ?_ | refine blk_alloc ?_ _)); refine blk_put (cs := #[.int .i64 ((rd_T25 l0 x12_1).f0.f0), .string ((rd_T25 l0 x12_1).f0.f1), .string ((rd_T25 l0 x12_1).f0.f2), .int .i64 ((rd_T25 l0 x12_1).f1.f0), .string ((rd_T25 l0 x12_1).f1.f1), .string ((rd_T25 l0 x12_1).f1.f2), .int .i64 ((rd_T25 l0 x12_1).f2.f0), .string (⟨#[]⟩ : ByteArray), .string (⟨#[]⟩ : ByteArray)]) ?_ 7 _ rfl; (with_reducible repeat (first | refine blk_drewN ?_ _ | refine blk_drew ?_ | refine blk_alloc ?_ _)); refine blk_put (cs := #[.int .i64 ((rd_T25 l0 x12_1).f0.f0), .string ((rd_T25 l0 x12_1).f0.f1), .string ((rd_T25 l0 x12_1).f0.f2), .int .i64 ((rd_T25 l0 x12_1).f1.f0), .string ((rd_T25 l0 x12_1).f1.f1), .string ((rd_T25 l0 x12_1).f1.f2), .int .i64 0, .string (⟨#[]⟩ : ByteArray), .string (⟨#[]⟩ : ByteArray)]) ?_ 6 _ rfl; (with_reducible repeat (first | refine blk_drewN ?_ _ | refine blk_drew ?_ | refine blk_alloc ?_ _)); refine blk_put (cs := #[.int .i64 ((rd_T25 l0 x12_1).f0.f0), .string ((rd_T25 l0 x12_1).f0.f1), .string ((rd_T25 l0 x12_1).f0.f2), .int .i64 ((rd_T25 l0 x12_1).f1.f0), .string ((rd_T25 l0 x12_1).f1.f1), .string (⟨#[]⟩ : ByteArray), .int .i64 0, .string (⟨#[]⟩ : ByteArray), .string (⟨#[]⟩ : ByteArray)]) ?_ 5 _ rfl; (with_reducible repeat (first | refine blk_drewN ?_ _ | refine blk_drew ?_ | refine blk_alloc ?_ _)); refine blk_put (cs := #[.int .i64 ((rd_T25 l0 x12_1).f0.f0), .string ((rd_T25 l0 x12_1).f0.f1), .string ((rd_T25 l0 x12_1).f0.f2), .int .i64 ((rd_T25 l0 x12_1).f1.f0), .string (⟨#[]⟩ : ByteArray), .string (⟨#[]⟩ : ByteArray), .int .i64 0, .string (⟨#[]⟩ : ByteArray), .string (⟨#[]⟩ : ByteArray)]) ?_ 4 _ rfl; (with_reducible repeat (first | refine blk_drewN ?_ _ | refine blk_drew ?_ | refine blk_alloc ?_ _)); refine blk_put (cs := #[.int .i64 ((rd_T25 l0 x12_1).f0.f0), .string ((rd_T25 l0 x12_1).f0.f1), .string ((rd_T25 l0 x12_1).f0.f2), .int .i64 0, .string (⟨#[]⟩ : ByteArray), .string (⟨#[]⟩ : ByteArray), .int .i64 0, .string (⟨#[]⟩ : ByteArray), .string (⟨#[]⟩ : ByteArray)]) ?_ 3 _ rfl; (with_reducible repeat (first | refine blk_drewN ?_ _ | refine blk_drew ?_ | refine blk_alloc ?_ _)); refine blk_put (cs := #[.int .i64 ((rd_T25 l0 x12_1).f0.f0), .string ((rd_T25 l0 x12_1).f0.f1), .string (⟨#[]⟩ : ByteArray), .int .i64 0, .string (⟨#[]⟩ : ByteArray), .string (⟨#[]⟩ : ByteArray), .int .i64 0, .string (⟨#[]⟩ : ByteArray), .string (⟨#[]⟩ : ByteArray)]) ?_ 2 _ rfl; (with_reducible repeat (first | refine blk_drewN ?_ _ | refine blk_drew ?_ | refine blk_alloc ?_ _)); refine blk_put (cs := #[.int .i64 ((rd_T25 l0 x12_1).f0.f0), .string (⟨#[]⟩ : ByteArray), .string (⟨#[]⟩ : ByteArray), .int .i64 0, .string (⟨#[]⟩ : ByteArray), .string (⟨#[]⟩ : ByteArray), .int .i64 0, .string (⟨#[]⟩ : ByteArray), .string (⟨#[]⟩ : ByteArray)]) ?_ 1 _ rfl; (with_reducible repeat (first | refine blk_drewN ?_ _ | refine blk_drew ?_ | refine blk_alloc ?_ _)); refine blk_put (cs := #[.int .i64 0, .string (⟨#[]⟩ : ByteArray), .string (⟨#[]⟩ : ByteArray), .int .i64 0, .string (⟨#[]⟩ : ByteArray), .string (⟨#[]⟩ : ByteArray), .int .i64 0, .string (⟨#[]⟩ : ByteArray), .string (⟨#[]⟩ : ByteArray)]) ?_ 0 _ rfl; (with_reducible repeat (first | refine blk_drewN ?_ _ | refine blk_drew ?_ | refine blk_alloc ?_ _)); exact BK141.out) hb); have n1_ := Aside0.mk (below_step (by repeat (first | (with_reducible first | exact HB.out | apply below_alloc | apply pw_below_drewN | apply below_drew1 | refine below_set ?_ GE141.out) | exact HB.out)) hb); clear BK141; clear HB; have BK141 := n0_; have HB := n1_; clear n0_ n1_; (try clear hb); (try clear hb2); (try clear hk); (try clear hi); (try simp only [errW_none, errW_some])))
                        have n0_ := Aside0.mk (blk_drew BK141.out)
                        have n1_ := Aside0.mk (below_drew1 HB.out)
                        clear BK141
                        clear HB
                        have BK141 := n0_
                        have HB := n1_
                        clear n0_ n1_
                        have p144 : 0 ≤ ((ji8) : Int) := of_decide_eq_true (by first | (with_reducible assumption) | assumption)
                        have q144 : (ji8) < (l0.length : Int) := of_decide_eq_true (by first | (with_reducible assumption) | assumption)
                        obtain ⟨ad144, e144, hx144_0, hx144_1, hx144_2, hx144_3, hx144_4, hx144_5, hx144_6, hx144_7, hx144_8⟩ := at_T25 HR0.out (ji8) p144 q144
                        have hw144_8 := hx144_8
                        have hw144_7 := hx144_7
                        have hw144_6 := hx144_6
                        have hw144_5 := hx144_5
                        have hw144_4 := hx144_4
                        have hw144_3 := hx144_3
                        have hw144_2 := hx144_2
                        have hw144_1 := hx144_1
                        have hw144_0 := hx144_0
                        obtain rfl : ad140 = ad144 := (by injection e144)
                        replace hx144_0 := (HB.out.cell (World.block_lt_of_cell? w _ hx144_0)).trans hx144_0
                        replace hx144_1 := (HB.out.cell (World.block_lt_of_cell? w _ hx144_1)).trans hx144_1
                        replace hx144_2 := (HB.out.cell (World.block_lt_of_cell? w _ hx144_2)).trans hx144_2
                        replace hx144_3 := (HB.out.cell (World.block_lt_of_cell? w _ hx144_3)).trans hx144_3
                        replace hx144_4 := (HB.out.cell (World.block_lt_of_cell? w _ hx144_4)).trans hx144_4
                        replace hx144_5 := (HB.out.cell (World.block_lt_of_cell? w _ hx144_5)).trans hx144_5
                        replace hx144_6 := (HB.out.cell (World.block_lt_of_cell? w _ hx144_6)).trans hx144_6
                        replace hx144_7 := (HB.out.cell (World.block_lt_of_cell? w _ hx144_7)).trans hx144_7
                        replace hx144_8 := (HB.out.cell (World.block_lt_of_cell? w _ hx144_8)).trans hx144_8
                        replace p144 := eq_true p144
                        replace q144 := eq_true q144
                        refine start_ (n := 12) (S := fun w' => w'.cell? ⟨gb141, 0, none⟩ = some (.int .i64 ((rd_T25 l0 x12_1).f0.f0)) ∧ w'.cell? ⟨gb141, 1, none⟩ = some (.string ((rd_T25 l0 x12_1).f0.f1)) ∧ w'.cell? ⟨gb141, 2, none⟩ = some (.string ((rd_T25 l0 x12_1).f0.f2)) ∧ w'.cell? ⟨gb141, 3, none⟩ = some (.int .i64 ((rd_T25 l0 x12_1).f1.f0)) ∧ w'.cell? ⟨gb141, 4, none⟩ = some (.string ((rd_T25 l0 x12_1).f1.f1)) ∧ w'.cell? ⟨gb141, 5, none⟩ = some (.string ((rd_T25 l0 x12_1).f1.f2)) ∧ w'.cell? ⟨gb141, 6, none⟩ = some (.int .i64 ((rd_T25 l0 x12_1).f2.f0)) ∧ w'.cell? ⟨gb141, 7, none⟩ = some (.string ((rd_T25 l0 x12_1).f2.f1)) ∧ w'.cell? ⟨gb141, 8, none⟩ = some (.string ((rd_T25 l0 x12_1).f2.f2)) ∧ w'.cell? (ad140.add (((ji8)).toNat * 9)) = some (.int .i64 ((rd_T25 l0 (ji8)).f0.f0)) ∧ w'.cell? ⟨(ad140.add (((ji8)).toNat * 9)).block, (ad140.add (((ji8)).toNat * 9)).off + 1, none⟩ = some (.string ((rd_T25 l0 (ji8)).f0.f1)) ∧ w'.cell? ⟨(ad140.add (((ji8)).toNat * 9)).block, (ad140.add (((ji8)).toNat * 9)).off + 2, none⟩ = some (.string ((rd_T25 l0 (ji8)).f0.f2)) ∧ w'.cell? ⟨(ad140.add (((ji8)).toNat * 9)).block, (ad140.add (((ji8)).toNat * 9)).off + 3, none⟩ = some (.int .i64 ((rd_T25 l0 (ji8)).f1.f0)) ∧ w'.cell? ⟨(ad140.add (((ji8)).toNat * 9)).block, (ad140.add (((ji8)).toNat * 9)).off + 4, none⟩ = some (.string ((rd_T25 l0 (ji8)).f1.f1)) ∧ w'.cell? ⟨(ad140.add (((ji8)).toNat * 9)).block, (ad140.add (((ji8)).toNat * 9)).off + 5, none⟩ = some (.string ((rd_T25 l0 (ji8)).f1.f2)) ∧ w'.cell? ⟨(ad140.add (((ji8)).toNat * 9)).block, (ad140.add (((ji8)).toNat * 9)).off + 6, none⟩ = some (.int .i64 ((rd_T25 l0 (ji8)).f2.f0)) ∧ w'.cell? ⟨(ad140.add (((ji8)).toNat * 9)).block, (ad140.add (((ji8)).toNat * 9)).off + 7, none⟩ = some (.string ((rd_T25 l0 (ji8)).f2.f1)) ∧ w'.cell? ⟨(ad140.add (((ji8)).toNat * 9)).block, (ad140.add (((ji8)).toNat * 9)).off + 8, none⟩ = some (.string ((rd_T25 l0 (ji8)).f2.f2))) (ds := []) #[false, false, false, false, false, false, false, false, false, false, false, false] (by kernel_rfl) rfl rfl ⟨(blk_cell BK141.out 0).trans rfl, (blk_cell BK141.out 1).trans rfl, (blk_cell BK141.out 2).trans rfl, (blk_cell BK141.out 3).trans rfl, (blk_cell BK141.out 4).trans rfl, (blk_cell BK141.out 5).trans rfl, (blk_cell BK141.out 6).trans rfl, (blk_cell BK141.out 7).trans rfl, (blk_cell BK141.out 8).trans rfl, ((HB.out.cell (World.block_lt_of_cell? w _ hw144_0)).trans hw144_0), ((HB.out.cell (World.block_lt_of_cell? w _ hw144_1)).trans hw144_1), ((HB.out.cell (World.block_lt_of_cell? w _ hw144_2)).trans hw144_2), ((HB.out.cell (World.block_lt_of_cell? w _ hw144_3)).trans hw144_3), ((HB.out.cell (World.block_lt_of_cell? w _ hw144_4)).trans hw144_4), ((HB.out.cell (World.block_lt_of_cell? w _ hw144_5)).trans hw144_5), ((HB.out.cell (World.block_lt_of_cell? w _ hw144_6)).trans hw144_6), ((HB.out.cell (World.block_lt_of_cell? w _ hw144_7)).trans hw144_7), ((HB.out.cell (World.block_lt_of_cell? w _ hw144_8)).trans hw144_8)⟩ (fun hHeld => ?_); refine with_tabW triple_Sorted.tab9 triple_Sorted.bits9 (fun HT_ HW_ => ?_)
                        generalize w20.drew = w21 at BK141 HB hx144_0 hx144_1 hx144_2 hx144_3 hx144_4 hx144_5 hx144_6 hx144_7 hx144_8 hHeld ⊢
                        refine pure_ (i := 0) (N := some 22) (v := ?_) (a' := ?_) #[true, false, false, false, false, false, false, false, false, false, false, false] rfl rfl (any_of HT_.out (by kernel_rfl)) (fun _ _ _ h => h) (Or.inl ⟨by rfl, ?_⟩) ?_ ?_
                        rotate_left
                        · intro w'
                          go_simp
                          with_reducible rfl
                        rotate_left
                        · simp only [Act.put, List.setIfInBounds_toArray, List.set_cons_zero, List.set_cons_succ, i64_w, i32_w]
                          rfl
                        refine pure_ (i := 1) (N := some 23) (v := ?_) (a' := ?_) #[true, true, false, false, false, false, false, false, false, false, false, false] rfl rfl (any_of HT_.out (by kernel_rfl)) (fun _ _ _ h => h) (Or.inl ⟨by rfl, ?_⟩) ?_ ?_
                        rotate_left
                        · intro w'
                          go_simp
                          with_reducible rfl
                        rotate_left
                        · simp only [Act.put, List.setIfInBounds_toArray, List.set_cons_zero, List.set_cons_succ, i64_w, i32_w]
                          rfl
                        refine pure_ (i := 2) (N := some 24) (v := ?_) (a' := ?_) #[true, true, true, false, false, false, false, false, false, false, false, false] rfl rfl (any_of HT_.out (by kernel_rfl)) (fun _ _ _ h => h) (Or.inl ⟨by rfl, ?_⟩) ?_ ?_
                        rotate_left
                        · intro w'
                          go_simp
                          with_reducible rfl
                        rotate_left
                        · simp only [Act.put, List.setIfInBounds_toArray, List.set_cons_zero, List.set_cons_succ, i64_w, i32_w]
                          rfl
                        refine pure_ (i := 3) (N := some 25) (v := ?_) (a' := ?_) #[true, true, true, true, false, false, false, false, false, false, false, false] rfl rfl (any_of HT_.out (by kernel_rfl)) (fun _ _ _ h => h) (Or.inl ⟨by rfl, ?_⟩) ?_ ?_
                        rotate_left
                        · intro w'
                          go_simp
                          with_reducible rfl
                        rotate_left
                        · simp only [Act.put, List.setIfInBounds_toArray, List.set_cons_zero, List.set_cons_succ, i64_w, i32_w]
                          rfl
                        refine pure_ (i := 4) (N := some 26) (v := ?_) (a' := ?_) #[true, true, true, true, true, false, false, false, false, false, false, false] rfl rfl (any_of HT_.out (by kernel_rfl)) (fun _ _ _ h => h) (Or.inl ⟨by rfl, ?_⟩) ?_ ?_
                        rotate_left
                        · intro w'
                          go_simp
                          with_reducible rfl
                        rotate_left
                        · simp only [Act.put, List.setIfInBounds_toArray, List.set_cons_zero, List.set_cons_succ, i64_w, i32_w]
                          rfl
                        refine pure_ (i := 5) (N := some 27) (v := ?_) (a' := ?_) #[true, true, true, true, true, true, false, false, false, false, false, false] rfl rfl (any_of HT_.out (by kernel_rfl)) (fun _ _ _ h => h) (Or.inl ⟨by rfl, ?_⟩) ?_ ?_
                        rotate_left
                        · intro w'
                          go_simp
                          with_reducible rfl
                        rotate_left
                        · simp only [Act.put, List.setIfInBounds_toArray, List.set_cons_zero, List.set_cons_succ, i64_w, i32_w]
                          rfl
                        refine pure_ (i := 6) (N := some 28) (v := ?_) (a' := ?_) #[true, true, true, true, true, true, true, false, false, false, false, false] rfl rfl (any_of HT_.out (by kernel_rfl)) (fun _ _ _ h => h) (Or.inl ⟨by rfl, ?_⟩) ?_ ?_
                        rotate_left
                        · intro w'
                          go_simp
                          with_reducible rfl
                        rotate_left
                        · simp only [Act.put, List.setIfInBounds_toArray, List.set_cons_zero, List.set_cons_succ, i64_w, i32_w]
                          rfl
                        refine take_ (i := 7) (N := some 29) (v := ?_) (a' := ?_) #[true, true, true, true, true, true, true, true, false, false, false, false] rfl rfl (take_ofW HT_.out HW_.out (by kernel_rfl)) (fun _ _ _ h => h) (Or.inl ⟨by rfl, ?_⟩) hHeld ?_ ?_
                        rotate_left
                        · rintro w' ⟨s0, s1, s2, s3, s4, s5, s6, s7, s8, s9, s10, s11, s12, s13, s14, s15, s16, s17⟩
                          go_simp
                          with_reducible rfl
                        rotate_left
                        · simp only [Act.put, List.setIfInBounds_toArray, List.set_cons_zero, List.set_cons_succ, i64_w, i32_w]
                          rfl
                        refine take_ (i := 8) (N := some 30) (v := ?_) (a' := ?_) #[true, true, true, true, true, true, true, true, true, false, false, false] rfl rfl (take_ofW HT_.out HW_.out (by kernel_rfl)) (fun _ _ _ h => h) (Or.inl ⟨by rfl, ?_⟩) hHeld ?_ ?_
                        rotate_left
                        · rintro w' ⟨s0, s1, s2, s3, s4, s5, s6, s7, s8, s9, s10, s11, s12, s13, s14, s15, s16, s17⟩
                          go_simp
                          with_reducible rfl
                        rotate_left
                        · simp only [Act.put, List.setIfInBounds_toArray, List.set_cons_zero, List.set_cons_succ, i64_w, i32_w]
                          rfl
                        refine one_ (i := 9) (N := some 31) #[true, true, true, true, true, true, true, true, true, true, false, false] rfl rfl (one_of HT_.out (by kernel_rfl)) (by decide) (fun K hK => ?_)
                        refine goes_ Tryz.func21 (by kernel_rfl) rfl #[.agg #[.int .i64 ((rd_T25 l0 (ji8)).f0.f0), .string ((rd_T25 l0 (ji8)).f0.f1), .string ((rd_T25 l0 (ji8)).f0.f2), .int .i64 ((rd_T25 l0 (ji8)).f1.f0), .string ((rd_T25 l0 (ji8)).f1.f1), .string ((rd_T25 l0 (ji8)).f1.f2), .int .i64 ((rd_T25 l0 (ji8)).f2.f0), .string ((rd_T25 l0 (ji8)).f2.f1), .string ((rd_T25 l0 (ji8)).f2.f2)], .agg #[.int .i64 ((rd_T25 l0 x12_1).f0.f0), .string ((rd_T25 l0 x12_1).f0.f1), .string ((rd_T25 l0 x12_1).f0.f2), .int .i64 ((rd_T25 l0 x12_1).f1.f0), .string ((rd_T25 l0 x12_1).f1.f1), .string ((rd_T25 l0 x12_1).f1.f2), .int .i64 ((rd_T25 l0 x12_1).f2.f0), .string ((rd_T25 l0 x12_1).f2.f1), .string ((rd_T25 l0 x12_1).f2.f2)]] (by rfl) rfl rfl (by (try simp only [List.map_toArray, List.map_cons, List.map_nil]); first | done | (simp only [hji8]; rfl) | rfl | (simp only [List.length_drop, List.length_take]; rfl)) ?_
                        with_reducible refine (triple_Compare.calls k1 ((rd_T25 l0 (ji8)).f0.f0) ((rd_T25 l0 (ji8)).f0.f1) ((rd_T25 l0 (ji8)).f0.f2) ((rd_T25 l0 (ji8)).f1.f0) ((rd_T25 l0 (ji8)).f1.f1) ((rd_T25 l0 (ji8)).f1.f2) ((rd_T25 l0 (ji8)).f2.f0) ((rd_T25 l0 (ji8)).f2.f1) ((rd_T25 l0 (ji8)).f2.f2) ((rd_T25 l0 x12_1).f0.f0) ((rd_T25 l0 x12_1).f0.f1) ((rd_T25 l0 x12_1).f0.f2) ((rd_T25 l0 x12_1).f1.f0) ((rd_T25 l0 x12_1).f1.f1) ((rd_T25 l0 x12_1).f1.f2) ((rd_T25 l0 x12_1).f2.f0) ((rd_T25 l0 x12_1).f2.f1) ((rd_T25 l0 x12_1).f2.f2) t145 _ A11.out).mono ?_
                        rintro e w22 ⟨rfl, hb⟩
                        refine ⟨_, rfl, ?_⟩
                        have n0_ := Aside0.mk (blk_below (g := gb141) (o := .cells #[.int .i64 ((rd_T25 l0 x12_1).f0.f0), .string ((rd_T25 l0 x12_1).f0.f1), .string ((rd_T25 l0 x12_1).f0.f2), .int .i64 ((rd_T25 l0 x12_1).f1.f0), .string ((rd_T25 l0 x12_1).f1.f1), .string ((rd_T25 l0 x12_1).f1.f2), .int .i64 ((rd_T25 l0 x12_1).f2.f0), .string ((rd_T25 l0 x12_1).f2.f1), .string ((rd_T25 l0 x12_1).f2.f2)] 25 (0, 0)) (by (with_reducible repeat (first | refine blk_drewN ?_ _ | refine blk_drew ?_ | refine blk_alloc ?_ _)); exact BK141.out) hb)
                        have n1_ := Aside0.mk (below_step (by repeat (first | (with_reducible first | exact HB.out | apply below_alloc | apply pw_below_drewN | apply below_drew1 | refine below_set ?_ GE141.out) | exact HB.out)) hb)
                        clear BK141
                        clear HB
                        have BK141 := n0_
                        have HB := n1_
                        clear n0_ n1_
                        (try clear hb)
                        (try clear hb2)
                        (try clear hk)
                        (try clear hi)
                        refine hK.out _ _ ⟨(blk_cell BK141.out 0).trans rfl, (blk_cell BK141.out 1).trans rfl, (blk_cell BK141.out 2).trans rfl, (blk_cell BK141.out 3).trans rfl, (blk_cell BK141.out 4).trans rfl, (blk_cell BK141.out 5).trans rfl, (blk_cell BK141.out 6).trans rfl, (blk_cell BK141.out 7).trans rfl, (blk_cell BK141.out 8).trans rfl, ((HB.out.cell (World.block_lt_of_cell? w _ hw144_0)).trans hw144_0), ((HB.out.cell (World.block_lt_of_cell? w _ hw144_1)).trans hw144_1), ((HB.out.cell (World.block_lt_of_cell? w _ hw144_2)).trans hw144_2), ((HB.out.cell (World.block_lt_of_cell? w _ hw144_3)).trans hw144_3), ((HB.out.cell (World.block_lt_of_cell? w _ hw144_4)).trans hw144_4), ((HB.out.cell (World.block_lt_of_cell? w _ hw144_5)).trans hw144_5), ((HB.out.cell (World.block_lt_of_cell? w _ hw144_6)).trans hw144_6), ((HB.out.cell (World.block_lt_of_cell? w _ hw144_7)).trans hw144_7), ((HB.out.cell (World.block_lt_of_cell? w _ hw144_8)).trans hw144_8)⟩ (fun hHeld => ?_)
                        clear hK K
                        refine norm_ (a' := ?_) ?_ ?_
                        rotate_left
                        · show Act.put _ (some 31) _ = _
                          simp only [Act.put, List.setIfInBounds_toArray, List.set_cons_zero, List.set_cons_succ, i64_w, i32_w]
                          rfl
                        refine pure_ (i := 10) (N := some 32) (v := ?_) (a' := ?_) #[true, true, true, true, true, true, true, true, true, true, true, false] rfl rfl (any_of HT_.out (by kernel_rfl)) (fun _ _ _ h => h) (Or.inl ⟨by rfl, ?_⟩) ?_ ?_
                        rotate_left
                        · intro w'
                          go_simp
                          with_reducible rfl
                        rotate_left
                        · simp only [Act.put, List.setIfInBounds_toArray, List.set_cons_zero, List.set_cons_succ, i64_w, i32_w]
                          rfl
                        refine pure_ (i := 11) (N := some 33) (v := ?_) (a' := ?_) #[true, true, true, true, true, true, true, true, true, true, true, true] rfl rfl (any_of HT_.out (by kernel_rfl)) (fun _ _ _ h => h) (Or.inl ⟨by rfl, ?_⟩) ?_ ?_
                        rotate_left
                        · intro w'
                          go_simp
                          with_reducible rfl
                        rotate_left
                        · simp only [Act.put, List.setIfInBounds_toArray, List.set_cons_zero, List.set_cons_succ, i64_w, i32_w]
                          rfl
                        refine done_ (done_of HT_.out (by kernel_rfl)) ?_
                        try go_wp2
                        go_roundg k1
                        case measure => have := HK1.out; omega
                        case rel => exact ⟨(wrap64 (x12_1 + 1)), (by first | rfl | (simp; done) | (simp [*]; done)), H', ⟨by have := HK1.out; omega⟩, ⟨by repeat (first | (with_reducible first | exact HB.out | apply below_alloc | apply pw_below_drewN | apply below_drew1 | refine below_set ?_ GE141.out) | exact HB.out)⟩⟩
                    · rw [if_neg c10] at H
                      exact absurd H (by simp)
                  · rw [if_neg c9] at H
                    exact absurd H (by simp)
                · rw [if_neg c7] at H
                  have c7b0 : decide (0 < x12_1) = false := decide_eq_false c7
                  clear c7
                  have H' := Aside0.mk H
                  clear H
                  have p140 : 0 ≤ (x12_1 : Int) := of_decide_eq_true (by first | (with_reducible assumption) | assumption)
                  have q140 : x12_1 < (l0.length : Int) := of_decide_eq_true (by first | (with_reducible assumption) | assumption)
                  obtain ⟨ad140, e140, hx140_0, hx140_1, hx140_2, hx140_3, hx140_4, hx140_5, hx140_6, hx140_7, hx140_8⟩ := at_T25 HR0.out x12_1 p140 q140
                  cases e140
                  replace hx140_0 := (HB.out.cell (World.block_lt_of_cell? w _ hx140_0)).trans hx140_0
                  replace hx140_1 := (HB.out.cell (World.block_lt_of_cell? w _ hx140_1)).trans hx140_1
                  replace hx140_2 := (HB.out.cell (World.block_lt_of_cell? w _ hx140_2)).trans hx140_2
                  replace hx140_3 := (HB.out.cell (World.block_lt_of_cell? w _ hx140_3)).trans hx140_3
                  replace hx140_4 := (HB.out.cell (World.block_lt_of_cell? w _ hx140_4)).trans hx140_4
                  replace hx140_5 := (HB.out.cell (World.block_lt_of_cell? w _ hx140_5)).trans hx140_5
                  replace hx140_6 := (HB.out.cell (World.block_lt_of_cell? w _ hx140_6)).trans hx140_6
                  replace hx140_7 := (HB.out.cell (World.block_lt_of_cell? w _ hx140_7)).trans hx140_7
                  replace hx140_8 := (HB.out.cell (World.block_lt_of_cell? w _ hx140_8)).trans hx140_8
                  replace p140 := eq_true p140
                  replace q140 := eq_true q140
                  try go_wp2_with (first | ((with_reducible refine gate_dst (N := 4) rfl ?_); refine box_event ?hg (N := 4) ?hd (cs := #[.int .i64 0, .string (⟨#[]⟩ : ByteArray), .string (⟨#[]⟩ : ByteArray), .int .i64 0, .string (⟨#[]⟩ : ByteArray), .string (⟨#[]⟩ : ByteArray), .int .i64 0, .string (⟨#[]⟩ : ByteArray), .string (⟨#[]⟩ : ByteArray)]) (t := 25) ?hr ?_; (case hd => rfl); (case hg => rfl); (case hr => first | (go_simp; done) | (go_simp; rfl)); intro gb141 hg w23 hbox hb; have n0_ := Aside0.mk (below_step (by repeat (first | (with_reducible first | exact HB.out | apply below_alloc | apply pw_below_drewN | apply below_drew1) | exact HB.out)) hb); have n1_ := Aside0.mk (hbox); have n2_ := Aside0.mk ((by rw [hg]; exact (below_size (by repeat (first | (with_reducible first | exact HB.out | apply below_alloc | apply pw_below_drewN | apply below_drew1) | exact HB.out))) : w.heap.size ≤ gb141)); have n3_ := Aside0.mk ((by rw [hg]; exact (below_size (by repeat (first | (with_reducible first | exact HB.out | apply below_alloc | apply pw_below_drewN | apply below_drew1) | exact HB.out))) : w.heap.size ≤ gb141)); clear HB; have HB := n0_; have BK141 := n1_; have GW141 := n2_; have GE141 := n3_; clear n0_ n1_ n2_ n3_; clear hb hbox hg; have hcz24_0 : w23.cell? ⟨gb141, 0, none⟩ = some (.int .i64 0) := (blk_cell BK141.out 0).trans rfl; have hcz24_1 : w23.cell? ⟨gb141, 1, none⟩ = some (.string (⟨#[]⟩ : ByteArray)) := (blk_cell BK141.out 1).trans rfl; have hcz24_2 : w23.cell? ⟨gb141, 2, none⟩ = some (.string (⟨#[]⟩ : ByteArray)) := (blk_cell BK141.out 2).trans rfl; have hcz24_3 : w23.cell? ⟨gb141, 3, none⟩ = some (.int .i64 0) := (blk_cell BK141.out 3).trans rfl; have hcz24_4 : w23.cell? ⟨gb141, 4, none⟩ = some (.string (⟨#[]⟩ : ByteArray)) := (blk_cell BK141.out 4).trans rfl; have hcz24_5 : w23.cell? ⟨gb141, 5, none⟩ = some (.string (⟨#[]⟩ : ByteArray)) := (blk_cell BK141.out 5).trans rfl; have hcz24_6 : w23.cell? ⟨gb141, 6, none⟩ = some (.int .i64 0) := (blk_cell BK141.out 6).trans rfl; have hcz24_7 : w23.cell? ⟨gb141, 7, none⟩ = some (.string (⟨#[]⟩ : ByteArray)) := (blk_cell BK141.out 7).trans rfl; have hcz24_8 : w23.cell? ⟨gb141, 8, none⟩ = some (.string (⟨#[]⟩ : ByteArray)) := (blk_cell BK141.out 8).trans rfl; have hfz24_0 := blk_frozen BK141.out 0; have hfz24_1 := blk_frozen BK141.out 1; have hfz24_2 := blk_frozen BK141.out 2; have hfz24_3 := blk_frozen BK141.out 3; have hfz24_4 := blk_frozen BK141.out 4; have hfz24_5 := blk_frozen BK141.out 5; have hfz24_6 := blk_frozen BK141.out 6; have hfz24_7 := blk_frozen BK141.out 7; have hfz24_8 := blk_frozen BK141.out 8) | ((with_reducible refine gate_callee (f := 11) rfl ?_); refine goesL_ (some 18) rfl rfl Tryz.func11 (by kernel_rfl) rfl #[.agg #[.int .i64 ((rd_T25 l0 x12_1).f0.f0), .string ((rd_T25 l0 x12_1).f0.f1), .string ((rd_T25 l0 x12_1).f0.f2), .int .i64 ((rd_T25 l0 x12_1).f1.f0), .string ((rd_T25 l0 x12_1).f1.f1), .string ((rd_T25 l0 x12_1).f1.f2), .int .i64 ((rd_T25 l0 x12_1).f2.f0), .string ((rd_T25 l0 x12_1).f2.f1), .string ((rd_T25 l0 x12_1).f2.f2)]] rfl (by (try simp only [List.map_toArray, List.map_cons, List.map_nil]); first | done | rfl | (simp only [List.length_drop, List.length_take]; rfl)) ?_; (with_reducible refine (triple_Check.calls k1 ((rd_T25 l0 x12_1).f0.f0) ((rd_T25 l0 x12_1).f0.f1) ((rd_T25 l0 x12_1).f0.f2) ((rd_T25 l0 x12_1).f1.f0) ((rd_T25 l0 x12_1).f1.f1) ((rd_T25 l0 x12_1).f1.f2) ((rd_T25 l0 x12_1).f2.f0) ((rd_T25 l0 x12_1).f2.f1) ((rd_T25 l0 x12_1).f2.f2) none _ A6.out).mono ?_); rintro e w25 ⟨rfl, hb⟩; refine ⟨_, rfl, ?_⟩; have n0_ := Aside0.mk (blk_below (g := gb141) (o := .cells #[.int .i64 ((rd_T25 l0 x12_1).f0.f0), .string ((rd_T25 l0 x12_1).f0.f1), .string ((rd_T25 l0 x12_1).f0.f2), .int .i64 ((rd_T25 l0 x12_1).f1.f0), .string ((rd_T25 l0 x12_1).f1.f1), .string ((rd_T25 l0 x12_1).f1.f2), .int .i64 ((rd_T25 l0 x12_1).f2.f0), .string ((rd_T25 l0 x12_1).f2.f1), .string ((rd_T25 l0 x12_1).f2.f2)] 25 (0, 0)) (by (with_reducible repeat (first | refine blk_drewN ?_ _ | refine blk_drew ?_ | refine blk_alloc ?_ _)); refine blk_put (cs := #[.int .i64 ((rd_T25 l0 x12_1).f0.f0), .string ((rd_T25 l0 x12_1).f0.f1), .string ((rd_T25 l0 x12_1).f0.f2), .int .i64 ((rd_T25 l0 x12_1).f1.f0), .string ((rd_T25 l0 x12_1).f1.f1), .string ((rd_T25 l0 x12_1).f1.f2), .int .i64 ((rd_T25 l0 x12_1).f2.f0), .string ((rd_T25 l0 x12_1).f2.f1), .string (⟨#[]⟩ : ByteArray)]) ?_ 8 _ rfl; (with_reducible repeat (first | refine blk_drewN ?_ _ | refine blk_drew ?_ | refine blk_alloc ?_ _)); refine blk_put (cs := #[.int .i64 ((rd_T25 l0 x12_1).f0.f0), .string ((rd_T25 l0 x12_1).f0.f1), .string ((rd_T25 l0 x12_1).f0.f2), .int .i64 ((rd_T25 l0 x12_1).f1.f0), .string ((rd_T25 l0 x12_1).f1.f1), .string ((rd_T25 l0 x12_1).f1.f2), .int .i64 ((rd_T25 l0 x12_1).f2.f0), .string (⟨#[]⟩ : ByteArray), .string (⟨#[]⟩ : ByteArray)]) ?_ 7 _ rfl; (with_reducible repeat (first | refine blk_drewN ?_ _ | refine blk_drew ?_ | refine blk_alloc ?_ _)); refine blk_put (cs := #[.int .i64 ((rd_T25 l0 x12_1).f0.f0), .string ((rd_T25 l0 x12_1).f0.f1), .string ((rd_T25 l0 x12_1).f0.f2), .int .i64 ((rd_T25 l0 x12_1).f1.f0), .string ((rd_T25 l0 x12_1).f1.f1), .string ((rd_T25 l0 x12_1).f1.f2), .int .i64 0, .string (⟨#[]⟩ : ByteArray), .string (⟨#[]⟩ : ByteArray)]) ?_ 6 _ rfl; (with_reducible repeat (first | refine blk_drewN ?_ _ | refine blk_drew ?_ | refine blk_alloc ?_ _)); refine blk_put (cs := #[.int .i64 ((rd_T25 l0 x12_1).f0.f0), .string ((rd_T25 l0 x12_1).f0.f1), .string ((rd_T25 l0 x12_1).f0.f2), .int .i64 ((rd_T25 l0 x12_1).f1.f0), .string ((rd_T25 l0 x12_1).f1.f1), .string (⟨#[]⟩ : ByteArray), .int .i64 0, .string (⟨#[]⟩ : ByteArray), .string (⟨#[]⟩ : ByteArray)]) ?_ 5 _ rfl; (with_reducible repeat (first | refine blk_drewN ?_ _ | refine blk_drew ?_ | refine blk_alloc ?_ _)); refine blk_put (cs := #[.int .i64 ((rd_T25 l0 x12_1).f0.f0), .string ((rd_T25 l0 x12_1).f0.f1), .string ((rd_T25 l0 x12_1).f0.f2), .int .i64 ((rd_T25 l0 x12_1).f1.f0), .string (⟨#[]⟩ : ByteArray), .string (⟨#[]⟩ : ByteArray), .int .i64 0, .string (⟨#[]⟩ : ByteArray), .string (⟨#[]⟩ : ByteArray)]) ?_ 4 _ rfl; (with_reducible repeat (first | refine blk_drewN ?_ _ | refine blk_drew ?_ | refine blk_alloc ?_ _)); refine blk_put (cs := #[.int .i64 ((rd_T25 l0 x12_1).f0.f0), .string ((rd_T25 l0 x12_1).f0.f1), .string ((rd_T25 l0 x12_1).f0.f2), .int .i64 0, .string (⟨#[]⟩ : ByteArray), .string (⟨#[]⟩ : ByteArray), .int .i64 0, .string (⟨#[]⟩ : ByteArray), .string (⟨#[]⟩ : ByteArray)]) ?_ 3 _ rfl; (with_reducible repeat (first | refine blk_drewN ?_ _ | refine blk_drew ?_ | refine blk_alloc ?_ _)); refine blk_put (cs := #[.int .i64 ((rd_T25 l0 x12_1).f0.f0), .string ((rd_T25 l0 x12_1).f0.f1), .string (⟨#[]⟩ : ByteArray), .int .i64 0, .string (⟨#[]⟩ : ByteArray), .string (⟨#[]⟩ : ByteArray), .int .i64 0, .string (⟨#[]⟩ : ByteArray), .string (⟨#[]⟩ : ByteArray)]) ?_ 2 _ rfl; (with_reducible repeat (first | refine blk_drewN ?_ _ | refine blk_drew ?_ | refine blk_alloc ?_ _)); refine blk_put (cs := #[.int .i64 ((rd_T25 l0 x12_1).f0.f0), .string (⟨#[]⟩ : ByteArray), .string (⟨#[]⟩ : ByteArray), .int .i64 0, .string (⟨#[]⟩ : ByteArray), .string (⟨#[]⟩ : ByteArray), .int .i64 0, .string (⟨#[]⟩ : ByteArray), .string (⟨#[]⟩ : ByteArray)]) ?_ 1 _ rfl; (with_reducible repeat (first | refine blk_drewN ?_ _ | refine blk_drew ?_ | refine blk_alloc ?_ _)); refine blk_put (cs := #[.int .i64 0, .string (⟨#[]⟩ : ByteArray), .string (⟨#[]⟩ : ByteArray), .int .i64 0, .string (⟨#[]⟩ : ByteArray), .string (⟨#[]⟩ : ByteArray), .int .i64 0, .string (⟨#[]⟩ : ByteArray), .string (⟨#[]⟩ : ByteArray)]) ?_ 0 _ rfl; (with_reducible repeat (first | refine blk_drewN ?_ _ | refine blk_drew ?_ | refine blk_alloc ?_ _)); exact BK141.out) hb); have n1_ := Aside0.mk (below_step (by repeat (first | (with_reducible first | exact HB.out | apply below_alloc | apply pw_below_drewN | apply below_drew1 | refine below_set ?_ GE141.out) | exact HB.out)) hb); clear BK141; clear HB; have BK141 := n0_; have HB := n1_; clear n0_ n1_; (try clear hb); (try clear hb2); (try clear hk); (try clear hi); (try simp only [errW_none, errW_some])))
                  have n0_ := Aside0.mk (blk_drew BK141.out)
                  have n1_ := Aside0.mk (below_drew1 HB.out)
                  clear BK141
                  clear HB
                  have BK141 := n0_
                  have HB := n1_
                  clear n0_ n1_
                  refine start_ (n := 12) (S := fun w' => True) (ds := []) #[false, false, false, false, false, false, false, false, false, false, false, false] (by kernel_rfl) rfl rfl trivial (fun hHeld => ?_); refine with_tabW triple_Sorted.tab9 triple_Sorted.bits9 (fun HT_ HW_ => ?_)
                  generalize w25.drew = w26 at BK141 HB hHeld ⊢
                  refine pure_ (i := 0) (N := some 22) (v := ?_) (a' := ?_) #[true, false, false, false, false, false, false, false, false, false, false, false] rfl rfl (any_of HT_.out (by kernel_rfl)) (fun _ _ _ h => h) (Or.inl ⟨by rfl, ?_⟩) ?_ ?_
                  rotate_left
                  · intro w'
                    go_simp
                    with_reducible rfl
                  rotate_left
                  · simp only [Act.put, List.setIfInBounds_toArray, List.set_cons_zero, List.set_cons_succ, i64_w, i32_w]
                    rfl
                  refine pure_ (i := 1) (N := some 23) (v := ?_) (a' := ?_) #[true, true, false, false, false, false, false, false, false, false, false, false] rfl rfl (any_of HT_.out (by kernel_rfl)) (fun _ _ _ h => h) (Or.inl ⟨by rfl, ?_⟩) ?_ ?_
                  rotate_left
                  · intro w'
                    go_simp
                    with_reducible rfl
                  rotate_left
                  · simp only [Act.put, List.setIfInBounds_toArray, List.set_cons_zero, List.set_cons_succ, i64_w, i32_w]
                    rfl
                  refine pure_ (i := 2) (N := some 24) (v := ?_) (a' := ?_) #[true, true, true, false, false, false, false, false, false, false, false, false] rfl rfl (any_of HT_.out (by kernel_rfl)) (fun _ _ _ h => h) (Or.inl ⟨by rfl, ?_⟩) ?_ ?_
                  rotate_left
                  · intro w'
                    go_simp
                    with_reducible rfl
                  rotate_left
                  · simp only [Act.put, List.setIfInBounds_toArray, List.set_cons_zero, List.set_cons_succ, i64_w, i32_w]
                    rfl
                  refine pure_ (i := 3) (N := some 25) (v := undef) (a' := ?_) #[true, true, true, true, false, false, false, false, false, false, false, false] rfl rfl (any_of HT_.out (by kernel_rfl)) (fun _ _ _ h => h) (Or.inr ⟨by rfl, rfl⟩) ?_ ?_
                  rotate_left
                  · simp only [Act.put, List.setIfInBounds_toArray, List.set_cons_zero, List.set_cons_succ, i64_w, i32_w]
                    rfl
                  refine pure_ (i := 4) (N := some 26) (v := undef) (a' := ?_) #[true, true, true, true, true, false, false, false, false, false, false, false] rfl rfl (any_of HT_.out (by kernel_rfl)) (fun _ _ _ h => h) (Or.inr ⟨by rfl, rfl⟩) ?_ ?_
                  rotate_left
                  · simp only [Act.put, List.setIfInBounds_toArray, List.set_cons_zero, List.set_cons_succ, i64_w, i32_w]
                    rfl
                  refine pure_ (i := 5) (N := some 27) (v := undef) (a' := ?_) #[true, true, true, true, true, true, false, false, false, false, false, false] rfl rfl (any_of HT_.out (by kernel_rfl)) (fun _ _ _ h => h) (Or.inr ⟨by rfl, rfl⟩) ?_ ?_
                  rotate_left
                  · simp only [Act.put, List.setIfInBounds_toArray, List.set_cons_zero, List.set_cons_succ, i64_w, i32_w]
                    rfl
                  refine pure_ (i := 6) (N := some 28) (v := undef) (a' := ?_) #[true, true, true, true, true, true, true, false, false, false, false, false] rfl rfl (any_of HT_.out (by kernel_rfl)) (fun _ _ _ h => h) (Or.inr ⟨by rfl, rfl⟩) ?_ ?_
                  rotate_left
                  · simp only [Act.put, List.setIfInBounds_toArray, List.set_cons_zero, List.set_cons_succ, i64_w, i32_w]
                    rfl
                  refine pure_ (i := 7) (N := some 29) (v := undef) (a' := ?_) #[true, true, true, true, true, true, true, true, false, false, false, false] rfl rfl (any_of HT_.out (by kernel_rfl)) (fun _ _ _ h => h) (Or.inr ⟨by rfl, rfl⟩) ?_ ?_
                  rotate_left
                  · simp only [Act.put, List.setIfInBounds_toArray, List.set_cons_zero, List.set_cons_succ, i64_w, i32_w]
                    rfl
                  refine pure_ (i := 8) (N := some 30) (v := undef) (a' := ?_) #[true, true, true, true, true, true, true, true, true, false, false, false] rfl rfl (any_of HT_.out (by kernel_rfl)) (fun _ _ _ h => h) (Or.inr ⟨by rfl, rfl⟩) ?_ ?_
                  rotate_left
                  · simp only [Act.put, List.setIfInBounds_toArray, List.set_cons_zero, List.set_cons_succ, i64_w, i32_w]
                    rfl
                  refine pure_ (i := 9) (N := some 31) (v := undef) (a' := ?_) #[true, true, true, true, true, true, true, true, true, true, false, false] rfl rfl (any_of HT_.out (by kernel_rfl)) (fun _ _ _ h => h) (Or.inr ⟨by rfl, rfl⟩) ?_ ?_
                  rotate_left
                  · simp only [Act.put, List.setIfInBounds_toArray, List.set_cons_zero, List.set_cons_succ, i64_w, i32_w]
                    rfl
                  refine pure_ (i := 10) (N := some 32) (v := undef) (a' := ?_) #[true, true, true, true, true, true, true, true, true, true, true, false] rfl rfl (any_of HT_.out (by kernel_rfl)) (fun _ _ _ h => h) (Or.inr ⟨by rfl, rfl⟩) ?_ ?_
                  rotate_left
                  · simp only [Act.put, List.setIfInBounds_toArray, List.set_cons_zero, List.set_cons_succ, i64_w, i32_w]
                    rfl
                  refine pure_ (i := 11) (N := some 33) (v := ?_) (a' := ?_) #[true, true, true, true, true, true, true, true, true, true, true, true] rfl rfl (any_of HT_.out (by kernel_rfl)) (fun _ _ _ h => h) (Or.inl ⟨by rfl, ?_⟩) ?_ ?_
                  rotate_left
                  · intro w'
                    go_simp
                    with_reducible rfl
                  rotate_left
                  · simp only [Act.put, List.setIfInBounds_toArray, List.set_cons_zero, List.set_cons_succ, i64_w, i32_w]
                    rfl
                  refine done_ (done_of HT_.out (by kernel_rfl)) ?_
                  try go_wp2
                  go_roundg k1
                  case measure => have := HK1.out; omega
                  case rel => exact ⟨(wrap64 (x12_1 + 1)), (by first | rfl | (simp; done) | (simp [*]; done)), H', ⟨by have := HK1.out; omega⟩, ⟨by repeat (first | (with_reducible first | exact HB.out | apply below_alloc | apply pw_below_drewN | apply below_drew1 | refine below_set ?_ GE141.out) | exact HB.out)⟩⟩
              · have H1 : (some (some q143)) = some r := by rw [if_neg (show ¬ (some q143).isNone = true by simp)] at H; exact H
                clear H
                have H := H1
                clear H1
                try simp only [errW_none, errW_some]
                obtain rfl := Option.some.inj H
                have p140 : 0 ≤ (x12_1 : Int) := of_decide_eq_true (by first | (with_reducible assumption) | assumption)
                have q140 : x12_1 < (l0.length : Int) := of_decide_eq_true (by first | (with_reducible assumption) | assumption)
                obtain ⟨ad140, e140, hx140_0, hx140_1, hx140_2, hx140_3, hx140_4, hx140_5, hx140_6, hx140_7, hx140_8⟩ := at_T25 HR0.out x12_1 p140 q140
                cases e140
                replace hx140_0 := (HB.out.cell (World.block_lt_of_cell? w _ hx140_0)).trans hx140_0
                replace hx140_1 := (HB.out.cell (World.block_lt_of_cell? w _ hx140_1)).trans hx140_1
                replace hx140_2 := (HB.out.cell (World.block_lt_of_cell? w _ hx140_2)).trans hx140_2
                replace hx140_3 := (HB.out.cell (World.block_lt_of_cell? w _ hx140_3)).trans hx140_3
                replace hx140_4 := (HB.out.cell (World.block_lt_of_cell? w _ hx140_4)).trans hx140_4
                replace hx140_5 := (HB.out.cell (World.block_lt_of_cell? w _ hx140_5)).trans hx140_5
                replace hx140_6 := (HB.out.cell (World.block_lt_of_cell? w _ hx140_6)).trans hx140_6
                replace hx140_7 := (HB.out.cell (World.block_lt_of_cell? w _ hx140_7)).trans hx140_7
                replace hx140_8 := (HB.out.cell (World.block_lt_of_cell? w _ hx140_8)).trans hx140_8
                replace p140 := eq_true p140
                replace q140 := eq_true q140
                go_wp2_with (first | ((with_reducible refine gate_dst (N := 4) rfl ?_); refine box_event ?hg (N := 4) ?hd (cs := #[.int .i64 0, .string (⟨#[]⟩ : ByteArray), .string (⟨#[]⟩ : ByteArray), .int .i64 0, .string (⟨#[]⟩ : ByteArray), .string (⟨#[]⟩ : ByteArray), .int .i64 0, .string (⟨#[]⟩ : ByteArray), .string (⟨#[]⟩ : ByteArray)]) (t := 25) ?hr ?_; (case hd => rfl); (case hg => rfl); (case hr => first | (go_simp; done) | (go_simp; rfl)); intro gb141 hg w27 hbox hb; have n0_ := Aside0.mk (below_step (by repeat (first | (with_reducible first | exact HB.out | apply below_alloc | apply pw_below_drewN | apply below_drew1) | exact HB.out)) hb); have n1_ := Aside0.mk (hbox); have n2_ := Aside0.mk ((by rw [hg]; exact (below_size (by repeat (first | (with_reducible first | exact HB.out | apply below_alloc | apply pw_below_drewN | apply below_drew1) | exact HB.out))) : w.heap.size ≤ gb141)); have n3_ := Aside0.mk ((by rw [hg]; exact (below_size (by repeat (first | (with_reducible first | exact HB.out | apply below_alloc | apply pw_below_drewN | apply below_drew1) | exact HB.out))) : w.heap.size ≤ gb141)); clear HB; have HB := n0_; have BK141 := n1_; have GW141 := n2_; have GE141 := n3_; clear n0_ n1_ n2_ n3_; clear hb hbox hg; have hcz28_0 : w27.cell? ⟨gb141, 0, none⟩ = some (.int .i64 0) := (blk_cell BK141.out 0).trans rfl; have hcz28_1 : w27.cell? ⟨gb141, 1, none⟩ = some (.string (⟨#[]⟩ : ByteArray)) := (blk_cell BK141.out 1).trans rfl; have hcz28_2 : w27.cell? ⟨gb141, 2, none⟩ = some (.string (⟨#[]⟩ : ByteArray)) := (blk_cell BK141.out 2).trans rfl; have hcz28_3 : w27.cell? ⟨gb141, 3, none⟩ = some (.int .i64 0) := (blk_cell BK141.out 3).trans rfl; have hcz28_4 : w27.cell? ⟨gb141, 4, none⟩ = some (.string (⟨#[]⟩ : ByteArray)) := (blk_cell BK141.out 4).trans rfl; have hcz28_5 : w27.cell? ⟨gb141, 5, none⟩ = some (.string (⟨#[]⟩ : ByteArray)) := (blk_cell BK141.out 5).trans rfl; have hcz28_6 : w27.cell? ⟨gb141, 6, none⟩ = some (.int .i64 0) := (blk_cell BK141.out 6).trans rfl; have hcz28_7 : w27.cell? ⟨gb141, 7, none⟩ = some (.string (⟨#[]⟩ : ByteArray)) := (blk_cell BK141.out 7).trans rfl; have hcz28_8 : w27.cell? ⟨gb141, 8, none⟩ = some (.string (⟨#[]⟩ : ByteArray)) := (blk_cell BK141.out 8).trans rfl; have hfz28_0 := blk_frozen BK141.out 0; have hfz28_1 := blk_frozen BK141.out 1; have hfz28_2 := blk_frozen BK141.out 2; have hfz28_3 := blk_frozen BK141.out 3; have hfz28_4 := blk_frozen BK141.out 4; have hfz28_5 := blk_frozen BK141.out 5; have hfz28_6 := blk_frozen BK141.out 6; have hfz28_7 := blk_frozen BK141.out 7; have hfz28_8 := blk_frozen BK141.out 8) | ((with_reducible refine gate_callee (f := 11) rfl ?_); refine goesL_ (some 18) rfl rfl Tryz.func11 (by kernel_rfl) rfl #[.agg #[.int .i64 ((rd_T25 l0 x12_1).f0.f0), .string ((rd_T25 l0 x12_1).f0.f1), .string ((rd_T25 l0 x12_1).f0.f2), .int .i64 ((rd_T25 l0 x12_1).f1.f0), .string ((rd_T25 l0 x12_1).f1.f1), .string ((rd_T25 l0 x12_1).f1.f2), .int .i64 ((rd_T25 l0 x12_1).f2.f0), .string ((rd_T25 l0 x12_1).f2.f1), .string ((rd_T25 l0 x12_1).f2.f2)]] rfl (by (try simp only [List.map_toArray, List.map_cons, List.map_nil]); first | done | rfl | (simp only [List.length_drop, List.length_take]; rfl)) ?_; (with_reducible refine (triple_Check.calls k1 ((rd_T25 l0 x12_1).f0.f0) ((rd_T25 l0 x12_1).f0.f1) ((rd_T25 l0 x12_1).f0.f2) ((rd_T25 l0 x12_1).f1.f0) ((rd_T25 l0 x12_1).f1.f1) ((rd_T25 l0 x12_1).f1.f2) ((rd_T25 l0 x12_1).f2.f0) ((rd_T25 l0 x12_1).f2.f1) ((rd_T25 l0 x12_1).f2.f2) (some q143) _ A6.out).mono ?_); rintro e w29 ⟨rfl, hb⟩; refine ⟨_, rfl, ?_⟩; have n0_ := Aside0.mk (blk_below (g := gb141) (o := .cells #[.int .i64 ((rd_T25 l0 x12_1).f0.f0), .string ((rd_T25 l0 x12_1).f0.f1), .string ((rd_T25 l0 x12_1).f0.f2), .int .i64 ((rd_T25 l0 x12_1).f1.f0), .string ((rd_T25 l0 x12_1).f1.f1), .string ((rd_T25 l0 x12_1).f1.f2), .int .i64 ((rd_T25 l0 x12_1).f2.f0), .string ((rd_T25 l0 x12_1).f2.f1), .string ((rd_T25 l0 x12_1).f2.f2)] 25 (0, 0)) (by (with_reducible repeat (first | refine blk_drewN ?_ _ | refine blk_drew ?_ | refine blk_alloc ?_ _)); refine blk_put (cs := #[.int .i64 ((rd_T25 l0 x12_1).f0.f0), .string ((rd_T25 l0 x12_1).f0.f1), .string ((rd_T25 l0 x12_1).f0.f2), .int .i64 ((rd_T25 l0 x12_1).f1.f0), .string ((rd_T25 l0 x12_1).f1.f1), .string ((rd_T25 l0 x12_1).f1.f2), .int .i64 ((rd_T25 l0 x12_1).f2.f0), .string ((rd_T25 l0 x12_1).f2.f1), .string (⟨#[]⟩ : ByteArray)]) ?_ 8 _ rfl; (with_reducible repeat (first | refine blk_drewN ?_ _ | refine blk_drew ?_ | refine blk_alloc ?_ _)); refine blk_put (cs := #[.int .i64 ((rd_T25 l0 x12_1).f0.f0), .string ((rd_T25 l0 x12_1).f0.f1), .string ((rd_T25 l0 x12_1).f0.f2), .int .i64 ((rd_T25 l0 x12_1).f1.f0), .string ((rd_T25 l0 x12_1).f1.f1), .string ((rd_T25 l0 x12_1).f1.f2), .int .i64 ((rd_T25 l0 x12_1).f2.f0), .string (⟨#[]⟩ : ByteArray), .string (⟨#[]⟩ : ByteArray)]) ?_ 7 _ rfl; (with_reducible repeat (first | refine blk_drewN ?_ _ | refine blk_drew ?_ | refine blk_alloc ?_ _)); refine blk_put (cs := #[.int .i64 ((rd_T25 l0 x12_1).f0.f0), .string ((rd_T25 l0 x12_1).f0.f1), .string ((rd_T25 l0 x12_1).f0.f2), .int .i64 ((rd_T25 l0 x12_1).f1.f0), .string ((rd_T25 l0 x12_1).f1.f1), .string ((rd_T25 l0 x12_1).f1.f2), .int .i64 0, .string (⟨#[]⟩ : ByteArray), .string (⟨#[]⟩ : ByteArray)]) ?_ 6 _ rfl; (with_reducible repeat (first | refine blk_drewN ?_ _ | refine blk_drew ?_ | refine blk_alloc ?_ _)); refine blk_put (cs := #[.int .i64 ((rd_T25 l0 x12_1).f0.f0), .string ((rd_T25 l0 x12_1).f0.f1), .string ((rd_T25 l0 x12_1).f0.f2), .int .i64 ((rd_T25 l0 x12_1).f1.f0), .string ((rd_T25 l0 x12_1).f1.f1), .string (⟨#[]⟩ : ByteArray), .int .i64 0, .string (⟨#[]⟩ : ByteArray), .string (⟨#[]⟩ : ByteArray)]) ?_ 5 _ rfl; (with_reducible repeat (first | refine blk_drewN ?_ _ | refine blk_drew ?_ | refine blk_alloc ?_ _)); refine blk_put (cs := #[.int .i64 ((rd_T25 l0 x12_1).f0.f0), .string ((rd_T25 l0 x12_1).f0.f1), .string ((rd_T25 l0 x12_1).f0.f2), .int .i64 ((rd_T25 l0 x12_1).f1.f0), .string (⟨#[]⟩ : ByteArray), .string (⟨#[]⟩ : ByteArray), .int .i64 0, .string (⟨#[]⟩ : ByteArray), .string (⟨#[]⟩ : ByteArray)]) ?_ 4 _ rfl; (with_reducible repeat (first | refine blk_drewN ?_ _ | refine blk_drew ?_ | refine blk_alloc ?_ _)); refine blk_put (cs := #[.int .i64 ((rd_T25 l0 x12_1).f0.f0), .string ((rd_T25 l0 x12_1).f0.f1), .string ((rd_T25 l0 x12_1).f0.f2), .int .i64 0, .string (⟨#[]⟩ : ByteArray), .string (⟨#[]⟩ : ByteArray), .int .i64 0, .string (⟨#[]⟩ : ByteArray), .string (⟨#[]⟩ : ByteArray)]) ?_ 3 _ rfl; (with_reducible repeat (first | refine blk_drewN ?_ _ | refine blk_drew ?_ | refine blk_alloc ?_ _)); refine blk_put (cs := #[.int .i64 ((rd_T25 l0 x12_1).f0.f0), .string ((rd_T25 l0 x12_1).f0.f1), .string (⟨#[]⟩ : ByteArray), .int .i64 0, .string (⟨#[]⟩ : ByteArray), .string (⟨#[]⟩ : ByteArray), .int .i64 0, .string (⟨#[]⟩ : ByteArray), .string (⟨#[]⟩ : ByteArray)]) ?_ 2 _ rfl; (with_reducible repeat (first | refine blk_drewN ?_ _ | refine blk_drew ?_ | refine blk_alloc ?_ _)); refine blk_put (cs := #[.int .i64 ((rd_T25 l0 x12_1).f0.f0), .string (⟨#[]⟩ : ByteArray), .string (⟨#[]⟩ : ByteArray), .int .i64 0, .string (⟨#[]⟩ : ByteArray), .string (⟨#[]⟩ : ByteArray), .int .i64 0, .string (⟨#[]⟩ : ByteArray), .string (⟨#[]⟩ : ByteArray)]) ?_ 1 _ rfl; (with_reducible repeat (first | refine blk_drewN ?_ _ | refine blk_drew ?_ | refine blk_alloc ?_ _)); refine blk_put (cs := #[.int .i64 0, .string (⟨#[]⟩ : ByteArray), .string (⟨#[]⟩ : ByteArray), .int .i64 0, .string (⟨#[]⟩ : ByteArray), .string (⟨#[]⟩ : ByteArray), .int .i64 0, .string (⟨#[]⟩ : ByteArray), .string (⟨#[]⟩ : ByteArray)]) ?_ 0 _ rfl; (with_reducible repeat (first | refine blk_drewN ?_ _ | refine blk_drew ?_ | refine blk_alloc ?_ _)); exact BK141.out) hb); have n1_ := Aside0.mk (below_step (by repeat (first | (with_reducible first | exact HB.out | apply below_alloc | apply pw_below_drewN | apply below_drew1 | refine below_set ?_ GE141.out) | exact HB.out)) hb); clear BK141; clear HB; have BK141 := n0_; have HB := n1_; clear n0_ n1_; (try clear hb); (try clear hb2); (try clear hk); (try clear hi); (try simp only [errW_none, errW_some])))
                go_ret
                exact ⟨by first | rfl | (simp [errW_none, errW_some] <;> rfl) | (simp [*, errW_none, errW_some] <;> rfl), by repeat (first | (with_reducible first | exact HB.out | apply below_alloc | apply pw_below_drewN | apply below_drew1 | refine below_set ?_ GE141.out) | exact HB.out)⟩
            · rw [if_neg c5] at H
              exact absurd H (by simp)
          · rw [if_neg c4] at H
            exact absurd H (by simp)
        · rw [if_neg c3] at H
          have c3b0 : decide (x12_1 < (l0.length : Int)) = false := decide_eq_false c3
          clear c3
          obtain rfl := Option.some.inj H
          go_wp2
          go_ret
          exact ⟨by first | rfl | (simp [errW_none, errW_some] <;> rfl) | (simp [*, errW_none, errW_some] <;> rfl), by repeat (first | (with_reducible first | exact HB.out | apply below_alloc | apply pw_below_drewN | apply below_drew1) | exact HB.out)⟩

end Go.Proofs.YtdjamphmndbmjaaGreatDoor.M

/- Packages term and triple in plain words: what is wrong with a term, a triple, a set; which of two is ahead. The printed functions say just this. -/
namespace Go.Proofs.YtdjamphmndbmjaaGreatDoor.M
open Go.RowKit Go.Proofs.YtdjamphmndbmjaaGreatDoorW.PrintWords Go.Proofs.YtdjamphmndbmjaaGreatDoorW.PrintLast Go.Proofs.YtdjamphmndbmjaaGreatDoorW.PrintMore
set_option linter.unusedVariables false
set_option linter.unusedSimpArgs false

def cmpI (a b : Int) : Int := if a < b then -1 else if a > b then 1 else 0
def orI (a b c : Int) : Int := if a = 0 then (if b = 0 then c else b) else a
def cmpT (a b : S23) : Int := orI (cmpI a.f0 b.f0) (bcmp a.f1 b.f1) (bcmp a.f2 b.f2)
def cmpR (a b : S25) : Int := orI (cmpT a.f0 b.f0) (cmpT a.f1 b.f1) (cmpT a.f2 b.f2)

theorem or_f (k : Nat) (a b c : Int) : cmp_Or_int.f (k + 4) [a, b, c] = some (orI a b c) := by
  have w1 : wrap64 1 = 1 := by unfold wrap64; omega
  have w2 : wrap64 2 = 2 := by unfold wrap64; omega
  have w3 : wrap64 3 = 3 := by unfold wrap64; omega
  unfold orI
  by_cases ha : a = 0
  · subst ha
    by_cases hb : b = 0
    · subst hb
      by_cases hc : c = 0
      · subst hc; simp [cmp_Or_int.f, cmp_Or_int.l0, rd, w1, w2, w3]
      · simp [cmp_Or_int.f, cmp_Or_int.l0, rd, w1, w2, w3, hc]
    · simp [cmp_Or_int.f, cmp_Or_int.l0, rd, w1, w2, w3, hb]
  · simp [cmp_Or_int.f, cmp_Or_int.l0, rd, w1, w2, w3, ha]

theorem cmpI_f (a b : Int) : cmp_Compare_int.f a b = some (cmpI a b) := by
  unfold cmp_Compare_int.f cmp_isNaN_int.f cmpI
  simp only [Option.bind_some, bne_self_eq_false, if_false, Bool.false_eq_true]
  split
  · rfl
  · split <;> rfl

theorem cmpT_f (k : Nat) (x y : S23) : term_Compare.f (k + 4) x.f0 x.f1 x.f2 y.f0 y.f1 y.f2 = some (cmpT x y) := by
  unfold term_Compare.f strings_Compare.f cmpT
  rw [cmpI_f]
  simp only [Option.bind_some]
  rw [or_f]
  rfl

theorem cmpR_f (k : Nat) (x y : S25) : triple_Compare.f (k + 4) x.f0.f0 x.f0.f1 x.f0.f2 x.f1.f0 x.f1.f1 x.f1.f2 x.f2.f0 x.f2.f1 x.f2.f2 y.f0.f0 y.f0.f1 y.f0.f2 y.f1.f0 y.f1.f1 y.f1.f2 y.f2.f0 y.f2.f1 y.f2.f2 = some (cmpR x y) := by
  unfold triple_Compare.f cmpR
  rw [cmpT_f, cmpT_f, cmpT_f]
  simp only [Option.bind_some]
  rw [or_f]
  rfl

/-- Which bytes a term of a kind may have. -/
def predK (k : Int) : Int → Bool := if k = 1 then isName else if k = 2 then isAnon else isText
/-- Is a text one of a kind? -/
def okS (k : Int) (s : ByteArray) : Bool := (bytesOf s).all (predK k) && (k == 3 || s.size != 0) && (k != 1 || isLetter (bt s 0))
def chkT (t : S23) : Option Int :=
  if 1 ≤ t.f0 ∧ t.f0 ≤ 3 then (if t.f1.size > 24 then some 4 else if okS t.f0 t.f1 = true then (if t.f2.size = 0 then none else if t.f0 = 3 ∧ t.f2.size = 2 ∧ (bytesOf t.f2).all isLetter = true then none else some 2) else some 2) else some 1
def chkR (t : S25) : Option Int :=
  match chkT t.f0 with
  | some e => some e
  | none => match chkT t.f1 with
    | some e => some e
    | none => match chkT t.f2 with
      | some e => some e
      | none => if t.f0.f0 ≠ 3 ∧ t.f1.f0 = 1 then none else some 3
def sortedFrom : Option S25 → List S25 → Option Int
  | _, [] => none
  | p, t :: l => match chkR t with
    | some e => some e
    | none => if (match p with | some q => decide (0 ≤ cmpR q t) | none => false) = true then some 6 else sortedFrom (some t) l
def sortedR (l : List S25) : Option Int := if l.length > 200 then some 4 else sortedFrom none l

theorem predOf_bytes (k : Int) (h1 : 1 ≤ k) (h3 : k ≤ 3) : ∃ fn, term_bytes.f k = some fn ∧ predOf fn = some (predK k) := by
  unfold term_bytes.f predK
  by_cases e1 : k = 1
  · exact ⟨_, by rw [if_pos e1], by rw [if_pos e1]; rfl⟩
  · by_cases e2 : k = 2
    · exact ⟨_, by rw [if_neg e1, if_pos e2], by rw [if_neg e1, if_pos e2]; rfl⟩
    · exact ⟨_, by rw [if_neg e1, if_neg e2], by rw [if_neg e1, if_neg e2]; rfl⟩
theorem all_f (s : ByteArray) (fn : Nat) (p : Int → Bool) (hs : s.size ≤ 9223372036854775807) (h : predOf fn = some p) : term_all.f s fn = some ((bytesOf s).all p) := by
  unfold term_all.f
  rw [if_pos hs, h]
  rfl
theorem letter_f (c : Int) : term_letter.f c = some (isLetter c) := by
  unfold term_letter.f isLetter
  by_cases h : 97 ≤ c
  · rw [if_pos (by omega)]; simp [h]
  · rw [if_neg (by omega)]; simp [h]
theorem size_nil (s : ByteArray) : s.toList = ([] : List UInt8) ↔ s.size = 0 := by
  rw [ByteArray.toList_eq]
  constructor
  · intro h
    have := congrArg List.length h
    simpa [data_length] using this
  · intro h
    exact List.eq_nil_of_length_eq_zero (by rw [data_length]; exact h)
theorem bytesOf_nil {s : ByteArray} (h : s.size = 0) : bytesOf s = [] := List.eq_nil_of_length_eq_zero (by rw [bytesOf_length]; exact h)

theorem chkT_j0 (k : Nat) (b : Bool) (x : S23) : term_Check.j0 (k + 1) b x.f0 x.f1 x.f2 = some (if b = true then some 2 else if x.f2.size = 0 then none else if x.f0 = 3 ∧ x.f2.size = 2 ∧ (bytesOf x.f2).all isLetter = true then none else some 2) := by
  simp only [term_Check.j0]
  by_cases hb : b = true
  · rw [if_pos hb, if_pos hb]
  · rw [if_neg hb, if_neg hb]
    by_cases h0 : x.f2.size = 0
    · rw [if_pos ((size_nil _).mpr h0), if_pos h0]
    · rw [if_neg (fun h => h0 ((size_nil _).mp h)), if_neg h0]
      by_cases h3 : x.f0 = 3
      · rw [if_pos h3]
        by_cases h2 : x.f2.size = 2
        · rw [if_pos (by omega), all_f x.f2 _ isLetter (by omega) (by rfl)]
          simp only [Option.bind_some]
          cases (bytesOf x.f2).all isLetter
          · rw [if_neg (by decide), if_neg (by simp)]
          · rw [if_pos rfl, if_pos ⟨h3, h2, rfl⟩]
        · rw [if_neg (by omega), if_neg (fun h => h2 h.2.1)]
      · rw [if_neg h3, if_neg (fun h => h3 h.1)]

theorem chkT_f (k : Nat) (x : S23) : term_Check.f (k + 1) x.f0 x.f1 x.f2 = some (chkT x) := by
  unfold term_Check.f chkT term_Kind.f
  by_cases h1 : 1 ≤ x.f0
  · rw [if_pos (by omega)]
    simp only [Option.bind_some]
    by_cases h3 : x.f0 ≤ 3
    · rw [if_pos (show decide (x.f0 ≤ 3) = true by simpa using h3), if_pos (show 1 ≤ x.f0 ∧ x.f0 ≤ 3 from ⟨h1, h3⟩)]
      by_cases hs : x.f1.size > 24
      · rw [if_pos (show (x.f1.size : Int) > 24 by omega), if_pos hs]
      · rw [if_neg (show ¬ (x.f1.size : Int) > 24 by omega), if_neg hs]
        obtain ⟨fn, hfn, hp⟩ := predOf_bytes x.f0 h1 h3
        rw [hfn]
        simp only [Option.bind_some]
        rw [all_f x.f1 fn _ (by omega) hp]
        simp only [Option.bind_some]
        unfold okS
        cases ha : (bytesOf x.f1).all (predK x.f0)
        · rw [if_neg (by decide), chkT_j0]
          simp
        · rw [if_pos rfl]
          by_cases k3 : x.f0 = 3
          · rw [if_pos k3, if_neg (by omega), chkT_j0, k3]
            simp
          · rw [if_neg k3]
            by_cases h0 : x.f1.size = 0
            · rw [if_pos ((size_nil _).mpr h0), chkT_j0]
              simp [h0, k3]
            · rw [if_neg (fun h => h0 ((size_nil _).mp h))]
              by_cases k1 : x.f0 = 1
              · rw [if_pos k1, if_pos (by omega), letter_f]
                simp only [Option.bind_some]
                rw [chkT_j0]
                cases hl : isLetter (bt x.f1 0) <;> simp [k1, h0]
              · rw [if_neg k1, chkT_j0]
                simp [k1, k3, h0]
    · rw [if_neg (show ¬ (decide (x.f0 ≤ 3) = true) by simpa using h3), if_neg (show ¬ (1 ≤ x.f0 ∧ x.f0 ≤ 3) from fun h => h3 h.2)]
  · rw [if_neg (show ¬ x.f0 ≥ 1 by omega), if_neg (show ¬ (1 ≤ x.f0 ∧ x.f0 ≤ 3) from fun h => h1 h.1)]
    simp only [Option.bind_some]
    rw [if_neg (by decide)]

theorem chkR_f (k : Nat) (x : S25) : triple_Check.f (k + 5) x.f0.f0 x.f0.f1 x.f0.f2 x.f1.f0 x.f1.f1 x.f1.f2 x.f2.f0 x.f2.f1 x.f2.f2 = some (chkR x) := by
  have w1 : wrap64 1 = 1 := by unfold wrap64; omega
  have w2 : wrap64 2 = 2 := by unfold wrap64; omega
  have w3 : wrap64 3 = 3 := by unfold wrap64; omega
  have e0 := fun k => chkT_f k x.f0
  have e1 := fun k => chkT_f k x.f1
  have e2 := fun k => chkT_f k x.f2
  unfold triple_Check.f chkR triple_Check.l0
  cases h0 : chkT x.f0 with
  | some e => simp [rd_T23, e0, h0]
  | none =>
    simp [rd_T23, e0, h0, w1]
    unfold triple_Check.l0
    cases h1 : chkT x.f1 with
    | some e => simp [rd_T23, e1, h1]
    | none =>
      simp [rd_T23, e1, h1, w2]
      unfold triple_Check.l0
      cases h2 : chkT x.f2 with
      | some e => simp [rd_T23, e2, h2]
      | none =>
        simp [rd_T23, e2, h2, w3]
        unfold triple_Check.l0 triple_shape.f
        by_cases a : x.f0.f0 = 3 <;> by_cases b : x.f1.f0 = 1 <;> simp [a, b]

theorem rd_T25_at (l : List S25) (i : Nat) (h : i < l.length) : rd_T25 l (i : Int) = l[i] := by
  simp [rd_T25, List.getD_eq_getElem?_getD, h]
theorem wrap_small {i : Int} (h0 : 0 ≤ i) (h1 : i ≤ 1000000000) : wrap64 i = i := by unfold wrap64; omega

/-- One round of Sorted's loop: from place i on. -/
theorem sorted_l0 (l : List S25) (hl : l.length ≤ 200) (d : Nat) : ∀ (i : Nat) (p : Option S25), i ≤ l.length → l.length - i = d → (0 < i → ∃ h : i - 1 < l.length, p = some l[i - 1]) → (i = 0 → p = none) →
    triple_Sorted.l0 (d + 7) l l (l.length : Int) (i : Int) = some (sortedFrom p (l.drop i)) := by
  induction d with
  | zero =>
    intro i p hi hd _ _
    obtain rfl : i = l.length := by omega
    unfold triple_Sorted.l0
    rw [if_neg (by omega), List.drop_length]
    rfl
  | succ d ih =>
    intro i p hi hd hp hp0
    have hlt : i < l.length := by omega
    have hdrop : l.drop i = l[i] :: l.drop (i + 1) := List.drop_eq_getElem_cons hlt
    rw [hdrop]
    have hw : wrap64 ((i : Int) + 1) = ((i + 1 : Nat) : Int) := by rw [wrap_small (by omega) (by omega)]; omega
    have e : d + 1 + 7 = (d + 7) + 1 := by omega
    rw [e]
    unfold triple_Sorted.l0
    rw [if_pos (by omega), if_pos (by omega), if_pos (by omega), rd_T25_at l i hlt]
    rw [show d + 7 = (d + 2) + 5 by omega, chkR_f]
    simp only [Option.bind_some]
    rw [show (d + 2) + 5 = d + 7 by omega]
    cases hc : chkR l[i] with
    | some e => simp [sortedFrom, hc]
    | none =>
      simp only [Option.isNone_none, if_true, sortedFrom, hc]
      have ihn := ih (i + 1) (some l[i]) (by omega) (by omega) (fun _ => ⟨by simpa using hlt, by simp⟩) (fun h => by omega)
      rcases Nat.eq_zero_or_pos i with h0 | hpos
      · have hpn := hp0 h0
        subst hpn
        rw [if_neg (by omega), hw, ihn]
        simp
      · obtain ⟨h1, rfl⟩ := hp hpos
        have hw1 : wrap64 ((i : Int) - 1) = ((i - 1 : Nat) : Int) := by rw [wrap_small (by omega) (by omega)]; omega
        rw [if_pos (by omega), hw1, if_pos (by omega), if_pos (by omega), rd_T25_at l (i - 1) h1]
        rw [show d + 7 = (d + 3) + 4 by omega, cmpR_f]
        simp only [Option.bind_some]
        rw [show (d + 3) + 4 = d + 7 by omega]
        by_cases h : 0 ≤ cmpR l[i - 1] l[i]
        · rw [if_pos (by omega), if_pos (by simpa using h)]
        · rw [if_neg (by omega), if_neg (by simpa using h), hw, ihn]

theorem sortedR_f (l : List S25) : triple_Sorted.f (l.length + 7) l = some (sortedR l) := by
  unfold triple_Sorted.f sortedR
  by_cases h : l.length > 200
  · rw [if_pos (by omega), if_pos h]
  · rw [if_neg (by omega), if_neg h]
    have := sorted_l0 l (by omega) l.length 0 none (by omega) (by omega) (fun h => absurd h (Nat.lt_irrefl 0)) (fun _ => rfl)
    rw [List.drop_zero] at this
    exact this

/-! ### The contracts in these words -/
def pCheckT.f (a0_0 : Int) (a0_1 : ByteArray) (a0_2 : ByteArray) : Option (Option Int) := some (chkT ⟨a0_0, a0_1, a0_2⟩)
theorem pCheckT.calls (a0_0 : Int) (a0_1 : ByteArray) (a0_2 : ByteArray) (r : Option Int) (w : World) (h : pCheckT.f a0_0 a0_1 a0_2 = some r) :
    Calls Tryz.prog 37 #[.agg #[.int .i64 a0_0, .string a0_1, .string a0_2]] w fun e w' => e = .returned (errW r) ∧ Below w.heap.size w w' :=
  term_Check.calls 1 a0_0 a0_1 a0_2 r w ((chkT_f 0 ⟨a0_0, a0_1, a0_2⟩).trans h)
def pCompareT.f (a0_0 : Int) (a0_1 : ByteArray) (a0_2 : ByteArray) (a1_0 : Int) (a1_1 : ByteArray) (a1_2 : ByteArray) : Option Int := some (cmpT ⟨a0_0, a0_1, a0_2⟩ ⟨a1_0, a1_1, a1_2⟩)
theorem pCompareT.calls (a0_0 : Int) (a0_1 : ByteArray) (a0_2 : ByteArray) (a1_0 : Int) (a1_1 : ByteArray) (a1_2 : ByteArray) (r : Int) (w : World) (h : pCompareT.f a0_0 a0_1 a0_2 a1_0 a1_1 a1_2 = some r) :
    Calls Tryz.prog 42 #[.agg #[.int .i64 a0_0, .string a0_1, .string a0_2], .agg #[.int .i64 a1_0, .string a1_1, .string a1_2]] w fun e w' => e = .returned (.int .i64 r) ∧ Below w.heap.size w w' :=
  term_Compare.calls 4 a0_0 a0_1 a0_2 a1_0 a1_1 a1_2 r w ((cmpT_f 0 ⟨a0_0, a0_1, a0_2⟩ ⟨a1_0, a1_1, a1_2⟩).trans h)
def pCheckR.f (a0_0 : Int) (a0_1 : ByteArray) (a0_2 : ByteArray) (a0_3 : Int) (a0_4 : ByteArray) (a0_5 : ByteArray) (a0_6 : Int) (a0_7 : ByteArray) (a0_8 : ByteArray) : Option (Option Int) := some (chkR ⟨⟨a0_0, a0_1, a0_2⟩, ⟨a0_3, a0_4, a0_5⟩, ⟨a0_6, a0_7, a0_8⟩⟩)
theorem pCheckR.calls (a0_0 : Int) (a0_1 : ByteArray) (a0_2 : ByteArray) (a0_3 : Int) (a0_4 : ByteArray) (a0_5 : ByteArray) (a0_6 : Int) (a0_7 : ByteArray) (a0_8 : ByteArray) (r : Option Int) (w : World) (h : pCheckR.f a0_0 a0_1 a0_2 a0_3 a0_4 a0_5 a0_6 a0_7 a0_8 = some r) :
    Calls Tryz.prog 11 #[.agg #[.int .i64 a0_0, .string a0_1, .string a0_2, .int .i64 a0_3, .string a0_4, .string a0_5, .int .i64 a0_6, .string a0_7, .string a0_8]] w fun e w' => e = .returned (errW r) ∧ Below w.heap.size w w' :=
  triple_Check.calls 5 a0_0 a0_1 a0_2 a0_3 a0_4 a0_5 a0_6 a0_7 a0_8 r w ((chkR_f 0 ⟨⟨a0_0, a0_1, a0_2⟩, ⟨a0_3, a0_4, a0_5⟩, ⟨a0_6, a0_7, a0_8⟩⟩).trans h)
def pCompareR.f (a0_0 : Int) (a0_1 : ByteArray) (a0_2 : ByteArray) (a0_3 : Int) (a0_4 : ByteArray) (a0_5 : ByteArray) (a0_6 : Int) (a0_7 : ByteArray) (a0_8 : ByteArray) (a1_0 : Int) (a1_1 : ByteArray) (a1_2 : ByteArray) (a1_3 : Int) (a1_4 : ByteArray) (a1_5 : ByteArray) (a1_6 : Int) (a1_7 : ByteArray) (a1_8 : ByteArray) : Option Int :=
  some (cmpR ⟨⟨a0_0, a0_1, a0_2⟩, ⟨a0_3, a0_4, a0_5⟩, ⟨a0_6, a0_7, a0_8⟩⟩ ⟨⟨a1_0, a1_1, a1_2⟩, ⟨a1_3, a1_4, a1_5⟩, ⟨a1_6, a1_7, a1_8⟩⟩)
theorem compareR_calls (x y : S25) (w : World) :
    Calls Tryz.prog 21 #[.agg #[.int .i64 x.f0.f0, .string x.f0.f1, .string x.f0.f2, .int .i64 x.f1.f0, .string x.f1.f1, .string x.f1.f2, .int .i64 x.f2.f0, .string x.f2.f1, .string x.f2.f2], .agg #[.int .i64 y.f0.f0, .string y.f0.f1, .string y.f0.f2, .int .i64 y.f1.f0, .string y.f1.f1, .string y.f1.f2, .int .i64 y.f2.f0, .string y.f2.f1, .string y.f2.f2]] w fun e w' => e = .returned (.int .i64 (cmpR x y)) ∧ Below w.heap.size w w' :=
  triple_Compare.calls 4 _ _ _ _ _ _ _ _ _ _ _ _ _ _ _ _ _ _ _ w (cmpR_f 0 x y)
theorem compareR_grown (x y : S25) (w : World) :
    Calls Tryz.prog 21 #[.agg #[.int .i64 x.f0.f0, .string x.f0.f1, .string x.f0.f2, .int .i64 x.f1.f0, .string x.f1.f1, .string x.f1.f2, .int .i64 x.f2.f0, .string x.f2.f1, .string x.f2.f2], .agg #[.int .i64 y.f0.f0, .string y.f0.f1, .string y.f0.f2, .int .i64 y.f1.f0, .string y.f1.f1, .string y.f1.f2, .int .i64 y.f2.f0, .string y.f2.f1, .string y.f2.f2]] w fun e w' => e = .returned (.int .i64 (cmpR x y)) ∧ ∃ q os, w' = Sort.grow (w.drewN q) os :=
  (triple_Compare.callsG 4 _ _ _ _ _ _ _ _ _ _ _ _ _ _ _ _ _ _ _ w (cmpR_f 0 x y)).mono fun _ _ ⟨he, hb⟩ => ⟨he, hb.grown⟩
theorem pCompareR.calls (a0_0 : Int) (a0_1 : ByteArray) (a0_2 : ByteArray) (a0_3 : Int) (a0_4 : ByteArray) (a0_5 : ByteArray) (a0_6 : Int) (a0_7 : ByteArray) (a0_8 : ByteArray) (a1_0 : Int) (a1_1 : ByteArray) (a1_2 : ByteArray) (a1_3 : Int) (a1_4 : ByteArray) (a1_5 : ByteArray) (a1_6 : Int) (a1_7 : ByteArray) (a1_8 : ByteArray) (r : Int) (w : World)
    (h : pCompareR.f a0_0 a0_1 a0_2 a0_3 a0_4 a0_5 a0_6 a0_7 a0_8 a1_0 a1_1 a1_2 a1_3 a1_4 a1_5 a1_6 a1_7 a1_8 = some r) :
    Calls Tryz.prog 21 #[.agg #[.int .i64 a0_0, .string a0_1, .string a0_2, .int .i64 a0_3, .string a0_4, .string a0_5, .int .i64 a0_6, .string a0_7, .string a0_8], .agg #[.int .i64 a1_0, .string a1_1, .string a1_2, .int .i64 a1_3, .string a1_4, .string a1_5, .int .i64 a1_6, .string a1_7, .string a1_8]] w fun e w' => e = .returned (.int .i64 r) ∧ Below w.heap.size w w' := by
  obtain rfl := Option.some.inj h
  exact compareR_calls ⟨⟨a0_0, a0_1, a0_2⟩, ⟨a0_3, a0_4, a0_5⟩, ⟨a0_6, a0_7, a0_8⟩⟩ ⟨⟨a1_0, a1_1, a1_2⟩, ⟨a1_3, a1_4, a1_5⟩, ⟨a1_6, a1_7, a1_8⟩⟩ w
def pSorted.f (l0 : List S25) : Option (Option Int) := some (sortedR l0)
theorem pSorted.calls (A0 : Option Addr) (c0 : Nat) (l0 : List S25) (r : Option Int) (w : World) (hr0 : Kd.C k25 w A0 l0.length l0) (hc0 : l0.length ≤ c0) (h : pSorted.f l0 = some r) :
    Calls Tryz.prog 16 #[.slice A0 l0.length c0] w fun e w' => e = .returned (errW r) ∧ Below w.heap.size w w' :=
  triple_Sorted.calls _ A0 c0 l0 r w hr0 hc0 ((sortedR_f l0).trans h)
end Go.Proofs.YtdjamphmndbmjaaGreatDoor.M

/- The order of terms and of triples: one outcome each way round, 0 just for equal ones, one behind the other. Plain. -/
namespace Go.Proofs.YtdjamphmndbmjaaGreatDoor.M
open Go.RowKit Go.Proofs.YtdjamphmndbmjaaGreatDoorW.PrintWords Go.Proofs.YtdjamphmndbmjaaGreatDoorW.PrintLast Go.Proofs.YtdjamphmndbmjaaGreatDoorW.PrintMore
set_option linter.unusedVariables false
set_option linter.unusedSimpArgs false

/-- What an order that tells -1, 0, 1 owes. -/
structure LawCmp {α : Type} (c : α → α → Int) : Prop where
  anti : ∀ a b, c b a = - c a b
  zero : ∀ a b, c a b = 0 ↔ a = b
  trans : ∀ a b d, c a b < 0 → c b d < 0 → c a d < 0

theorem lawI : LawCmp cmpI where
  anti a b := by unfold cmpI; split <;> split <;> (try split) <;> omega
  zero a b := by unfold cmpI; split <;> (try split) <;> omega
  trans a b d h1 h2 := by unfold cmpI at *; split at h1 <;> split at h2 <;> (try split at h1) <;> (try split at h2) <;> split <;> (try split) <;> omega

theorem compareBytes_anti : ∀ a b : List UInt8, Lib.compareBytes b a = - Lib.compareBytes a b
  | [], [] => rfl
  | [], _ :: _ => rfl
  | _ :: _, [] => rfl
  | x :: a, y :: b => by
    simp only [Lib.compareBytes]
    rcases Nat.lt_trichotomy x.toNat y.toNat with h | h | h
    · rw [if_neg (show ¬ y < x from by rw [UInt8.lt_iff_toNat_lt]; omega), if_pos (show x < y from by rw [UInt8.lt_iff_toNat_lt]; omega), if_pos (show x < y from by rw [UInt8.lt_iff_toNat_lt]; omega)]; rfl
    · rw [if_neg (show ¬ y < x from by rw [UInt8.lt_iff_toNat_lt]; omega), if_neg (show ¬ x < y from by rw [UInt8.lt_iff_toNat_lt]; omega), if_neg (show ¬ x < y from by rw [UInt8.lt_iff_toNat_lt]; omega), if_neg (show ¬ y < x from by rw [UInt8.lt_iff_toNat_lt]; omega)]
      exact compareBytes_anti a b
    · rw [if_pos (show y < x from by rw [UInt8.lt_iff_toNat_lt]; omega), if_neg (show ¬ x < y from by rw [UInt8.lt_iff_toNat_lt]; omega), if_pos (show y < x from by rw [UInt8.lt_iff_toNat_lt]; omega)]
theorem compareBytes_zero : ∀ a b : List UInt8, Lib.compareBytes a b = 0 ↔ a = b
  | [], [] => by simp [Lib.compareBytes]
  | [], _ :: _ => by simp [Lib.compareBytes]
  | _ :: _, [] => by simp [Lib.compareBytes]
  | x :: a, y :: b => by
    simp only [Lib.compareBytes, List.cons.injEq]
    rcases Nat.lt_trichotomy x.toNat y.toNat with h | h | h
    · rw [if_pos (show x < y from by rw [UInt8.lt_iff_toNat_lt]; omega)]
      exact ⟨fun h0 => by omega, fun h0 => by rw [h0.1] at h; omega⟩
    · rw [if_neg (show ¬ x < y from by rw [UInt8.lt_iff_toNat_lt]; omega), if_neg (show ¬ y < x from by rw [UInt8.lt_iff_toNat_lt]; omega), compareBytes_zero a b]
      exact ⟨fun h0 => ⟨UInt8.toNat_inj.1 h, h0⟩, fun h0 => h0.2⟩
    · rw [if_neg (show ¬ x < y from by rw [UInt8.lt_iff_toNat_lt]; omega), if_pos (show y < x from by rw [UInt8.lt_iff_toNat_lt]; omega)]
      exact ⟨fun h0 => by omega, fun h0 => by rw [h0.1] at h; omega⟩
theorem compareBytes_trans : ∀ a b d : List UInt8, Lib.compareBytes a b < 0 → Lib.compareBytes b d < 0 → Lib.compareBytes a d < 0
  | [], [], _ => fun h _ => by simp [Lib.compareBytes] at h
  | [], _ :: _, [] => fun _ h => by simp [Lib.compareBytes] at h
  | [], _ :: _, _ :: _ => fun _ _ => by simp [Lib.compareBytes]
  | _ :: _, [], _ => fun h _ => by simp [Lib.compareBytes] at h
  | _ :: _, _ :: _, [] => fun _ h => by simp [Lib.compareBytes] at h
  | x :: a, y :: b, z :: d => fun h1 h2 => by
    simp only [Lib.compareBytes, UInt8.lt_iff_toNat_lt] at *
    by_cases p : x.toNat < y.toNat
    · by_cases q : y.toNat < z.toNat
      · rw [if_pos (by omega)]; omega
      · rw [if_neg q] at h2
        by_cases q2 : z.toNat < y.toNat
        · rw [if_pos q2] at h2; omega
        · rw [if_pos (by omega)]; omega
    · rw [if_neg p] at h1
      by_cases p2 : y.toNat < x.toNat
      · rw [if_pos p2] at h1; omega
      · rw [if_neg p2] at h1
        by_cases q : y.toNat < z.toNat
        · rw [if_pos (by omega)]; omega
        · rw [if_neg q] at h2
          by_cases q2 : z.toNat < y.toNat
          · rw [if_pos q2] at h2; omega
          · rw [if_neg q2] at h2
            rw [if_neg (by omega), if_neg (by omega)]
            exact compareBytes_trans a b d h1 h2

theorem bytes_inj' {a b : ByteArray} (h : a.data.toList = b.data.toList) : a = b := by
  obtain ⟨⟨x⟩⟩ := a
  obtain ⟨⟨y⟩⟩ := b
  simp at h
  rw [h]
theorem lawB : LawCmp bcmp where
  anti a b := compareBytes_anti _ _
  zero a b := (compareBytes_zero _ _).trans ⟨bytes_inj', fun h => by rw [h]⟩
  trans a b d := compareBytes_trans _ _ _

/-- Three orders, one behind the other. -/
theorem LawCmp.three {α β γ δ : Type} {c1 : β → β → Int} {c2 : γ → γ → Int} {c3 : δ → δ → Int} (h1 : LawCmp c1) (h2 : LawCmp c2) (h3 : LawCmp c3) (f : α → β) (g : α → γ) (h : α → δ)
    (inj : ∀ a b, f a = f b → g a = g b → h a = h b → a = b) : LawCmp fun a b => orI (c1 (f a) (f b)) (c2 (g a) (g b)) (c3 (h a) (h b)) where
  anti a b := by
    have e1 := h1.anti (f a) (f b); have e2 := h2.anti (g a) (g b); have e3 := h3.anti (h a) (h b)
    show orI _ _ _ = - orI _ _ _
    unfold orI
    rw [e1, e2, e3]
    split <;> split <;> (try split) <;> (try split) <;> omega
  zero a b := by
    have z1 := h1.zero (f a) (f b); have z2 := h2.zero (g a) (g b); have z3 := h3.zero (h a) (h b)
    constructor
    · intro e
      unfold orI at e
      split at e
      · split at e
        · exact inj a b (z1.1 ‹_›) (z2.1 ‹_›) (z3.1 e)
        · exact absurd e ‹_›
      · exact absurd e ‹_›
    · rintro rfl
      unfold orI
      rw [if_pos (z1.2 rfl), if_pos (z2.2 rfl)]
      exact z3.2 rfl
  trans a b d := by
    intro x y
    have key : ∀ {τ : Type} {c : τ → τ → Int}, LawCmp c → ∀ p q r : τ, (c p q = 0 → p = q) ∧ (c q r = 0 → q = r) ∧ (c p p = 0) ∧ (c p q < 0 → c q r < 0 → c p r < 0) := fun L p q r => ⟨(L.zero p q).1, (L.zero q r).1, (L.zero p p).2 rfl, L.trans p q r⟩
    obtain ⟨a1, a2, a3, a4⟩ := key h1 (f a) (f b) (f d)
    obtain ⟨b1, b2, b3, b4⟩ := key h2 (g a) (g b) (g d)
    obtain ⟨d1, d2, d3, d4⟩ := key h3 (h a) (h b) (h d)
    show orI _ _ _ < 0
    unfold orI at *
    by_cases p1 : c1 (f a) (f b) = 0
    · have q1 := a1 p1
      rw [if_pos p1] at x
      rw [q1]
      by_cases p2 : c1 (f b) (f d) = 0
      · rw [if_pos p2] at y ⊢
        by_cases r1 : c2 (g a) (g b) = 0
        · have s1 := b1 r1
          rw [if_pos r1] at x
          rw [s1]
          by_cases r2 : c2 (g b) (g d) = 0
          · rw [if_pos r2] at y ⊢
            exact d4 x y
          · rw [if_neg r2] at y ⊢
            exact y
        · rw [if_neg r1] at x
          by_cases r2 : c2 (g b) (g d) = 0
          · rw [← b2 r2, if_neg r1]
            exact x
          · rw [if_neg r2] at y
            have := b4 x y
            rw [if_neg (by omega)]
            exact this
      · rw [if_neg p2] at y ⊢
        exact y
    · rw [if_neg p1] at x
      by_cases p2 : c1 (f b) (f d) = 0
      · rw [← a2 p2, if_neg p1]
        exact x
      · rw [if_neg p2] at y
        have := a4 x y
        rw [if_neg (by omega)]
        exact this

theorem S23.eq_of {a b : S23} (h0 : a.f0 = b.f0) (h1 : a.f1 = b.f1) (h2 : a.f2 = b.f2) : a = b := by cases a; cases b; simp_all
theorem S25.eq_of {a b : S25} (h0 : a.f0 = b.f0) (h1 : a.f1 = b.f1) (h2 : a.f2 = b.f2) : a = b := by cases a; cases b; simp_all
theorem lawT : LawCmp cmpT := LawCmp.three lawI lawB lawB S23.f0 S23.f1 S23.f2 (fun _ _ => S23.eq_of)
theorem lawR : LawCmp cmpR := LawCmp.three lawT lawT lawT S25.f0 S25.f1 S25.f2 (fun _ _ => S25.eq_of)
instance : DecidableEq S23 := fun a b => decidable_of_iff (cmpT a b = 0) (lawT.zero a b)
instance : DecidableEq S25 := fun a b => decidable_of_iff (cmpR a b = 0) (lawR.zero a b)
end Go.Proofs.YtdjamphmndbmjaaGreatDoor.M

/- What many texts share: values of terms and triples, boxes, small words on worlds. -/
namespace Go.Proofs.YtdjamphmndbmjaaGreatDoor.M
open Go.RowKit Go.Proofs.YtdjamphmndbmjaaGreatDoorW.PrintWords Go.Proofs.YtdjamphmndbmjaaGreatDoorW.PrintLast Go.Proofs.YtdjamphmndbmjaaGreatDoorW.PrintMore
set_option linter.unusedVariables false
set_option linter.unusedSimpArgs false

theorem alloc_size1 (W : World) (o : Obj) : (W.alloc o).heap.size = W.heap.size + 1 := Array.size_push _
theorem stop_ {p : Prop} (h : Aside0 p) : p := h.out
/-- The value of a triple. -/
def aggR (x : S25) : Value := .agg #[.int .i64 x.f0.f0, .string x.f0.f1, .string x.f0.f2, .int .i64 x.f1.f0, .string x.f1.f1, .string x.f1.f2, .int .i64 x.f2.f0, .string x.f2.f1, .string x.f2.f2]
/-- Its cells. -/
def celR (x : S25) : Array Value := #[.int .i64 x.f0.f0, .string x.f0.f1, .string x.f0.f2, .int .i64 x.f1.f0, .string x.f1.f1, .string x.f1.f2, .int .i64 x.f2.f0, .string x.f2.f1, .string x.f2.f2]
theorem cell?_alloc_old {W : World} {a : Addr} {v : Value} (h : W.cell? a = some v) (o : Obj) : (W.alloc o).cell? a = some v := Lib.cell?_alloc_some o h
theorem cell_keep {W0 W W' : World} {p : Addr} {v : Value} (h : Below W0.heap.size W0 W) (hb : Below W.heap.size W W') (hc : W0.cell? p = some v) : W'.cell? p = some v := by
  have h1 : W.cell? p = some v := (h.cell (World.block_lt_of_cell? W0 _ hc)).trans hc
  exact (hb.cell (World.block_lt_of_cell? W _ h1)).trans h1
/-- A box's cells. -/
def Box (w : World) (b : Nat) (cs : Array Value) : Prop := ∀ (c : Nat) (v : Value), cs[c]? = some v → w.cell? ⟨b, c, none⟩ = some v
theorem Box.new (w : World) (cs : Array Value) (T : Nat) : Box (w.alloc (.cells cs T)) w.heap.size cs := fun c v h => (blk_cell (blk_new w _) c).trans h
theorem Box.keep {W0 W W' : World} {b : Nat} {cs : Array Value} (h : Below W0.heap.size W0 W) (hb : Below W.heap.size W W') (H : Box W0 b cs) : Box W' b cs := fun c v hc => cell_keep h hb (H c v hc)
/-- May terms stand where they do? -/
def shapeB (s p : Int) : Bool := decide (s ≠ 3) && decide (p = 1)
/-- An error as a number. -/
def codeE : Option Int → Int
  | none => 0
  | some n => n
theorem upto_succ {P : Nat → Prop} {i : Nat} (h : ∀ j, j < i → P j) (hi : P i) : ∀ j, j < i + 1 → P j := by
  intro j hj
  rcases Nat.lt_succ_iff_lt_or_eq.1 hj with hj | rfl
  · exact h j hj
  · exact hi
theorem chkT_ne {t : S23} {n : Int} (h : chkT t = some n) : n ≠ 0 := by
  unfold chkT at h
  split at h
  · split at h
    · cases h; decide
    · split at h
      · split at h
        · cases h
        · split at h
          · cases h
          · cases h; decide
      · cases h; decide
  · cases h; decide
theorem chkR_ne {t : S25} {n : Int} (h : chkR t = some n) : n ≠ 0 := by
  unfold chkR at h
  cases h0 : chkT t.f0 with
  | some e => rw [h0] at h; cases h; exact chkT_ne h0
  | none =>
    rw [h0] at h
    simp only at h
    cases h1 : chkT t.f1 with
    | some e => rw [h1] at h; cases h; exact chkT_ne h1
    | none =>
      rw [h1] at h
      simp only at h
      cases h2 : chkT t.f2 with
      | some e => rw [h2] at h; cases h; exact chkT_ne h2
      | none =>
        rw [h2] at h
        simp only at h
        split at h
        · cases h
        · cases h; decide
end Go.Proofs.YtdjamphmndbmjaaGreatDoor.M

/- slices.IndexFunc and slices.DeleteFunc at []api.Triple, under any function that answers a plain question of a triple. By hand. -/
namespace Go.Proofs.YtdjamphmndbmjaaGreatDoor.M
open Go.RowKit Go.Proofs.YtdjamphmndbmjaaGreatDoorW.PrintWords Go.Proofs.YtdjamphmndbmjaaGreatDoorW.PrintLast Go.Proofs.YtdjamphmndbmjaaGreatDoorW.PrintMore
set_option linter.unusedVariables false
set_option linter.unusedSimpArgs false

/-- A function value answers a question of a triple, at any world that keeps what lies below. -/
def Asks (g : Nat) (lb : Array Value) (p : S25 → Bool) (base : Nat) (w0 : World) : Prop :=
  ∀ (x : S25) (W : World), base ≤ W.heap.size → Below base w0 W → Calls Tryz.prog g (#[aggR x] ++ lb) W fun e w' => e = .returned (.bool (p x)) ∧ Below W.heap.size W w'

def firstAt (p : S25 → Bool) (l : List S25) (i : Nat) : Prop := i ≤ l.length ∧ (∀ k (h : k < l.length), k < i → p l[k] = false) ∧ (∀ h : i < l.length, p l[i] = true)

set_option maxHeartbeats 4000000 in
set_option maxRecDepth 100000 in
theorem idxR_calls (g : Nat) (lb : Array Value) (p : S25 → Bool) (base : Nat) (w0 : World) (A : Option Addr) (cap : Nat) (l : List S25) (w : World)
    (eg : ∀ args w, (callFunc g args).run Tryz.prog w = .ok (.enter g args) w) (hr : Kd.C k25 w A l.length l) (hb : Below base w0 w) (hbase : base ≤ w.heap.size)
    (hq : Asks g lb p base w0) :
    Calls Tryz.prog 177 #[.slice A l.length cap, .func (.func g) #[] lb] w fun e w' => (∃ i : Nat, firstAt p l i ∧ e = .returned (.int .i64 (if i < l.length then (i : Int) else -1))) ∧ Below w.heap.size w w' := by
  have HR := Aside0.mk hr
  have HQ := Aside0.mk hq
  have HB0 := Aside0.mk hb
  have HBASE := Aside0.mk hbase
  have hbig : l.length ≤ 9223372036854775807 := by have := hr.2.1; simpa [maxLen] using this
  clear hr hq hb hbase
  go_enter Tryz.func177, Tryz.ntmps177
  go_wp2
  go_loopg [5, 8] l.length (fun gg _ s8 wr => ∃ kk : Nat, kk ≤ l.length ∧ l.length - kk ≤ gg ∧ s8 = .int .i64 kk ∧ Aside0 (Below w.heap.size w wr) ∧ Aside0 (∀ k (h : k < l.length), k < kk → p l[k] = false))
  case atStart => exact ⟨0, Nat.zero_le _, by omega, rfl, ⟨Below.refl _ _⟩, ⟨fun k _ hk => absurd hk (Nat.not_lt_zero _)⟩⟩
  case round =>
    obtain ⟨kk, hkk, hg, rfl, HB, HA⟩ := hrel
    by_cases hlt : kk < l.length
    · have hltz : (kk : Int) < (l.length : Int) := by omega
      obtain ⟨ad, e0, h0, h1, h2, h3, h4, h5, h6, h7, h8⟩ := at_T25 (Kd.C_below HR.out HB.out) (kk : Int) (by omega) (by omega)
      subst e0
      rw [rd_T25_at l kk hlt] at h0 h1 h2 h3 h4 h5 h6 h7 h8
      rw [Int.toNat_natCast] at h0 h1 h2 h3 h4 h5 h6 h7 h8
      have hcall := HQ.out l[kk]
      have hpx := Aside0.mk (fun (b : Bool) (hb : p l[kk] = b) => hb)
      generalize hy : p l[kk] = y at hcall
      have HY := Aside0.mk hy
      clear hy hpx
      unfold aggR at hcall
      generalize l[kk] = x at h0 h1 h2 h3 h4 h5 h6 h7 h8 hcall
      have HC := Aside0.mk hcall
      clear hcall
      cases y with
      | true =>
        go_wp2_with (go_at_fn g; refine (HC.out _ (Nat.le_trans HBASE.out HB.out.size) (HB0.out.trans (HB.out.mono HBASE.out))).mono ?_; rintro e w' ⟨rfl, hbb⟩; have HB1 := Aside0.mk hbb; clear hbb)
        go_ret
        exact ⟨⟨kk, ⟨hkk, HA.out, fun _ => HY.out⟩, by rw [if_pos hlt]; rfl⟩, below_step HB.out HB1.out⟩
      | false =>
        go_wp2_with (go_at_fn g; refine (HC.out _ (Nat.le_trans HBASE.out HB.out.size) (HB0.out.trans (HB.out.mono HBASE.out))).mono ?_; rintro e w' ⟨rfl, hbb⟩; have HB1 := Aside0.mk hbb; clear hbb)
        go_roundg (l.length - (kk + 1))
        case measure => omega
        case rel =>
          refine ⟨kk + 1, by omega, by omega, by go_num, ⟨below_step HB.out HB1.out⟩, ⟨fun k h hk => ?_⟩⟩
          by_cases e : k = kk
          · subst e
            exact HY.out
          · exact HA.out k h (by omega)
    · have hltz : ¬ (kk : Int) < (l.length : Int) := by omega
      obtain rfl : kk = l.length := by omega
      go_wp2
      go_ret
      exact ⟨⟨l.length, ⟨Nat.le_refl _, HA.out, fun h => absurd h (Nat.lt_irrefl _)⟩, by rw [if_neg (Nat.lt_irrefl _)]; rfl⟩, HB.out⟩

/-- The own row in another world, its block's cells up to the row's length the same. -/
theorem own_again {w : World} {base g i cap : Nat} {l : List S25} (h : Kd.R k25 25 w base (fun _ => True) (.slice (some ⟨g, 0, none⟩) i cap) l) (vs : List Value) (o : Nat) (ho : i * 9 ≤ o) (hfit : o + vs.length ≤ cap * 9) :
    Kd.R k25 25 (w.setCells g o vs) base (fun _ => True) (.slice (some ⟨g, 0, none⟩) i cap) l := by
  obtain ⟨h0, inner, ⟨hm, hown⟩, hr⟩ := h
  refine ⟨h0, inner, ⟨hm, ?_⟩, ?_⟩
  · rcases hown with ⟨hv, _⟩ | ⟨g', cap', cur, hv, hb, hh, hnc, hcm, hcs, htk⟩
    · cases hv
    · injection hv with ha hn hc
      injection ha with ha
      injection ha with hg
      subst hg; subst hc
      obtain ⟨cur', h1, h2, h3⟩ := setCells_row vs o w cur hh (by rw [hcs]; exact hfit)
      refine .inr ⟨g, cap, cur', by rw [hn], hb, h1, by omega, hcm, by rw [h2, hcs], ?_⟩
      have hle : l.length * k25.sz ≤ o := by rw [← hn]; exact ho
      have ho2 : o ≤ cur.toList.length := by rw [Array.length_toList, hcs]; have : cap * k25.sz = cap * 9 := rfl; omega
      rw [h3, List.append_assoc, List.take_append_of_le_length (by rw [List.length_take]; omega), List.take_take, Nat.min_eq_left hle]
      exact htk
  · exact hr.imp_ (fun x cs hx => by obtain rfl := k25_openM hx; exact k25_mkM _ _ _ x)

theorem clear_none (w : World) (ty : TypeId) (A : Option Addr) (c : Nat) : (Builtin.clear_ #[26] ty #[.slice A 0 c]).run Tryz.prog w = .ok (.tuple #[]) w := by
  cases A <;> simp [Builtin.clear_, run_underlying Tryz.underlying26]
theorem clear_run {P : Program} (w : World) (t e ty : TypeId) (z : Value) (ht : P.underlying t = some (.slice e)) (hv : ∀ w, (zeroValue e).run P w = .ok z w) (hz : z.cells.size = 9) (h1 : ∀ j : Nat, Value.oneCell' (z.cells[j]!) = true) (b o n c : Nat) (hn : 0 < n)
    (hc : ∀ j, j < n * 9 → (w.cell? ⟨b, o + j, none⟩).isSome = true) (hf : ∀ j, j < n * 9 → w.frozen? ⟨b, o + j, none⟩ = false) :
    (Builtin.clear_ #[t] ty #[.slice (some ⟨b, o, none⟩) n c]).run P w = .ok (.tuple #[]) (w.setCells b o (Builtin.zeroCells z.cells n).toList) := by
  have hlen : (Builtin.zeroCells z.cells n).toList.length = n * 9 := by simp [Builtin.zeroCells, hz]
  have hst := run_storeCells_cells (P := P) b o (Builtin.zeroCells z.cells n).toList 0 w (by rw [hlen]; simpa using hc) (by rw [hlen]; simpa using hf) (by
    intro v hv'
    simp only [Builtin.zeroCells, Array.toList_map, List.mem_map] at hv'
    obtain ⟨i, _, rfl⟩ := hv'
    exact h1 _)
  simp only [Nat.add_zero] at hst
  obtain ⟨m, rfl⟩ : ∃ m, n = m + 1 := ⟨n - 1, by omega⟩
  simp [Builtin.clear_, run_underlying ht, hv, hst]
theorem own_block {w : World} {base gb n cap : Nat} {m : List S25} (h : Kd.R k25 25 w base (fun _ => True) (.slice (some ⟨gb, 0, none⟩) n cap) m) :
    ∃ cur, w.heap[gb]? = some (.cells cur 25 (0, 0)) ∧ cur.size = cap * 9 ∧ n ≤ cap := by
  obtain ⟨h0, inner, ⟨hm, hown⟩, hr⟩ := h
  rcases hown with ⟨hv, _⟩ | ⟨g', cap', cur, hv, hb, hh, hnc, hcm, hcs, htk⟩
  · cases hv
  · injection hv with ha hn hc
    injection ha with ha
    injection ha with hg
    subst hg; subst hc
    exact ⟨cur, hh, hcs, by omega⟩
theorem zeroR : ∀ w, (zeroValue 25).run Tryz.prog w = .ok (.agg #[(.int .i64 0), (.string ⟨#[]⟩), (.string ⟨#[]⟩), (.int .i64 0), (.string ⟨#[]⟩), (.string ⟨#[]⟩), (.int .i64 0), (.string ⟨#[]⟩), (.string ⟨#[]⟩)]) w := by
  intro w
  obtain ⟨i, hi, hz⟩ := Option.map_eq_some_iff.1 xinfoT
  have h0 := congrArg Prod.fst hz
  simp only at h0
  simp [zeroValue, typeInfo, hi, h0]
theorem find_first {p : S25 → Bool} {l : List S25} {i : Nat} (h : firstAt p l i) : l.findIdx p = i := by
  obtain ⟨h1, h2, h3⟩ := h
  rcases Nat.lt_or_ge i l.length with h | h
  · exact (List.findIdx_eq h).2 ⟨h3 h, fun j hj => h2 j (by omega) hj⟩
  · obtain rfl : i = l.length := by omega
    exact List.findIdx_eq_length.2 fun x hx => by
      obtain ⟨k, hk, rfl⟩ := List.getElem_of_mem hx
      exact h2 k hk hk
theorem idxR_first (g : Nat) (lb : Array Value) (p : S25 → Bool) (base : Nat) (w0 : World) (A : Option Addr) (cap : Nat) (l : List S25) (w : World)
    (eg : ∀ args w, (callFunc g args).run Tryz.prog w = .ok (.enter g args) w) (hr : Kd.C k25 w A l.length l) (hb : Below base w0 w) (hbase : base ≤ w.heap.size)
    (hq : Asks g lb p base w0) :
    Calls Tryz.prog 177 #[.slice A l.length cap, .func (.func g) #[] lb] w fun e w' => e = .returned (.int .i64 (if l.findIdx p < l.length then ((l.findIdx p : Nat) : Int) else -1)) ∧ Below w.heap.size w w' :=
  (idxR_calls g lb p base w0 A cap l w eg hr hb hbase hq).mono fun e w' ⟨⟨i, hi, he⟩, hb⟩ => ⟨by rw [he, find_first hi], hb⟩

theorem take_one {α : Type} (l : List α) (i : Nat) (h : i < l.length) : l.take (i + 1) = l.take i ++ [l[i]] := by
  rw [List.take_add_one, List.getElem?_eq_getElem h]; rfl
theorem del_start {l : List S25} {p : S25 → Bool} {i : Nat} (h : i < l.length) (hi : l.findIdx p = i) : l.take i = (l.take (i + 1)).filter fun x => !p x := by
  obtain ⟨h1, h2⟩ := (List.findIdx_eq h).1 hi
  rw [take_one l i h, List.filter_append, List.filter_cons_of_neg (by simp [h1]), List.filter_nil, List.append_nil, eq_comm, List.filter_eq_self]
  intro x hx
  obtain ⟨k, hk, rfl⟩ := List.getElem_of_mem hx
  rw [List.length_take] at hk
  rw [List.getElem_take, h2 k (by omega)]
  rfl
theorem del_at {l m : List S25} {j : Nat} (hm : m.length = l.length) (h : j < l.length) (hd : m.drop j = l.drop j) : m[j]'(by omega) = l[j] ∧ m.drop (j + 1) = l.drop (j + 1) := by
  have h1 := List.drop_eq_getElem_cons (l := m) (i := j) (by omega)
  have h2 := List.drop_eq_getElem_cons (l := l) (i := j) h
  rw [hd, h2] at h1
  injection h1 with h1 h3
  exact ⟨h1.symm, h3.symm⟩

theorem own_cells {w : World} {base gb n cap : Nat} {m : List S25} (h : Kd.R k25 25 w base (fun _ => True) (.slice (some ⟨gb, 0, none⟩) n cap) m) (j : Nat) (hj : j < m.length) :
    w.cell? ⟨gb, j * 9, none⟩ = some (.int .i64 m[j].f0.f0) ∧ w.cell? ⟨gb, j * 9 + 1, none⟩ = some (.string m[j].f0.f1) ∧ w.cell? ⟨gb, j * 9 + 2, none⟩ = some (.string m[j].f0.f2) ∧ w.cell? ⟨gb, j * 9 + 3, none⟩ = some (.int .i64 m[j].f1.f0) ∧ w.cell? ⟨gb, j * 9 + 4, none⟩ = some (.string m[j].f1.f1) ∧ w.cell? ⟨gb, j * 9 + 5, none⟩ = some (.string m[j].f1.f2) ∧ w.cell? ⟨gb, j * 9 + 6, none⟩ = some (.int .i64 m[j].f2.f0) ∧ w.cell? ⟨gb, j * 9 + 7, none⟩ = some (.string m[j].f2.f1) ∧ w.cell? ⟨gb, j * 9 + 8, none⟩ = some (.string m[j].f2.f2) := by
  obtain ⟨ad, e0, hc⟩ := at_T25 (Kd.R_reads' h).2.2 (j : Int) (by omega) (by omega)
  injection e0 with e0
  subst e0
  have ha : Addr.add ⟨gb, 0, none⟩ (j * 9) = ⟨gb, j * 9, none⟩ := by simp [Addr.add]; intro h; omega
  rw [rd_T25_at m j hj, Int.toNat_natCast, ha] at hc
  exact hc

set_option maxHeartbeats 8000000 in
set_option maxRecDepth 100000 in
theorem delR_calls (g : Nat) (lb : Array Value) (p : S25 → Bool) (base : Nat) (w0 : World) (A : Option Addr) (cap : Nat) (l : List S25) (w : World)
    (eg : ∀ args w, (callFunc g args).run Tryz.prog w = .ok (.enter g args) w) (hr : Kd.R k25 25 w base (fun _ => True) (.slice A l.length cap) l) (hb : Below base w0 w) (hbase : base ≤ w.heap.size)
    (hq : Asks g lb p base w0) :
    Calls Tryz.prog 146 #[.slice A l.length cap, .func (.func g) #[] lb] w fun e w' => (∃ v, e = .returned v ∧ Kd.R k25 25 w' base (fun _ => True) v (l.filter fun x => !p x)) ∧ Below base w0 w' ∧ w.heap.size ≤ w'.heap.size := by
  have hidx := idxR_first g lb p base w0 A cap l w eg (Kd.R_reads' hr).2.2 hb hbase hq
  have hcl : l.length ≤ cap := (Kd.R_reads' hr).2.1
  have hcap : cap ≤ 9223372036854775807 := by
    obtain ⟨inner, _, hown⟩ := Kd.R_own hr
    rcases hown with ⟨hv, _⟩ | ⟨g', cap', cur, hv, _, _, _, hcm, _⟩
    · injection hv with _ _ hc; omega
    · injection hv with _ _ hc; subst hc; simpa [maxLen] using hcm
  have HR := Aside0.mk hr
  have HQ := Aside0.mk hq
  have HB0 := Aside0.mk hb
  have HBASE := Aside0.mk hbase
  clear hr hq hb hbase
  by_cases hex : l.findIdx p < l.length
  · rw [if_pos hex] at hidx
    obtain ⟨gb, rfl⟩ : ∃ gb, A = some (⟨gb, 0, none⟩ : Addr) := by
      obtain ⟨g', c', hv, _⟩ := Kd.R_form HR.out (by omega)
      injection hv with ha
      exact ⟨g', ha⟩
    obtain ⟨i0, hi0⟩ : ∃ i0, l.findIdx p = i0 := ⟨_, rfl⟩
    rw [hi0] at hidx hex
    have HI0 := Aside0.mk hi0
    clear hi0
    have hGB : base ≤ gb := Kd.R_base HR.out gb rfl
    go_enter Tryz.func146, Tryz.ntmps146
    go_wp2_with (go_at_call 177; refine hidx.mono ?_; rintro e w' ⟨rfl, hbb⟩; have HB1 := Aside0.mk hbb; clear hbb)
    go_loopg [5, 6, 7] l.length (fun gg s5 s6 _ wr => ∃ (i j : Nat) (m : List S25), i ≤ j ∧ j ≤ l.length ∧ l.length - j ≤ gg ∧ s5 = .int .i64 i ∧ s6 = .int .i64 j ∧ Aside0 (Kd.R k25 25 wr base (fun _ => True) (.slice (some ⟨gb, 0, none⟩) l.length cap) m) ∧ Aside0 (m.take i = (l.take j).filter fun x => !p x) ∧ Aside0 (m.drop j = l.drop j) ∧ Aside0 (Below base w0 wr ∧ w.heap.size ≤ wr.heap.size))
    case atStart =>
      exact ⟨i0, i0 + 1, l, by omega, by omega, by omega, rfl, by go_num, ⟨Kd.R_below HR.out HB1.out⟩, ⟨del_start hex HI0.out⟩, ⟨rfl⟩, ⟨HB0.out.trans (HB1.out.mono HBASE.out), HB1.out.size⟩⟩
    case round =>
      obtain ⟨i, j, m, hij, hjn, hgg, rfl, rfl, HM, HT, HD, HB⟩ := hrel
      have hml : m.length = l.length := (Kd.R_reads' HM.out).1.symm
      by_cases hlt : j < l.length
      · have hltz : (j : Int) < (l.length : Int) := by omega
        obtain ⟨hmj, hdj⟩ := del_at hml hlt HD.out
        obtain ⟨h0, h1, h2, h3, h4, h5, h6, h7, h8⟩ := own_cells HM.out j (by omega)
        rw [hmj] at h0 h1 h2 h3 h4 h5 h6 h7 h8
        have hcall := HQ.out l[j]
        obtain ⟨y, hy⟩ : ∃ y, p l[j] = y := ⟨_, rfl⟩
        rw [hy] at hcall
        have HY := Aside0.mk hy
        clear hy
        have HMJ := Aside0.mk hmj
        have HDJ := Aside0.mk hdj
        clear hmj hdj
        unfold aggR at hcall
        obtain ⟨x, hx⟩ : ∃ x, l[j] = x := ⟨_, rfl⟩
        rw [hx] at h0 h1 h2 h3 h4 h5 h6 h7 h8 hcall
        have HX := Aside0.mk hx
        clear hx
        have HC := Aside0.mk hcall
        clear hcall
        have hbW : Below base w0 (wr.alloc (.cells (celR x) 25)) := HB.out.1.alloc (Nat.le_trans HBASE.out HB.out.2) _
        have hbs : base ≤ (wr.alloc (.cells (celR x) 25)).heap.size := by have := HB.out.2; have := HBASE.out; rw [alloc_size1]; omega
        have HBW := Aside0.mk hbW
        have HBS := Aside0.mk hbs
        clear hbW hbs
        cases y with
        | true =>
          go_wp2_with (go_at_fn g; refine (HC.out _ HBS.out HBW.out).mono ?_; rintro e w' ⟨rfl, hbb⟩; have HB2 := Aside0.mk hbb; clear hbb)
          go_roundg (l.length - (j + 1))
          case measure => omega
          case rel =>
            refine ⟨i, j + 1, m, by omega, by omega, Nat.le_refl _, rfl, by go_num, ⟨Kd.R_below (Kd.R_alloc HM.out _) HB2.out⟩, ⟨?_⟩, ⟨HDJ.out⟩, ⟨HBW.out.trans (HB2.out.mono HBS.out), ?_⟩⟩
            · rw [take_one l j hlt, List.filter_append, List.filter_cons_of_neg (by rw [HY.out]; simp), List.filter_nil, List.append_nil]
              exact HT.out
            · have h1 := HB2.out.size
              have h2 := HB.out.2
              rw [alloc_size1] at h1
              omega
        | false =>
          go_wp2_with (first | (go_at_fn g; refine (HC.out _ HBS.out HBW.out).mono ?_; rintro e w' ⟨rfl, hbb⟩; have HB2 := Aside0.mk hbb; have hcell := fun (c : Nat) (v : Value) (h : (celR x)[c]? = some v) => (Below.cell hbb (p := ⟨wr.heap.size, c, none⟩) (by rw [alloc_size1]; exact Nat.lt_succ_self _)).trans ((blk_cell (blk_new wr (.cells (celR x) 25)) c).trans h); have b0 := hcell 0 (.int .i64 x.f0.f0) rfl; have b1 := hcell 1 (.string x.f0.f1) rfl; have b2 := hcell 2 (.string x.f0.f2) rfl; have b3 := hcell 3 (.int .i64 x.f1.f0) rfl; have b4 := hcell 4 (.string x.f1.f1) rfl; have b5 := hcell 5 (.string x.f1.f2) rfl; have b6 := hcell 6 (.int .i64 x.f2.f0) rfl; have b7 := hcell 7 (.string x.f2.f1) rfl; have b8 := hcell 8 (.string x.f2.f2) rfl; clear hcell; have hs1 := own_cells (Kd.R_below (Kd.R_alloc HM.out _) hbb) i (by omega); have HS1 := Aside0.mk hs1; clear hs1; clear hbb) | ((with_reducible refine gate_store (t := 25) (p := 33) rfl ?_); refine stop_ ?_))
          refine ⟨?_⟩
          refine Kd.R_store k25 (w0 := w0) (o' := i * 9) base rfl rfl 25 (.tmp 33) (.tmp 32) rfl 25 (i : Int) 0 m x (aggR x) (celR x).toList (celR (m[i]'(by omega))).toList (fun _ => True) (fun _ => False) rfl rfl rfl rfl ?at_ ?a1 (Kd.R_below (Kd.R_alloc HM.out _) HB2.out) ?a0 ?ai rfl ?acc ?aj ?aM (fun _ h => h.elim) (HBW.out.trans (HB2.out.mono HBS.out)) ?_
          case at_ => obtain ⟨i, hi, hz⟩ := Option.map_eq_some_iff.1 xinfoT; have h0 := congrArg (fun q => q.2.1) hz; rw [hi]; exact congrArg some h0
          case a1 => intro q hq; simp only [celR, List.mem_cons, List.not_mem_nil, or_false] at hq; rcases hq with rfl | rfl | rfl | rfl | rfl | rfl | rfl | rfl | rfl <;> rfl
          case a0 => omega
          case ai => omega
          case acc =>
            obtain ⟨s0, s1, s2, s3, s4, s5, s6, s7, s8⟩ := HS1.out
            intro j u hu
            rw [Int.toNat_natCast]
            rcases j with _ | _ | _ | _ | _ | _ | _ | _ | _ | j
            · exact s0.trans hu
            · exact s1.trans hu
            · exact s2.trans hu
            · exact s3.trans hu
            · exact s4.trans hu
            · exact s5.trans hu
            · exact s6.trans hu
            · exact s7.trans hu
            · exact s8.trans hu
            · cases hu
          case aj => exact Nat.le_refl _
          case aM => exact k25_mkM _ _ _ x
          intro w3 hM3 hB3 hg3
          have HM3 := Aside0.mk hM3
          have HB3 := Aside0.mk (And.intro hB3 hg3.size)
          clear hM3 hB3 hg3
          go_wp2
          go_roundg (l.length - (j + 1))
          case measure => omega
          case rel =>
            refine ⟨i + 1, j + 1, m.set i x, by omega, by omega, Nat.le_refl _, by go_num, by go_num, ⟨by rw [← Int.toNat_natCast i]; exact HM3.out⟩, ⟨?_⟩, ⟨?_⟩, ⟨HB3.out.1, ?_⟩⟩
            · rw [take_one l j hlt, List.filter_append, ← HT.out, HX.out, List.filter_cons_of_pos (by rw [← HX.out, HY.out]; rfl), List.filter_nil]
              rw [take_one (m.set i x) i (by rw [List.length_set]; omega), List.take_set_of_le (Nat.le_refl _), List.getElem_set_self]
            · rw [List.drop_set_of_lt (by omega)]
              exact HDJ.out
            · have h1 := HB2.out.size
              have h2 := HB.out.2
              have h3 := HB3.out.2
              rw [alloc_size1] at h1
              omega
      · have hltz : ¬ (j : Int) < (l.length : Int) := by omega
        obtain rfl : j = l.length := by omega
        have hicap : (i : Int) ≤ cap := by omega
        have htake : m.take i = l.filter fun x => !p x := by rw [HT.out, List.take_length]
        have HTK := Aside0.mk htake
        have hclr0 : ∀ (W : World) ty A c, (Builtin.clear_ #[26] ty #[.slice A 0 c]).run Tryz.prog W = .ok (.tuple #[]) W := fun W ty A c => clear_none W ty A c
        clear htake
        rcases Nat.lt_or_ge i l.length with hi | hi
        · obtain ⟨cur, hcur, hsz, hnc⟩ := own_block HM.out
          obtain ⟨vs, hvs, hclr⟩ : ∃ vs : List Value, vs.length = (l.length - i) * 9 ∧ ∀ ty, (Builtin.clear_ #[26] ty #[.slice (some ⟨gb, i * 9, none⟩) (l.length - i) (cap - i)]).run Tryz.prog wr = .ok (.tuple #[]) (wr.setCells gb (i * 9) vs) := by
            refine ⟨(Builtin.zeroCells (Value.agg #[(.int .i64 0), (.string ⟨#[]⟩), (.string ⟨#[]⟩), (.int .i64 0), (.string ⟨#[]⟩), (.string ⟨#[]⟩), (.int .i64 0), (.string ⟨#[]⟩), (.string ⟨#[]⟩)]).cells (l.length - i)).toList, by simp [Builtin.zeroCells, Value.cells], fun ty => clear_run wr 26 25 ty _ Tryz.underlying26 zeroR rfl ?_ gb (i * 9) (l.length - i) (cap - i) (by omega) ?_ ?_⟩
            · intro j
              rcases j with _ | _ | _ | _ | _ | _ | _ | _ | _ | j <;> rfl
            · intro j hj
              rw [cell_of_row wr gb _ cur 25 (0, 0) hcur]
              simp
              omega
            · intro j hj
              exact blk_frozen hcur _
          have HV := Aside0.mk hvs
          clear hcur hsz hnc hvs
          go_wp2
          go_ret
          refine ⟨⟨_, rfl, ?_⟩, ?_, ?_⟩
          · rw [← HTK.out]
            exact own_again (Kd.R_take HM.out (by omega)) vs (i * 9) (Nat.le_refl _) (by rw [HV.out]; omega)
          · exact HB.out.1.trans ⟨(setCells_same gb vs (i * 9) wr).1, (setCells_same gb vs (i * 9) wr).2.1, (setCells_same gb vs (i * 9) wr).2.2.1, by rw [(setCells_same gb vs (i * 9) wr).2.2.2]; exact Nat.le_refl _, fun k hk => setCells_far _ _ k (by omega)⟩
          · rw [(setCells_same gb vs (i * 9) wr).2.2.2]; exact HB.out.2
        · obtain rfl : i = l.length := by omega
          go_wp2
          all_goals
            go_ret
            refine ⟨⟨_, rfl, ?_⟩, HB.out.1, HB.out.2⟩
            rw [← HTK.out]
            first | exact Kd.R_take HM.out (by omega) | (have hm_ := HM.out; rw [show cap = l.length by omega] at hm_; exact Kd.R_take hm_ (by omega))
  · rw [if_neg hex] at hidx
    have HX := Aside0.mk hex
    clear hex
    go_enter Tryz.func146, Tryz.ntmps146
    go_wp2_with (go_at_call 177; refine hidx.mono ?_; rintro e w' ⟨rfl, hbb⟩; have HB1 := Aside0.mk hbb; clear hbb)
    go_ret
    refine ⟨⟨_, rfl, ?_⟩, HB0.out.trans (HB1.out.mono HBASE.out), HB1.out.size⟩
    have : (l.filter fun x => !p x) = l := by
      rw [List.filter_eq_self]
      intro x hx
      have := List.findIdx_eq_length.1 (Nat.le_antisymm List.findIdx_le_length (Nat.le_of_not_lt HX.out)) x hx
      rw [this]
      rfl
    rw [this]
    exact Kd.R_below HR.out HB1.out
end Go.Proofs.YtdjamphmndbmjaaGreatDoor.M

/- slices.BinarySearchFunc at []api.Triple under triple.Compare, over a set that is sorted. By hand. -/
namespace Go.Proofs.YtdjamphmndbmjaaGreatDoor.M
open Go.RowKit Go.Proofs.YtdjamphmndbmjaaGreatDoorW.PrintWords Go.Proofs.YtdjamphmndbmjaaGreatDoorW.PrintLast Go.Proofs.YtdjamphmndbmjaaGreatDoorW.PrintMore
set_option linter.unusedVariables false
set_option linter.unusedSimpArgs false

open Go.Sort

/-- What a set owes: at most 200, each right, each above the one ahead. -/
theorem sortedFrom_cons {p : Option S25} {t : S25} {l : List S25} (h : sortedFrom p (t :: l) = none) : chkR t = none ∧ (∀ q, p = some q → cmpR q t < 0) ∧ sortedFrom (some t) l = none := by
  unfold sortedFrom at h
  cases hc : chkR t with
  | some e => rw [hc] at h; cases h
  | none =>
    rw [hc] at h
    cases p with
    | none =>
      simp only [Bool.false_eq_true, if_false] at h
      exact ⟨rfl, fun q hq => (by cases hq), h⟩
    | some q =>
      by_cases hq : 0 ≤ cmpR q t
      · simp only [hq, decide_true, if_true] at h
        cases h
      · simp only [hq, decide_false, Bool.false_eq_true, if_false] at h
        refine ⟨rfl, fun q' hq' => ?_, h⟩
        injection hq' with hq'
        subst hq'
        omega
theorem sortedFrom_none : ∀ (l : List S25) (p : Option S25), sortedFrom p l = none → (∀ q, p = some q → ∀ x ∈ l, cmpR q x < 0) ∧ (∀ x ∈ l, chkR x = none) ∧ l.Pairwise (fun a b => cmpR a b < 0)
  | [], p => fun _ => ⟨fun _ _ _ hx => (by cases hx), fun _ hx => (by cases hx), List.Pairwise.nil⟩
  | t :: l, p => fun h => by
    obtain ⟨hc, hp, h⟩ := sortedFrom_cons h
    obtain ⟨h1, h2, h3⟩ := sortedFrom_none l (some t) h
    refine ⟨fun q hq x hx => ?_, fun x hx => ?_, List.Pairwise.cons (fun x hx => h1 t rfl x hx) h3⟩
    · have hqt := hp q hq
      rcases List.mem_cons.1 hx with rfl | hx
      · exact hqt
      · exact lawR.trans q t x hqt (h1 t rfl x hx)
    · rcases List.mem_cons.1 hx with rfl | hx
      · exact hc
      · exact h2 x hx
theorem sortedR_none {l : List S25} (h : sortedR l = none) : l.length ≤ 200 ∧ (∀ x ∈ l, chkR x = none) ∧ l.Pairwise (fun a b => cmpR a b < 0) := by
  unfold sortedR at h
  split at h
  · cases h
  · obtain ⟨_, h2, h3⟩ := sortedFrom_none l none h
    exact ⟨by omega, h2, h3⟩

/-- The cells of a triple. -/
def encR (x : S25) : List Value := [.int .i64 x.f0.f0, .string x.f0.f1, .string x.f0.f2, .int .i64 x.f1.f0, .string x.f1.f1, .string x.f1.f2, .int .i64 x.f2.f0, .string x.f2.f1, .string x.f2.f2]

theorem grown_cell {w : World} {a : Addr} {v : Value} (h : w.cell? a = some v) (n : Nat) (os : Array Obj) : (grow (w.drewN n) os).cell? a = some v := cell_grown (World.block_lt_of_cell? w a h) h n os
/-- A box that was laid at the end of the world w. -/
theorem box_grown {w wr : World} {cs : List Value} {T : Nat} (h : ∃ q os, wr = grow ((w.alloc (.cells cs.toArray T)).drewN q) os) (c : Nat) (v : Value) (hc : cs[c]? = some v) (n : Nat) (os : Array Obj) : (grow (wr.drewN n) os).cell? ⟨w.heap.size, c, none⟩ = some v := by
  obtain ⟨q, os', rfl⟩ := h
  refine grown_cell (grown_cell ?_ q os') n os
  exact (blk_cell (blk_new w (.cells cs.toArray T)) c).trans (by simpa using hc)
theorem grow_below (w : World) (n : Nat) (os : Array Obj) : Below w.heap.size w (grow (w.drewN n) os) :=
  ⟨rfl, rfl, rfl, by show w.heap.size ≤ (w.heap ++ os).size; rw [Array.size_append]; omega, fun k hk => by show (w.heap ++ os)[k]? = w.heap[k]?; rw [Array.getElem?_append_left hk]⟩
theorem grown_again {w wr : World} {T : Nat} {cs : Array Value} (h : ∃ q os, wr = grow ((w.alloc (.cells cs T)).drewN q) os) (n : Nat) (os : Array Obj) : ∃ q os', grow (wr.drewN n) os = grow ((w.alloc (.cells cs T)).drewN q) os' := by
  obtain ⟨q, os', rfl⟩ := h
  refine ⟨q + n, os' ++ os, ?_⟩
  show grow (grow (((w.alloc (.cells cs T)).drewN q).drewN n) os') os = _
  rw [grow_grow, World.drewN_drewN]
/-- A block that was laid ahead is one of the new ones. -/
theorem alloc_grown {w w' : World} {o : Obj} (h : ∃ q os, w' = grow ((w.alloc o).drewN q) os) : ∃ q os, w' = grow (w.drewN q) os := by
  obtain ⟨q, os, rfl⟩ := h
  refine ⟨q, #[o] ++ os, ?_⟩
  have e : (w.heap.push o) ++ os = w.heap ++ (#[o] ++ os) := by rw [← Array.append_assoc]; rfl
  show World.mk ((w.heap.push o) ++ os) _ _ _ _ = World.mk (w.heap ++ (#[o] ++ os)) _ _ _ _
  rw [e]
  rfl
theorem grown_below {w w' : World} (h : ∃ q os, w' = grow (w.drewN q) os) : Below w.heap.size w w' := by
  obtain ⟨q, os, rfl⟩ := h
  exact grow_below w q os
theorem below_all {l : List S25} {t : S25} (hs : l.Pairwise (fun a b => cmpR a b < 0)) (m : Nat) (hm : m < l.length) (h : cmpR l[m] t < 0) (k : Nat) (hk : k < l.length) (hkm : k ≤ m) : cmpR l[k] t < 0 := by
  rcases Nat.lt_or_ge k m with h' | h'
  · exact lawR.trans _ _ _ (List.pairwise_iff_getElem.1 hs k m hk hm h') h
  · obtain rfl : k = m := by omega
    exact h
theorem above_all {l : List S25} {t : S25} (hs : l.Pairwise (fun a b => cmpR a b < 0)) (m : Nat) (hm : m < l.length) (h : 0 ≤ cmpR l[m] t) (k : Nat) (hk : k < l.length) (hkm : m ≤ k) : 0 ≤ cmpR l[k] t := by
  rcases Nat.lt_or_ge m k with h' | h'
  · have h1 := List.pairwise_iff_getElem.1 hs m k hm hk h'
    rcases Int.lt_or_le (cmpR l[k] t) 0 with h2 | h2
    · have := lawR.trans _ _ _ h1 h2
      omega
    · exact h2
  · obtain rfl : k = m := by omega
    exact h
def BsPost (l : List S25) (t : S25) (e : Ending) : Prop := ∃ i : Nat, i ≤ l.length ∧ (∀ k (h : k < l.length), k < i → cmpR l[k] t < 0) ∧ (∀ k (h : k < l.length), i ≤ k → 0 ≤ cmpR l[k] t) ∧ e = .returned (.tuple #[.int .i64 i, .bool (decide (∃ h : i < l.length, cmpR l[i] t = 0))])

set_option maxHeartbeats 8000000 in
set_option maxRecDepth 100000 in
theorem bs_calls (A : Option Addr) (cap : Nat) (l : List S25) (t : S25) (w : World) (hr : Kd.C k25 w A l.length l) (hn : l.length ≤ 200) (hs : l.Pairwise (fun a b => cmpR a b < 0)) :
    Calls Tryz.prog 152 #[.slice A l.length cap, .agg #[.int .i64 t.f0.f0, .string t.f0.f1, .string t.f0.f2, .int .i64 t.f1.f0, .string t.f1.f1, .string t.f1.f2, .int .i64 t.f2.f0, .string t.f2.f1, .string t.f2.f2], .func (.func 21) #[] #[]] w
      fun e w' => BsPost l t e ∧ ∃ q os, w' = grow (w.drewN q) os := by
  have HR := Aside0.mk hr
  have HS := Aside0.mk hs
  clear hr hs
  have mixed : Tryz.prog.follows .mixedOrders = true := by kernel_rfl
  have eg : ∀ args w, (callFunc 21 args).run Tryz.prog w = .ok (.enter 21 args) w := enters_of Tryz.func21 (by kernel_rfl) rfl
  go_enter Tryz.func152, Tryz.ntmps152
  go_wp2
  go_loopg [9, 10, 11] l.length (fun gg s9 s10 _ wr => ∃ i j : Nat, i ≤ j ∧ j ≤ l.length ∧ j - i ≤ gg ∧ s9 = .int .i64 i ∧ s10 = .int .i64 j ∧ Aside0 (∃ q os, wr = grow ((w.alloc (.cells (encR t).toArray 25)).drewN q) os) ∧ Aside0 (∀ k (h : k < l.length), k < i → cmpR l[k] t < 0) ∧ Aside0 (∀ k (h : k < l.length), j ≤ k → 0 ≤ cmpR l[k] t))
  case atStart => exact ⟨0, l.length, by omega, by omega, by omega, rfl, rfl, ⟨0, #[], by simp; rfl⟩, ⟨fun k h hk => absurd hk (Nat.not_lt_zero _)⟩, ⟨fun k h hk => by omega⟩⟩
  case round =>
    obtain ⟨i, j, hij, hjn, hgg, rfl, rfl, HW, HA, HB⟩ := hrel
    have hbw : Below w.heap.size w wr := by
      obtain ⟨q, os, rfl⟩ := HW.out
      exact below_step (below_alloc (Below.refl _ _) _) (grow_below _ q os)
    have hbox := fun (c : Nat) (v : Value) (h : (encR t)[c]? = some v) (n : Nat) (os : Array Obj) => box_grown HW.out c v h n os
    have b0 := hbox 0 _ rfl; have b1 := hbox 1 _ rfl; have b2 := hbox 2 _ rfl; have b3 := hbox 3 _ rfl; have b4 := hbox 4 _ rfl; have b5 := hbox 5 _ rfl; have b6 := hbox 6 _ rfl; have b7 := hbox 7 _ rfl; have b8 := hbox 8 _ rfl
    have HBW := Aside0.mk hbw
    clear hbw hbox
    by_cases hlt : i < j
    · have hltz : (i : Int) < (j : Int) := by omega
      obtain ⟨ad, e0, h0, h1, h2, h3, h4, h5, h6, h7, h8⟩ := at_T25 (Kd.C_below HR.out HBW.out) (((i : Int) + (j : Int)) / 2) (by omega) (by omega)
      subst e0
      have hrd : rd_T25 l (((i : Int) + (j : Int)) / 2) = l[(i + j) / 2] := by
        rw [show ((i : Int) + (j : Int)) / 2 = (((i + j) / 2 : Nat) : Int) by omega]; exact rd_T25_at l ((i + j) / 2) (by omega)
      rw [hrd] at h0 h1 h2 h3 h4 h5 h6 h7 h8
      clear hrd
      have g0 := grown_cell h0; have g1 := grown_cell h1; have g2 := grown_cell h2; have g3 := grown_cell h3; have g4 := grown_cell h4; have g5 := grown_cell h5; have g6 := grown_cell h6; have g7 := grown_cell h7; have g8 := grown_cell h8
      clear h0 h1 h2 h3 h4 h5 h6 h7 h8
      have hm1 : (0 : Int) ≤ ((i : Int) + j) / 2 := by omega
      have hm2 : ((i : Int) + j) / 2 < l.length := by omega
      have hlow := fun (h : cmpR l[(i + j) / 2] t < 0) => below_all HS.out ((i + j) / 2) (by omega) h
      have hhigh := fun (h : 0 ≤ cmpR l[(i + j) / 2] t) => above_all HS.out ((i + j) / 2) (by omega) h
      generalize hx : l[(i + j) / 2] = x at g0 g1 g2 g3 g4 g5 g6 g7 g8 hlow hhigh
      have HLOW := Aside0.mk hlow
      have HHIGH := Aside0.mk hhigh
      clear hx hlow hhigh
      have hcmp := fun W => compareR_grown x t W
      by_cases hc : cmpR x t < 0
      · have HC := Aside0.mk hc
        generalize cmpR x t = cx at hcmp hc
        have hcb : decide (cx < 0) = true := decide_eq_true hc
        clear hc
        go_wp2
        go_quiet_grown ((go_at_fn 21; exact Calls.grown_of (hcmp _)))
        go_wp2
        go_roundg (j - ((i + j) / 2 + 1))
        case measure => omega
        case rel => exact ⟨(i + j) / 2 + 1, j, by omega, by omega, Nat.le_refl _, by go_num, rfl, ⟨grown_again HW.out _ _⟩, ⟨fun k hk hlt' => HLOW.out HC.out k hk (by omega)⟩, HB⟩
      · have HC := Aside0.mk (show 0 ≤ cmpR x t by omega)
        generalize cmpR x t = cx at hcmp hc
        have hcb : decide (cx < 0) = false := decide_eq_false hc
        clear hc
        go_wp2
        go_quiet_grown ((go_at_fn 21; exact Calls.grown_of (hcmp _)))
        go_wp2
        go_roundg ((i + j) / 2 - i)
        case measure => omega
        case rel => exact ⟨i, (i + j) / 2, by omega, by omega, Nat.le_refl _, rfl, by go_num, ⟨grown_again HW.out _ _⟩, HA, ⟨fun k hk hle => HHIGH.out HC.out k hk hle⟩⟩
    · have hltz : ¬ (i : Int) < (j : Int) := by omega
      obtain rfl : i = j := by omega
      by_cases hin : i < l.length
      · have hinz : (i : Int) < (l.length : Int) := by omega
        obtain ⟨ad, e0, h0, h1, h2, h3, h4, h5, h6, h7, h8⟩ := at_T25 (Kd.C_below HR.out HBW.out) (i : Int) (by omega) (by omega)
        subst e0
        rw [rd_T25_at l i hin] at h0 h1 h2 h3 h4 h5 h6 h7 h8
        rw [Int.toNat_natCast] at h0 h1 h2 h3 h4 h5 h6 h7 h8
        have g0 := grown_cell h0; have g1 := grown_cell h1; have g2 := grown_cell h2; have g3 := grown_cell h3; have g4 := grown_cell h4; have g5 := grown_cell h5; have g6 := grown_cell h6; have g7 := grown_cell h7; have g8 := grown_cell h8
        clear h0 h1 h2 h3 h4 h5 h6 h7 h8
        have HI : Aside0 (∀ c, c = cmpR l[i] t → (∃ h : i < l.length, cmpR l[i] t = 0) = (c = 0)) := ⟨fun c hc => by subst hc; exact propext ⟨fun h => h.2, fun h => ⟨hin, h⟩⟩⟩
        have hcmp := fun W => compareR_grown l[i] t W
        have HX := Aside0.mk (rfl : cmpR l[i] t = cmpR l[i] t)
        generalize hcx : cmpR l[i] t = cx at hcmp
        have HCX := Aside0.mk hcx
        clear hcx
        generalize l[i] = x at g0 g1 g2 g3 g4 g5 g6 g7 g8 hcmp
        go_wp2
        go_quiet_grown ((go_at_fn 21; exact Calls.grown_of (hcmp _)))
        go_wp2
        go_ret2
        refine ⟨⟨i, hjn, HA.out, HB.out, ?_⟩, alloc_grown (grown_again HW.out _ _)⟩
        have := HI.out cx HCX.out.symm
        simp only [this]
        rfl
      · have hinb : decide ((i : Int) < (l.length : Int)) = false := decide_eq_false (by omega)
        have hinb2 : decide (i < l.length) = false := decide_eq_false hin
        go_wp2
        go_quiet_grown (fail)
        go_wp2
        go_ret2
        refine ⟨⟨i, hjn, HA.out, HB.out, ?_⟩, alloc_grown (grown_again HW.out _ _)⟩
        have : decide (∃ h : i < l.length, cmpR l[i] t = 0) = false := decide_eq_false (fun h => hin h.1)
        rw [this]
        rfl
end Go.Proofs.YtdjamphmndbmjaaGreatDoor.M

/- set.In: of a set that is sorted, whether a triple is in it. By hand. -/
namespace Go.Proofs.YtdjamphmndbmjaaGreatDoor.M
open Go.RowKit Go.Proofs.YtdjamphmndbmjaaGreatDoorW.PrintWords Go.Proofs.YtdjamphmndbmjaaGreatDoorW.PrintLast Go.Proofs.YtdjamphmndbmjaaGreatDoorW.PrintMore
set_option linter.unusedVariables false
set_option linter.unusedSimpArgs false

/-- Is a triple in a list? -/
def inR (l : List S25) (t : S25) : Bool := l.any fun x => decide (x = t)
def set_In.f (l0 : List S25) (a1_0 : Int) (a1_1 : ByteArray) (a1_2 : ByteArray) (a1_3 : Int) (a1_4 : ByteArray) (a1_5 : ByteArray) (a1_6 : Int) (a1_7 : ByteArray) (a1_8 : ByteArray) : Option Bool :=
  if sortedR l0 = none then some (inR l0 ⟨⟨a1_0, a1_1, a1_2⟩, ⟨a1_3, a1_4, a1_5⟩, ⟨a1_6, a1_7, a1_8⟩⟩) else none

theorem bs_in {l : List S25} {t : S25} (i : Nat) (h1 : ∀ k (h : k < l.length), k < i → cmpR l[k] t < 0) (h2 : ∀ k (h : k < l.length), i ≤ k → 0 ≤ cmpR l[k] t) (hs : l.Pairwise (fun a b => cmpR a b < 0)) : decide (∃ h : i < l.length, cmpR l[i] t = 0) = inR l t := by
  unfold inR
  rw [Bool.eq_iff_iff, decide_eq_true_iff, List.any_eq_true]
  constructor
  · rintro ⟨h, hz⟩
    exact ⟨l[i], List.getElem_mem h, decide_eq_true ((lawR.zero _ _).1 hz)⟩
  · rintro ⟨x, hx, he⟩
    obtain rfl := of_decide_eq_true he
    obtain ⟨k, hk, hkx⟩ := List.getElem_of_mem hx
    have hz : cmpR l[k] x = 0 := (lawR.zero _ _).2 hkx
    have hik : i ≤ k := by
      rcases Nat.lt_or_ge k i with h | h
      · have := h1 k hk h; omega
      · exact h
    rcases Nat.lt_or_ge i k with h | h
    · have h3 := h2 i (by omega) (Nat.le_refl _)
      have h4 := List.pairwise_iff_getElem.1 hs i k (by omega) hk h
      rw [hkx] at h4
      omega
    · obtain rfl : i = k := by omega
      exact ⟨hk, hz⟩

theorem inR_grown (A0 : Option Addr) (c0 : Nat) (l0 : List S25) (x : S25) (w : World) (hr0 : Kd.C k25 w A0 l0.length l0) (hs : sortedR l0 = none) :
    Calls Tryz.prog 112 #[.slice A0 l0.length c0, .agg #[.int .i64 x.f0.f0, .string x.f0.f1, .string x.f0.f2, .int .i64 x.f1.f0, .string x.f1.f1, .string x.f1.f2, .int .i64 x.f2.f0, .string x.f2.f1, .string x.f2.f2]] w fun e w' => e = .returned (.bool (inR l0 x)) ∧ ∃ q os, w' = Sort.grow (w.drewN q) os := by
  obtain ⟨hn, _, hp⟩ := sortedR_none hs
  have hbs := fun W (hC : Kd.C k25 W A0 l0.length l0) => bs_calls A0 c0 l0 x W hC hn hp
  have HP := Aside0.mk hp
  have HR := Aside0.mk hr0
  have HBS := Aside0.mk hbs
  obtain ⟨r, hr⟩ : ∃ r, inR l0 x = r := ⟨_, rfl⟩
  rw [hr]
  have HRR := Aside0.mk hr
  clear hbs hr0 hp hn hs hr
  go_enter Tryz.func112, Tryz.ntmps112
  go_wp2_with (go_at_call 152; refine (HBS.out _ (Kd.C_alloc HR.out _)).mono ?_; rintro e w' ⟨⟨i, _, h1, h2, rfl⟩, hb⟩; have H1 := Aside0.mk h1; have H2 := Aside0.mk h2; have HB1 := Aside0.mk (alloc_grown hb); clear h1 h2 hb)
  go_ret
  refine ⟨?_, HB1.out⟩
  rw [← HRR.out, ← bs_in i H1.out H2.out HP.out]
  rfl
theorem inR_calls (A0 : Option Addr) (c0 : Nat) (l0 : List S25) (x : S25) (w : World) (hr0 : Kd.C k25 w A0 l0.length l0) (hs : sortedR l0 = none) :
    Calls Tryz.prog 112 #[.slice A0 l0.length c0, .agg #[.int .i64 x.f0.f0, .string x.f0.f1, .string x.f0.f2, .int .i64 x.f1.f0, .string x.f1.f1, .string x.f1.f2, .int .i64 x.f2.f0, .string x.f2.f1, .string x.f2.f2]] w fun e w' => e = .returned (.bool (inR l0 x)) ∧ Below w.heap.size w w' :=
  (inR_grown A0 c0 l0 x w hr0 hs).mono fun _ _ ⟨he, hb⟩ => ⟨he, grown_below hb⟩
theorem set_In.calls (A0 : Option Addr) (c0 : Nat) (l0 : List S25) (a1_0 : Int) (a1_1 : ByteArray) (a1_2 : ByteArray) (a1_3 : Int) (a1_4 : ByteArray) (a1_5 : ByteArray) (a1_6 : Int) (a1_7 : ByteArray) (a1_8 : ByteArray) (r : Bool) (w : World) (hr0 : Kd.C k25 w A0 l0.length l0) (hc0 : l0.length ≤ c0) (h : set_In.f l0 a1_0 a1_1 a1_2 a1_3 a1_4 a1_5 a1_6 a1_7 a1_8 = some r) :
    Calls Tryz.prog 112 #[.slice A0 l0.length c0, .agg #[.int .i64 a1_0, .string a1_1, .string a1_2, .int .i64 a1_3, .string a1_4, .string a1_5, .int .i64 a1_6, .string a1_7, .string a1_8]] w fun e w' => e = .returned (.bool r) ∧ Below w.heap.size w w' := by
  unfold set_In.f at h
  split at h
  · rename_i hs
    obtain rfl := Option.some.inj h
    exact inR_calls A0 c0 l0 ⟨⟨a1_0, a1_1, a1_2⟩, ⟨a1_3, a1_4, a1_5⟩, ⟨a1_6, a1_7, a1_8⟩⟩ w hr0 hs
  · cases h
end Go.Proofs.YtdjamphmndbmjaaGreatDoor.M

/- set.Part: what of a set is, or is not, in another one. By hand. -/
namespace Go.Proofs.YtdjamphmndbmjaaGreatDoor.M
open Go.RowKit Go.Proofs.YtdjamphmndbmjaaGreatDoorW.PrintWords Go.Proofs.YtdjamphmndbmjaaGreatDoorW.PrintLast Go.Proofs.YtdjamphmndbmjaaGreatDoorW.PrintMore
set_option linter.unusedVariables false
set_option linter.unusedSimpArgs false

open Go.Sort
theorem part1_calls (x : S25) (W : World) (pb pi : Nat) (A : Option Addr) (c : Nat) (b : List S25) (is : Bool) (hb : W.cell? ⟨pb, 0, none⟩ = some (.slice A b.length c)) (hi : W.cell? ⟨pi, 0, none⟩ = some (.bool is)) (hC : Kd.C k25 W A b.length b) (hs : sortedR b = none) :
    Calls Tryz.prog 147 #[aggR x, .pointer (some ⟨pb, 0, none⟩), .pointer (some ⟨pi, 0, none⟩)] W fun e w' => e = .returned (.bool (inR b x != is)) ∧ Below W.heap.size W w' := by
  have mixed : Tryz.prog.follows .mixedOrders = true := by kernel_rfl
  have hcall := fun n os => inR_grown A c b x (grow ((W.alloc (.cells (celR x) 25)).drewN n) os) (Kd.C_below (Kd.C_alloc hC _) (grow_below _ n os)) hs
  have HB0 := Aside0.mk (Below.refl W.heap.size W)
  have hbg := fun n os => grown_cell ((cell?_alloc_old hb (.cells (celR x) 25))) n os
  have hig := fun n os => grown_cell ((cell?_alloc_old hi (.cells (celR x) 25))) n os
  have hbx := fun (c : Nat) (v : Value) (h : (celR x)[c]? = some v) (n : Nat) (os : Array Obj) => grown_cell ((blk_cell (blk_new W (.cells (celR x) 25)) c).trans h) n os
  have b0 := hbx 0 (.int .i64 x.f0.f0) rfl; have b1 := hbx 1 (.string x.f0.f1) rfl; have b2 := hbx 2 (.string x.f0.f2) rfl; have b3 := hbx 3 (.int .i64 x.f1.f0) rfl; have b4 := hbx 4 (.string x.f1.f1) rfl; have b5 := hbx 5 (.string x.f1.f2) rfl; have b6 := hbx 6 (.int .i64 x.f2.f0) rfl; have b7 := hbx 7 (.string x.f2.f1) rfl; have b8 := hbx 8 (.string x.f2.f2) rfl
  unfold celR at hcall hbg hig b0 b1 b2 b3 b4 b5 b6 b7 b8
  clear hbx
  generalize inR b x = r at hcall ⊢
  have HC := Aside0.mk hcall
  clear hcall hs hC hb hi
  unfold aggR
  cases r <;> cases is <;>
  · go_enter Tryz.func147, Tryz.ntmps147
    go_wp2
    go_quiet_grown ((go_at_call 112; exact Calls.grown_of (HC.out _ _)))
    go_wp2
    go_ret
    exact ⟨rfl, below_step (below_alloc HB0.out _) (grow_below _ _ _)⟩

def set_Part.f (l0 : List S25) (l1 : List S25) (a2 : Bool) : Option (List S25) :=
  if l0.length < 1172812402961 ∧ sortedR l1 = none then some (l0.filter fun t => inR l1 t == a2) else none
set_option maxHeartbeats 4000000 in
set_option maxRecDepth 100000 in
theorem set_Part.calls (A0 : Option Addr) (c0 : Nat) (l0 : List S25) (A1 : Option Addr) (c1 : Nat) (l1 : List S25) (a2 : Bool) (r : List S25) (w : World) (hr0 : Kd.C k25 w A0 l0.length l0) (hc0 : l0.length ≤ c0) (hr1 : Kd.C k25 w A1 l1.length l1) (hc1 : l1.length ≤ c1) (h : set_Part.f l0 l1 a2 = some r) :
    Calls Tryz.prog 107 #[.slice A0 l0.length c0, .slice A1 l1.length c1, .bool a2] w fun e w' => ∃ v0_ : Value, e = .returned (v0_) ∧ Kd.R k25 25 w' w.heap.size (fun _ => True) v0_ r ∧ Below w.heap.size w w' := by
  unfold set_Part.f at h
  split at h
  · rename_i hcond
    obtain ⟨hl, hs⟩ := hcond
    obtain rfl := Option.some.inj h
    have e74 : ∀ args w, (callFunc 147 args).run Tryz.prog w = .ok (.enter 147 args) w := enters_of Tryz.func147 (by kernel_rfl) rfl
    have hcl : clone_T.f l0 = some l0 := by unfold clone_T.f; rw [if_pos hl]
    have hclone := fun W (hC : Kd.C k25 W A0 l0.length l0) => clone_T.calls A0 c0 l0 l0 W hC hc0 hcl
    have hdel := fun (W1 W : World) (pb pi : Nat) (h1 : W1.cell? ⟨pb, 0, none⟩ = some (.slice A1 l1.length c1)) (h2 : W1.cell? ⟨pi, 0, none⟩ = some (.bool a2)) (hC : Kd.C k25 W1 A1 l1.length l1) (A : Option Addr) (cap : Nat) (hR : Kd.R k25 25 W W1.heap.size (fun _ => True) (.slice A l0.length cap) l0) (hB : Below W1.heap.size W1 W) =>
      delR_calls 147 #[.pointer (some ⟨pb, 0, none⟩), .pointer (some ⟨pi, 0, none⟩)] (fun x => inR l1 x != a2) W1.heap.size W1 A cap l0 W e74 hR hB hB.size
        (fun x W2 _ hB2 => part1_calls x W2 pb pi A1 c1 l1 a2 ((hB2.cell (World.block_lt_of_cell? W1 _ h1)).trans h1) ((hB2.cell (World.block_lt_of_cell? W1 _ h2)).trans h2) (Kd.C_below hC hB2) hs)
    have hfil : (l0.filter fun t => inR l1 t == a2) = l0.filter fun x => !(inR l1 x != a2) := by
      congr 1
      funext x
      cases inR l1 x <;> cases a2 <;> rfl
    rw [hfil]
    generalize (l0.filter fun x => !(inR l1 x != a2)) = res at hdel ⊢
    have HDEL := Aside0.mk hdel
    have HCLONE := Aside0.mk hclone
    have HR0 := Aside0.mk hr0
    have HR1 := Aside0.mk hr1
    have HB := Aside0.mk (Below.refl w.heap.size w)
    clear hdel hclone hr0 hr1 hfil h hcl hs hl
    go_enter Tryz.func107, Tryz.ntmps107
    have HS1 : Aside0 (((w.alloc (.cells #[.slice A1 l1.length c1] 26)).alloc (.cells #[.bool a2] 4)).cell? ⟨w.heap.size, 0, none⟩ = some (.slice A1 l1.length c1)) := ⟨cell?_alloc_old ((blk_cell (blk_new w _) 0).trans rfl) _⟩
    have HS2 : Aside0 (((w.alloc (.cells #[.slice A1 l1.length c1] 26)).alloc (.cells #[.bool a2] 4)).cell? ⟨w.heap.size + 1, 0, none⟩ = some (.bool a2)) := ⟨by rw [← alloc_size1 w (.cells #[.slice A1 l1.length c1] 26)]; exact (blk_cell (blk_new _ _) 0).trans rfl⟩
    go_wp2_with (first | (go_at_call 79; refine (HCLONE.out _ (Kd.C_alloc (Kd.C_alloc HR0.out _) _)).mono ?_; rintro e w' ⟨v1, rfl, hRc, hbb⟩; obtain ⟨Ac, cc, ec⟩ := Kd.R_slice hRc; subst ec; have HRC := Aside0.mk hRc; have HB1 := Aside0.mk hbb; clear hRc hbb) | (go_at_call 146; refine (HDEL.out _ _ _ _ HS1.out HS2.out (Kd.C_alloc (Kd.C_alloc HR1.out _) _) Ac cc HRC.out HB1.out).mono ?_; rintro e w' ⟨⟨v2, rfl, hRd⟩, hbb, _⟩; have HRD := Aside0.mk hRd; have HB2 := Aside0.mk hbb; clear hRd hbb))
    go_ret
    refine ⟨_, rfl, Kd.R_lower HRD.out ?_, below_step (below_alloc (below_alloc HB.out _) _) HB2.out⟩
    rw [alloc_size1, alloc_size1]
    omega
  · cases h
end Go.Proofs.YtdjamphmndbmjaaGreatDoor.M

/- slices.Grow of nil and slices.Concat of two, at []api.Triple. By hand. -/
namespace Go.Proofs.YtdjamphmndbmjaaGreatDoor.M
open Go.RowKit Go.Proofs.YtdjamphmndbmjaaGreatDoorW.PrintWords Go.Proofs.YtdjamphmndbmjaaGreatDoorW.PrintLast Go.Proofs.YtdjamphmndbmjaaGreatDoorW.PrintMore
set_option linter.unusedVariables false
set_option linter.unusedSimpArgs false

theorem append_event {P : Program} {ops : Array Oper} {rest : List Oper} {o : Oper} {a : Act} {Q : Exit → Act → World → Prop} {W w1 : World} (hgd : o.guard = none) (s x : Operand) (t t' : TypeId)
    (ho : o.op = .call { callee := .builtin .append, args := #[s, x], argTypes := #[t, t'] }) (vs vx v : Value) (hs : a.eval s = vs) (hx : a.eval x = vx) (hr : (Builtin.append_ #[t, t'] o.type #[vs, vx]).run P W = .ok v w1)
    (h : wpList P ops Q rest (a.put o.dst v) w1) : wpList P ops Q (o :: rest) a W := by
  refine wpList_plain hgd fun K hK => ?_
  unfold Oper.wp execOp
  simp only [ho, resolve, invoke, builtin, Sem.run_bind, Sem.run_pure, Result.andThen_ok, List.map_toArray, List.map_cons, List.map_nil, hs, hx, hr]
  exact hK _ _ h
theorem R_of_empty {w : World} {base g m c : Nat} {xs : List Value} (h : w.ownsRow base 25 9 (.slice (some ⟨g, 0, none⟩) m c) m xs) : Kd.R k25 25 w base (fun _ => True) (.slice (some ⟨g, 0, none⟩) 0 c) ([] : List S25) := by
  rcases h.2 with ⟨hv, _⟩ | ⟨g', cap, cur, hv, hb, hh, hnc, hcm, hcs, htk⟩
  · cases hv
  · injection hv with ha hn hc
    injection ha with ha
    injection ha with hg
    subst hg; subst hc
    exact ⟨fun _ _ => trivial, [], ⟨rfl, .inr ⟨g, c, cur, rfl, hb, hh, Nat.zero_le _, hcm, hcs, by simp⟩⟩, Reps.none _ _⟩
theorem zeros_one : ∀ j : Nat, Value.oneCell' ((Value.agg #[(.int .i64 0), (.string ⟨#[]⟩), (.string ⟨#[]⟩), (.int .i64 0), (.string ⟨#[]⟩), (.string ⟨#[]⟩), (.int .i64 0), (.string ⟨#[]⟩), (.string ⟨#[]⟩)]).cells[j]!) = true := by
  intro j
  rcases j with _ | _ | _ | _ | _ | _ | _ | _ | _ | j <;> rfl
set_option maxHeartbeats 4000000 in
set_option maxRecDepth 100000 in
theorem grow_calls (m : Nat) (w : World) (hm : m * 120 ≤ 140737488355328) :
    Calls Tryz.prog 178 #[.slice none 0 0, .int .i64 m] w fun e w' => (∃ v, e = .returned v ∧ Kd.R k25 25 w' w.heap.size (fun _ => True) v ([] : List S25)) ∧ Below w.heap.size w w' := by
  have h0 : ¬ (m : Int) < 0 := by omega
  rcases Nat.eq_zero_or_pos m with hz | hp
  · subst hz
    go_enter Tryz.func178, Tryz.ntmps178
    go_wp2
    go_ret
    exact ⟨⟨_, rfl, Kd.R_nil _ _ _ _ _⟩, Below.refl _ _⟩
  · have hpz : (m : Int) > 0 := by omega
    obtain ⟨i, hi, hz⟩ := Option.map_eq_some_iff.1 xinfoT
    have hz0 := congrArg Prod.fst hz
    have hz1 := congrArg (fun q => q.2.1) hz
    have hz2 := congrArg (fun q => q.2.2) hz
    obtain ⟨v', w', hrun, hown, hg, hat⟩ := run_append_zeros (P := Tryz.prog) w w.heap.size 26 3 26 25 i _ 9 120 Tryz.underlying26 Tryz.underlying3 hi hz0 hz1 hz2 rfl (by decide) (by decide) (.slice none 0 0) 0 [] ⟨rfl, .inl ⟨rfl, rfl⟩⟩ .i64 m (by
      intro u hu
      simp only [Builtin.zeroCells, Array.toList_map, List.mem_map] at hu
      obtain ⟨q, _, rfl⟩ := hu
      exact zeros_one _) (by omega) (Nat.le_refl _)
    obtain ⟨g, c, rfl⟩ : ∃ g c, v' = .slice (some ⟨g, 0, none⟩) m c := by
      rcases hown.2 with ⟨hv, h0⟩ | ⟨g', cap, cur, hv, _⟩
      · omega
      · exact ⟨g', cap, by rw [hv]; simp⟩
    have HRUN := Aside0.mk hrun
    rw [Nat.zero_add] at hown
    have HO := Aside0.mk (R_of_empty hown)
    have HB := Aside0.mk (Below.grown (Below.refl w.heap.size w) hg (Nat.le_refl _) (by simp [Value.ownBlock]))
    clear hrun hown hg hat hz hz0 hz1 hz2 hi
    go_enter Tryz.func178, Tryz.ntmps178
    go_wp2_with ((with_reducible refine gate_builtin (b := .append) (xs := #[.tmp 20, .tmp 21]) rfl ?_); at_builtin; refine append_event rfl (.tmp 20) (.tmp 21) 26 3 rfl (.slice none 0 0) (.int .i64 m) _ rfl rfl HRUN.out ?_)
    go_ret
    exact ⟨⟨_, rfl, HO.out⟩, HB.out⟩

set_option maxHeartbeats 8000000 in
set_option maxRecDepth 100000 in
theorem concat_calls (g0 : Nat) (A0 A1 : Option Addr) (c0 c1 : Nat) (l0 l1 : List S25) (w : World) (h0 : w.cell? ⟨g0, 0, none⟩ = some (.slice A0 l0.length c0)) (h1 : w.cell? ⟨g0, 1, none⟩ = some (.slice A1 l1.length c1))
    (hr0 : Kd.C k25 w A0 l0.length l0) (hr1 : Kd.C k25 w A1 l1.length l1) (hc0 : l0.length ≤ c0) (hc1 : l1.length ≤ c1) (hm : (l0.length + l1.length) * 120 ≤ 140737488355328) :
    Calls Tryz.prog 148 #[.slice (some ⟨g0, 0, none⟩) 2 2] w fun e w' => (∃ v, e = .returned v ∧ Kd.R k25 25 w' w.heap.size (fun _ => True) v (l0 ++ l1)) ∧ Below w.heap.size w w' := by
  have HR0 := Aside0.mk hr0
  have HR1 := Aside0.mk hr1
  have hgl : g0 < w.heap.size := World.block_lt_of_cell? w _ h0
  have H0 := Aside0.mk h0
  have H1 := Aside0.mk h1
  have HL := Aside0.mk hm
  have hgrow := grow_calls (l0.length + l1.length) w hm
  have hs1 : ((l0.length : Nat) : Int) ≤ 9223372036854775807 := by omega
  have hs2 : ((l0.length + l1.length : Nat) : Int) ≤ 9223372036854775807 := by omega
  have HGROW := Aside0.mk hgrow
  clear hr0 hr1 h0 h1 hm hgrow
  go_enter Tryz.func148, Tryz.ntmps148
  go_wp2
  go_loopg [3, 5, 11] 2 (fun gg s3 s5 s11 wr => wr = w ∧ ((s11 = .int .i64 0 ∧ s3 = .int .i64 0 ∧ gg = 2) ∨ (s11 = .int .i64 1 ∧ s3 = .int .i64 (l0.length : Nat) ∧ gg = 1) ∨ (s11 = .int .i64 2 ∧ s3 = .int .i64 (l0.length + l1.length : Nat) ∧ gg = 0)))
  case atStart => exact ⟨rfl, .inl ⟨rfl, rfl, rfl⟩⟩
  case round =>
    obtain ⟨hw, hrel⟩ := hrel
    subst hw
    rcases hrel with ⟨rfl, rfl, rfl⟩ | ⟨rfl, rfl, rfl⟩ | ⟨rfl, rfl, rfl⟩
    · have h0 := H0.out
      go_wp2
      go_roundg 1
      case measure => omega
      case rel => exact ⟨rfl, .inr (.inl ⟨by go_num, by go_num, rfl⟩)⟩
    · have h1 := H1.out
      go_wp2
      go_roundg 0
      case measure => omega
      case rel => exact ⟨rfl, .inr (.inr ⟨by go_num, by go_num, rfl⟩)⟩
    · go_wp2_with (go_at_call 178; refine HGROW.out.mono ?_; rintro e w' ⟨⟨v, rfl, hv⟩, hb⟩; have HV := Aside0.mk hv; have HB := Aside0.mk hb; clear hv hb)
      obtain ⟨w0, hw0⟩ : ∃ w0, w0 = wr := ⟨_, rfl⟩
      subst hw0
      go_loopg [6, 8, 27] 2 (fun gg s6 s8 s27 w1 => Aside0 (Below w0.heap.size w0 w1) ∧ ((s27 = .int .i64 0 ∧ gg = 2 ∧ Aside0 (Kd.R k25 25 w1 w0.heap.size (fun _ => True) s6 ([] : List S25))) ∨ (s27 = .int .i64 1 ∧ gg = 1 ∧ Aside0 (Kd.R k25 25 w1 w0.heap.size (fun _ => True) s6 l0)) ∨ (s27 = .int .i64 2 ∧ gg = 0 ∧ Aside0 (Kd.R k25 25 w1 w0.heap.size (fun _ => True) s6 (l0 ++ l1)))))
      case atStart => exact ⟨HB, .inl ⟨rfl, rfl, HV⟩⟩
      case round =>
        obtain ⟨HB1, hrel⟩ := hrel
        rcases hrel with ⟨rfl, rfl, HS⟩ | ⟨rfl, rfl, HS⟩ | ⟨rfl, rfl, HS⟩
        · have h0 := (HB1.out.cell (World.block_lt_of_cell? _ _ H0.out)).trans H0.out
          obtain ⟨As, cs, es⟩ := Kd.R_slice HS.out
          subst es
          go_wp2_with ((with_reducible refine gate_builtin (b := .append) (xs := #[.tmp 31, .tmp 32]) rfl ?_); at_builtin; refine Kd.R_append_rows k25 (w0 := w0) w0.heap.size rfl (.tmp 31) (.tmp 32) 26 25 _ 120 rfl Tryz.underlying26 xinfoT rfl (by decide) (by omega) (.slice As 0 cs) ([] : List S25) l0 _ _ _ (fun _ => True) (fun _ => False) rfl rfl ?aO ?aR (fun _ _ h => h) (fun _ h => h.elim) ?aF ?aB ?aS ?aL ?_; (case aR => exact Kd.C_below HR0.out HB1.out); (case aB => exact HB1.out); (case aF => exact (fun _ _ => trivial)); (case aO => exact HS.out); (case aS => exact HB1.out.size); (case aL => have := HL.out; simp; omega); intro v1 w1 ho hb hg hat; have HO1 := Aside0.mk ho; have HB2 := Aside0.mk hb; clear ho hb hg hat)
          go_roundg 1
          case measure => omega
          case rel => exact ⟨HB2, .inr (.inl ⟨by go_num, rfl, by simpa using HO1⟩)⟩
        · have h1 := (HB1.out.cell (World.block_lt_of_cell? _ _ H1.out)).trans H1.out
          obtain ⟨As, cs, es⟩ := Kd.R_slice HS.out
          subst es
          go_wp2_with ((with_reducible refine gate_builtin (b := .append) (xs := #[.tmp 31, .tmp 32]) rfl ?_); at_builtin; refine Kd.R_append_rows k25 (w0 := w0) w0.heap.size rfl (.tmp 31) (.tmp 32) 26 25 _ 120 rfl Tryz.underlying26 xinfoT rfl (by decide) (by omega) (.slice As l0.length cs) l0 l1 _ _ _ (fun _ => True) (fun _ => False) rfl rfl ?aO ?aR (fun _ _ h => h) (fun _ h => h.elim) ?aF ?aB ?aS ?aL ?_; (case aR => exact Kd.C_below HR1.out HB1.out); (case aB => exact HB1.out); (case aF => exact (fun _ _ => trivial)); (case aO => exact HS.out); (case aS => exact HB1.out.size); (case aL => have := HL.out; simp; omega); intro v1 w1 ho hb hg hat; have HO1 := Aside0.mk ho; have HB2 := Aside0.mk hb; clear ho hb hg hat)
          go_roundg 0
          case measure => omega
          case rel => exact ⟨HB2, .inr (.inr ⟨by go_num, rfl, HO1⟩)⟩
        · obtain ⟨As, cs, es⟩ := Kd.R_slice HS.out
          subst es
          go_wp2
          go_ret
          have hs := HS.out
          rw [List.length_append] at hs
          exact ⟨⟨_, rfl, hs⟩, HB1.out⟩
end Go.Proofs.YtdjamphmndbmjaaGreatDoor.M

/-
  DERIVED: THE SHELF's CONTRACTS AT THIS DUMP, IN PLAIN WORDS (tools/lay-plain.mjs out of 'YtdjamphmndbmjaaGreatDoorXsortS.lean', which tools/lay-shelf.mjs wrote): THE SAME DECLARATIONS UNDER THE SAME NAMES: 'import', 'namespace', 'open', 'def', 'theorem' AND NOTHING ELSE: no command of the shelf's: FOR A HAND-IN. Each laying: the table of numbers ('.._ren') and one theorem, a field a fact of the dump's own or the kernel's comparison; each contract: ONE APPLICATION.
-/
namespace Go.Proofs
open Go.Shelf
def Tryz.sortR_ren : Go.Shelf.Ren := ⟨fun | 6 => 80 | 15 => 125 | 14 => 124 | 28 => 170 | 29 => 171 | 20 => 162 | 21 => 163 | 22 => 164 | 23 => 165 | 24 => 166 | 25 => 167 | 26 => 168 | 27 => 169 | 46 => 191 | 47 => 192 | 48 => 193 | 49 => 194 | 50 => 195 | 57 => 213 | n => n, fun | 22 => 26 | 24 => 25 | 25 => 45 | 3 => 3 | 39 => 177 | 0 => 0 | 53 => 190 | 55 => 241 | 4 => 4 | 46 => 234 | 45 => 233 | 50 => 212 | 5 => 5 | 9 => 9 | 66 => 268 | 70 => 272 | 76 => 296 | 77 => 297 | n => n, fun | n => n⟩
theorem Tryz.sortR : Go.Proofs.SlLaysF0.n6 Tryz.prog Tryz.sortR_ren := {
  mixed := by kernel_rfl
  f6 := ⟨Tryz.f80.name, by decide, Tryz.func80.trans (congrArg some (by kernel_rfl))⟩
  f14 := ⟨Tryz.f124.name, by decide, Tryz.func124.trans (congrArg some (by kernel_rfl))⟩
  f15 := Tryz.func125.trans (congrArg some (by kernel_rfl))
  f20 := ⟨Tryz.f162.name, by decide, Tryz.func162.trans (congrArg some (by kernel_rfl))⟩
  f21 := ⟨Tryz.f163.name, by decide, Tryz.func163.trans (congrArg some (by kernel_rfl))⟩
  f22 := ⟨Tryz.f164.name, by decide, Tryz.func164.trans (congrArg some (by kernel_rfl))⟩
  f23 := ⟨Tryz.f165.name, by decide, Tryz.func165.trans (congrArg some (by kernel_rfl))⟩
  f24 := ⟨Tryz.f166.name, by decide, Tryz.func166.trans (congrArg some (by kernel_rfl))⟩
  f25 := ⟨Tryz.f167.name, by decide, Tryz.func167.trans (congrArg some (by kernel_rfl))⟩
  f26 := ⟨Tryz.f168.name, by decide, Tryz.func168.trans (congrArg some (by kernel_rfl))⟩
  f27 := ⟨Tryz.f169.name, by decide, Tryz.func169.trans (congrArg some (by kernel_rfl))⟩
  f28 := Tryz.func170.trans (congrArg some (by kernel_rfl))
  f29 := Tryz.func171.trans (congrArg some (by kernel_rfl))
  f46 := ⟨Tryz.f191.name, by decide, Tryz.func191.trans (congrArg some (by kernel_rfl))⟩
  f47 := Tryz.func192.trans (congrArg some (by kernel_rfl))
  f48 := Tryz.func193.trans (congrArg some (by kernel_rfl))
  f49 := ⟨Tryz.f194.name, by decide, Tryz.func194.trans (congrArg some (by kernel_rfl))⟩
  f50 := ⟨Tryz.f195.name, by decide, Tryz.func195.trans (congrArg some (by kernel_rfl))⟩
  f57 := ⟨Tryz.f213.name, by decide, Tryz.func213.trans (congrArg some (by kernel_rfl))⟩
  t0 := Tryz.underlying0
  a0 := Tryz.isAgg0
  z0 := Tryz.sizeOf0
  v0 := Tryz.zeroValue0
  t3 := Tryz.underlying3
  a3 := Tryz.isAgg3
  z3 := Tryz.sizeOf3
  v3 := Tryz.zeroValue3
  t4 := Tryz.underlying4
  a4 := Tryz.isAgg4
  z4 := Tryz.sizeOf4
  v4 := Tryz.zeroValue4
  t5 := Tryz.underlying5
  a5 := Tryz.isAgg5
  z5 := Tryz.sizeOf5
  v5 := Tryz.zeroValue5
  t9 := Tryz.underlying9
  a9 := Tryz.isAgg9
  z9 := Tryz.sizeOf9
  v9 := Tryz.zeroValue9
  t22 := Tryz.underlying26
  a22 := Tryz.isAgg26
  z22 := Tryz.sizeOf26
  v22 := Tryz.zeroValue26
  t25 := Tryz.underlying45
  a25 := Tryz.isAgg45
  z25 := Tryz.sizeOf45
  v25 := Tryz.zeroValue45
  t39 := Tryz.underlying177
  a39 := Tryz.isAgg177
  z39 := Tryz.sizeOf177
  v39 := Tryz.zeroValue177
  t45 := Tryz.underlying233
  a45 := Tryz.isAgg233
  z45 := Tryz.sizeOf233
  v45 := Tryz.zeroValue233
  t46 := Tryz.underlying234
  a46 := Tryz.isAgg234
  z46 := Tryz.sizeOf234
  v46 := Tryz.zeroValue234
  t50 := Tryz.underlying212
  a50 := Tryz.isAgg212
  z50 := Tryz.sizeOf212
  v50 := Tryz.zeroValue212
  t53 := Tryz.underlying190
  a53 := Tryz.isAgg190
  z53 := Tryz.sizeOf190
  v53 := Tryz.zeroValue190
  t55 := Tryz.underlying241
  a55 := Tryz.isAgg241
  z55 := Tryz.sizeOf241
  v55 := Tryz.zeroValue241
  t66 := Tryz.underlying268
  a66 := Tryz.isAgg268
  z66 := Tryz.sizeOf268
  v66 := Tryz.zeroValue268
  t70 := Tryz.underlying272
  a70 := Tryz.isAgg272
  z70 := Tryz.sizeOf272
  v70 := Tryz.zeroValue272
  t76 := Tryz.underlying296
  a76 := Tryz.isAgg296
  z76 := Tryz.sizeOf296
  v76 := Tryz.zeroValue296
  t77 := Tryz.underlying297
  a77 := Tryz.isAgg297
  z77 := Tryz.sizeOf297
  v77 := Tryz.zeroValue297 }
end Go.Proofs

/- slices.SortFunc at []api.Triple under triple.Compare: the shelf's contract, turned to the words of rows of the call's own. -/
namespace Go.Proofs.YtdjamphmndbmjaaGreatDoor.M
open Go.RowKit Go.Proofs.YtdjamphmndbmjaaGreatDoorW.PrintWords Go.Proofs.YtdjamphmndbmjaaGreatDoorW.PrintLast Go.Proofs.YtdjamphmndbmjaaGreatDoorW.PrintMore
set_option linter.unusedVariables false
set_option linter.unusedSimpArgs false

open Go.Sort Go.Shelf Go.Lib
instance : Inhabited S25 := ⟨z25⟩
/-- The triples of a list, sorted. -/
def sortL (l : List S25) : List S25 := l.mergeSort fun x y => !(ltOf cmpR) y x
theorem swoR : SWO (ltOf cmpR) where
  irrefl x := by unfold ltOf; rw [(lawR.zero x x).2 rfl]; rfl
  trans x y z h1 h2 := by
    unfold ltOf at *
    rw [decide_eq_true_eq] at *
    exact lawR.trans x y z h1 h2
  ntrans x y z h1 h2 := by
    unfold ltOf at *
    rw [decide_eq_false_iff_not] at *
    intro h3
    have a1 := lawR.anti x y; have a2 := lawR.anti y z; have a3 := lawR.anti x z
    rcases Int.lt_trichotomy (cmpR x y) 0 with h | h | h
    · exact h1 h
    · rw [(lawR.zero x y).1 h] at h3
      exact h2 h3
    · have := lawR.trans y x z (by omega) h3
      exact h2 this
theorem totR (x y : S25) (h1 : ltOf cmpR x y = false) (h2 : ltOf cmpR y x = false) : x = y := by
  unfold ltOf at *
  rw [decide_eq_false_iff_not] at *
  have := lawR.anti x y
  exact (lawR.zero x y).1 (by omega)
theorem encR_len (x : S25) : (encR x).length = 9 := rfl
theorem encR_one (x : S25) : ∀ v ∈ encR x, v.oneCell' = true := by
  intro q hq
  simp only [encR, List.mem_cons, List.not_mem_nil, or_false] at hq
  rcases hq with rfl | rfl | rfl | rfl | rfl | rfl | rfl | rfl | rfl <;> rfl
theorem layR (blk off size : Nat) (w : World) : CmpLays Tryz.prog 21 #[] encR 9 cmpR blk off size w := fun _ _ _ _ x y => compareR_grown x y _

theorem flat_seg (d : Array S25) (j : Nat) (hj : j < d.size) : ((flatK encR 9 d).toList.drop (j * 9)).take 9 = encR d[j]! := by
  have hs : (flatK encR 9 d).size = d.size * 9 := by simp
  apply List.ext_getElem
  · simp [hs, encR_len]; omega
  · intro t h1 h2
    rw [encR_len] at h2
    have ht : j * 9 + t < d.size * 9 := by omega
    have hg := get_flatK encR 9 d (j * 9 + t) ht
    rw [show (j * 9 + t) / 9 = j by omega, show (j * 9 + t) % 9 = t by omega] at hg
    rw [getElem!_pos (flatK encR 9 d) (j * 9 + t) (by rw [hs]; exact ht), getElem!_pos (encR d[j]!) t (by rw [encR_len]; exact h2)] at hg
    rw [List.getElem_take, List.getElem_drop, ← hg]
    rfl
theorem flat_reps {w : World} {base : Nat} {ok : Nat → Prop} (l : List S25) : Reps (Kd.M k25 w base ok) 9 l (flatK encR 9 l.toArray).toList := by
  refine ⟨by simp, fun j p hj => ?_⟩
  have hlt : j < l.length := by
    rcases Nat.lt_or_ge j l.length with h | h
    · exact h
    · rw [List.getElem?_eq_none h] at hj; cases hj
  have := flat_seg l.toArray j (by simpa using hlt)
  rw [this]
  have hp : l.toArray[j]! = p := by
    rw [getElem!_pos l.toArray j (by simpa using hlt)]
    simp [List.getElem?_eq_getElem hlt] at hj
    simpa using hj
  rw [hp]
  exact k25_mkM _ _ _ p

theorem flat_at (l : List S25) (j c : Nat) (hj : j < l.length) (hc : c < 9) : (flatK encR 9 l.toArray)[j * 9 + c]! = (encR l[j])[c]! := by
  rw [get_flatK encR 9 l.toArray (j * 9 + c) (by simp; omega), show (j * 9 + c) / 9 = j by omega, show (j * 9 + c) % 9 = c by omega, getElem!_pos l.toArray j (by simpa using hj)]
  simp
theorem holdsR {w : World} {base gb n cap : Nat} {l : List S25} (h : Kd.R k25 25 w base (fun _ => True) (.slice (some ⟨gb, 0, none⟩) n cap) l) : HoldsK encR 9 w gb 0 l.toArray := by
  obtain ⟨cur, hcur, _, _⟩ := own_block h
  intro t ht
  have ht' : t < l.length * 9 := by simpa using ht
  rw [Nat.zero_add]
  refine ⟨?_, blk_frozen hcur _⟩
  have hj : t / 9 < l.length := by omega
  have hc : t % 9 < 9 := Nat.mod_lt _ (by decide)
  have e : t = t / 9 * 9 + t % 9 := by omega
  rw [e, flat_at l (t / 9) (t % 9) hj hc]
  obtain ⟨h0, h1, h2, h3, h4, h5, h6, h7, h8⟩ := own_cells h (t / 9) hj
  generalize t % 9 = c at hc ⊢
  rcases c with _ | _ | _ | _ | _ | _ | _ | _ | _ | c
  · exact h0
  · exact h1
  · exact h2
  · exact h3
  · exact h4
  · exact h5
  · exact h6
  · exact h7
  · exact h8
  · omega
theorem sortL_length (l : List S25) : (sortL l).length = l.length := List.length_mergeSort _
theorem setMany_all (F G : Array Value) (h : G.size = F.size) : setMany F 0 G.toList = G := by
  refine ext_get! (by simp [h]) fun t ht => ?_
  have ht' : t < F.size := by simpa using ht
  rw [get_setMany _ _ _ t ht', if_pos ⟨Nat.zero_le _, by simp; omega⟩, Nat.sub_zero]
  rw [getElem!_pos G.toList t (by simp; omega), getElem!_pos G t (by omega)]
  simp
/-- The row, sorted, in the world that the sort leaves. -/
theorem sorted_own {w : World} {base gb n cap : Nat} {l l' : List S25} (h : Kd.R k25 25 w base (fun _ => True) (.slice (some ⟨gb, 0, none⟩) n cap) l) (hl : l'.length = l.length) (m : Nat) (os : Array Obj) :
    Kd.R k25 25 (sortWorldK encR 9 w gb 0 m l'.toArray os) base (fun _ => True) (.slice (some ⟨gb, 0, none⟩) n cap) l' ∧ Below base w (sortWorldK encR 9 w gb 0 m l'.toArray os) ∧ w.heap.size ≤ (sortWorldK encR 9 w gb 0 m l'.toArray os).heap.size := by
  have hbase : base ≤ gb := Kd.R_base h gb rfl
  have hlt : gb < w.heap.size := Kd.R_lt h gb rfl
  have hH := holdsR h
  have hw : sortWorldK encR 9 w gb 0 m l'.toArray os = grow (((Sort.ahead w m)).setCells gb 0 (flatK encR 9 l'.toArray).toList) os := by
    unfold sortWorldK putRowK
    have h1 : putRow id (Sort.ahead w m) gb 0 (flatK encR 9 l.toArray) = Sort.ahead w m := putRow_self id (Sort.ahead w m) gb 0 _ hH
    have h2 := setCells_putRow (Sort.ahead w m) gb 0 (flatK encR 9 l'.toArray).toList 0 (flatK encR 9 l.toArray) (by simp [hl])
    rw [h1, setMany_all _ _ (by simp [hl])] at h2
    rw [← h2]
  rw [hw]
  obtain ⟨h0, inner, ⟨hm, hown⟩, hr⟩ := h
  rcases hown with ⟨hv, _⟩ | ⟨g', cap', cur, hv, hb, hh, hnc, hcm, hcs, htk⟩
  · cases hv
  · injection hv with ha hn hc
    injection ha with ha
    injection ha with hg
    subst hg; subst hc
    have hlen : (flatK encR 9 l'.toArray).toList.length = l'.length * 9 := by simp
    obtain ⟨cur', h1, h2, h3⟩ := setCells_row (flatK encR 9 l'.toArray).toList 0 (Sort.ahead w m) cur hh (by rw [hlen, hcs]; have : k25.sz = 9 := rfl; rw [this]; omega)
    obtain ⟨s1, s2, s3, s4⟩ := setCells_same gb (flatK encR 9 l'.toArray).toList 0 (Sort.ahead w m)
    have hgl : gb < ((Sort.ahead w m).setCells gb 0 (flatK encR 9 l'.toArray).toList).heap.size := by rw [s4]; exact hlt
    refine ⟨⟨h0, (flatK encR 9 l'.toArray).toList, ⟨by rw [hlen]; rfl, .inr ⟨gb, cap, cur', by rw [hn, hl], hb, ?_, by omega, hcm, by rw [h2, hcs], ?_⟩⟩, flat_reps l'⟩, ?_, ?_⟩
    · show (_ ++ os)[gb]? = _
      rw [Array.getElem?_append_left hgl]
      exact h1
    · rw [h3, List.take_zero, List.nil_append, List.take_append_of_le_length (by rw [hlen]; exact Nat.le_refl _)]
      exact List.take_of_length_le (by rw [hlen]; exact Nat.le_refl _)
    · refine ⟨s1, s2, s3, ?_, fun k hk => ?_⟩
      · show _ ≤ (_ ++ os).size
        rw [Array.size_append, s4]
        exact Nat.le_add_right _ _
      · show (_ ++ os)[k]? = _
        rw [Array.getElem?_append_left (by omega)]
        exact setCells_far _ _ k (by omega)
    · show _ ≤ (_ ++ os).size
      rw [Array.size_append, s4]
      exact Nat.le_add_right _ _
theorem srt_calls (base : Nat) (A : Option Addr) (cap : Nat) (l : List S25) (w : World) (hr : Kd.R k25 25 w base (fun _ => True) (.slice A l.length cap) l) (hl : l.length < 4611686018427387904) :
    Calls Tryz.prog 80 #[.slice A l.length cap, .func (.func 21) #[] #[]] w fun e w' =>
      e = .returned (.tuple #[]) ∧ Kd.R k25 25 w' base (fun _ => True) (.slice A l.length cap) (sortL l) ∧ Below base w w' ∧ w.heap.size ≤ w'.heap.size := by
  rcases Nat.eq_zero_or_pos l.length with h0 | hp
  · obtain rfl := List.eq_nil_of_length_eq_zero h0
    have hcon := AnyF.slices_SortFunc_none (P := Tryz.prog) (ρ := Tryz.sortR_ren) { Tryz.sortR with } A cap (.func (.func 21) #[] #[]) w
    refine Calls.mono hcon ?_
    rintro e w' ⟨rfl, rfl⟩
    exact ⟨rfl, by unfold sortL; rw [List.mergeSort_nil]; exact hr, Below.refl _ _, Nat.le_refl _⟩
  · obtain ⟨gb, cap', hv, _⟩ := Kd.R_form hr hp
    injection hv with ha _ hc
    subst ha; subst hc
    have eg : ∀ args w, (callFunc 21 args).run Tryz.prog w = .ok (.enter 21 args) w := enters_of Tryz.func21 (by kernel_rfl) rfl
    have hcon := AnyQ.slices_SortFunc_total Tryz.sortR 9 Tryz.isAgg25 Tryz.sizeOf25 encR encR_len encR_one cmpR swoR 21 #[] gb 0 cap l.toArray w eg (layR gb 0 l.toArray.size w) (holdsR hr) (Kd.R_lt hr gb rfl) (by simpa using hl) totR
    rw [List.size_toArray] at hcon
    refine Calls.mono hcon ?_
    rintro e w' ⟨rfl, n, os, rfl⟩
    exact ⟨rfl, sorted_own hr (sortL_length l) n os⟩
end Go.Proofs.YtdjamphmndbmjaaGreatDoor.M

/- slices.Compact at []api.Triple, over a row of the call's own. By hand. -/
namespace Go.Proofs.YtdjamphmndbmjaaGreatDoor.M
open Go.RowKit Go.Proofs.YtdjamphmndbmjaaGreatDoorW.PrintWords Go.Proofs.YtdjamphmndbmjaaGreatDoorW.PrintLast Go.Proofs.YtdjamphmndbmjaaGreatDoorW.PrintMore
set_option linter.unusedVariables false
set_option linter.unusedSimpArgs false

/-- Equality of triples, as the model tells it. -/
def eqE (x y : S25) : Bool := (x.f0.f0 == y.f0.f0 && (x.f0.f1.toList == y.f0.f1.toList && (x.f0.f2.toList == y.f0.f2.toList))) && ((x.f1.f0 == y.f1.f0 && (x.f1.f1.toList == y.f1.f1.toList && (x.f1.f2.toList == y.f1.f2.toList))) && ((x.f2.f0 == y.f2.f0 && (x.f2.f1.toList == y.f2.f1.toList && (x.f2.f2.toList == y.f2.f2.toList)))))
theorem eqTM (d : Nat) (w : World) (x0 y0 : Int) (x1 y1 : ByteArray) (x2 y2 : ByteArray) :
    (Op.equalIn (d + 2) 23 (.agg #[.int .i64 x0, .string x1, .string x2]) (.agg #[.int .i64 y0, .string y1, .string y2])).run Tryz.prog w = .ok (x0 == y0 && (x1.toList == y1.toList && (x2.toList == y2.toList))) w := by
  refine eqA_of Tryz.underlying23 (by kernel_rfl) ?_
  refine eqf_cons (by rfl) (by go_simp; rfl) (by go_simp; rfl) (by go_simp) ?_
  refine eqf_cons (by rfl) (by go_simp; rfl) (by go_simp; rfl) (by go_simp) ?_
  exact eqf_last (by rfl) (by go_simp; rfl) (by go_simp; rfl) (by go_simp)
theorem eqTR (d : Nat) (w : World) (x0 y0 : Int) (x1 y1 : ByteArray) (x2 y2 : ByteArray) (x3 y3 : Int) (x4 y4 : ByteArray) (x5 y5 : ByteArray) (x6 y6 : Int) (x7 y7 : ByteArray) (x8 y8 : ByteArray) :
    (Op.equalIn (d + 3) 25 (.agg #[.int .i64 x0, .string x1, .string x2, .int .i64 x3, .string x4, .string x5, .int .i64 x6, .string x7, .string x8]) (.agg #[.int .i64 y0, .string y1, .string y2, .int .i64 y3, .string y4, .string y5, .int .i64 y6, .string y7, .string y8])).run Tryz.prog w = .ok (eqE ⟨⟨x0, x1, x2⟩, ⟨x3, x4, x5⟩, ⟨x6, x7, x8⟩⟩ ⟨⟨y0, y1, y2⟩, ⟨y3, y4, y5⟩, ⟨y6, y7, y8⟩⟩) w := by
  refine eqA_of Tryz.underlying25 (by kernel_rfl) ?_
  refine eqf_cons (by rfl) (by go_simp) (by go_simp) (eqTM (d + 0) w _ _ _ _ _ _) ?_
  refine eqf_cons (by rfl) (by go_simp) (by go_simp) (eqTM (d + 0) w _ _ _ _ _ _) ?_
  exact eqf_last (by rfl) (by go_simp) (by go_simp) (eqTM (d + 0) w _ _ _ _ _ _)
theorem toList_eq (a b : ByteArray) : (a.toList == b.toList) = decide (a = b) := by
  rw [Bool.eq_iff_iff, beq_iff_eq, decide_eq_true_iff, ByteArray.toList_eq, ByteArray.toList_eq]
  exact ⟨bytes_inj', fun h => by rw [h]⟩
theorem eqE_decide (x y : S25) : eqE x y = decide (x = y) := by
  obtain ⟨⟨a0, a1, a2⟩, ⟨a3, a4, a5⟩, ⟨a6, a7, a8⟩⟩ := x
  obtain ⟨⟨b0, b1, b2⟩, ⟨b3, b4, b5⟩, ⟨b6, b7, b8⟩⟩ := y
  unfold eqE
  simp only [toList_eq]
  rw [Bool.eq_iff_iff]
  simp only [Bool.and_eq_true, beq_iff_eq, decide_eq_true_iff, S25.mk.injEq, S23.mk.injEq]

theorem i64_wrap_id (n : Int) (h1 : -9223372036854775808 ≤ n) (h2 : n ≤ 9223372036854775807) : IntKind.i64.wrap n = n := by
  show (if (true && decide (n % 18446744073709551616 ≥ 9223372036854775808)) = true then n % 18446744073709551616 - 18446744073709551616 else n % 18446744073709551616) = n
  simp only [Bool.true_and, decide_eq_true_eq]
  split <;> omega
/-- A list in which no two that are neighbours are the same. -/
def uniqFrom (p : S25) : List S25 → List S25
  | [] => []
  | y :: l => if y = p then uniqFrom p l else y :: uniqFrom y l
def uniq : List S25 → List S25
  | [] => []
  | x :: l => x :: uniqFrom x l
theorem uniqFrom_snoc (p : S25) (l : List S25) (y : S25) : uniqFrom p (l ++ [y]) = uniqFrom p l ++ (if y = (l.getLastD p) then [] else [y]) := by
  induction l generalizing p with
  | nil => rw [List.nil_append, uniqFrom, uniqFrom, uniqFrom, List.nil_append]; rfl
  | cons z l ih =>
    rw [List.cons_append, uniqFrom, uniqFrom, List.getLastD_cons]
    split
    · rename_i h; subst h; exact ih z
    · rw [ih z]; rfl
theorem uniq_take (l : List S25) (j : Nat) (h : j < l.length) (hp : 0 < j) : uniq (l.take (j + 1)) = uniq (l.take j) ++ (if l[j] = l[j - 1] then [] else [l[j]]) := by
  cases l with
  | nil => simp at h
  | cons x l =>
    obtain ⟨i, rfl⟩ : ∃ i, j = i + 1 := ⟨j - 1, by omega⟩
    have hi : i < l.length := by simpa using h
    rw [List.take_succ_cons, List.take_succ_cons, uniq, uniq, take_one l i hi, uniqFrom_snoc]
    have e : (l.take i).getLastD x = (x :: l)[i] := by
      cases i with
      | zero => simp
      | succ i => 
        rw [take_one l i (by omega), List.getLastD_concat]
        rfl
    rw [e]
    rfl
theorem uniq_one (l : List S25) (h : 0 < l.length) : uniq (l.take 1) = l.take 1 := by
  cases l with
  | nil => simp at h
  | cons x l => rfl

theorem own_cells_at {w : World} {base gb n cap : Nat} {m : List S25} (h : Kd.R k25 25 w base (fun _ => True) (.slice (some ⟨gb, 0, none⟩) n cap) m) (j o : Nat) (x : S25) (hj : j < m.length) (ho : o = j * 9) (hx : m[j] = x) :
    w.cell? ⟨gb, o, none⟩ = some (.int .i64 x.f0.f0) ∧ w.cell? ⟨gb, o + 1, none⟩ = some (.string x.f0.f1) ∧ w.cell? ⟨gb, o + 2, none⟩ = some (.string x.f0.f2) ∧ w.cell? ⟨gb, o + 3, none⟩ = some (.int .i64 x.f1.f0) ∧ w.cell? ⟨gb, o + 4, none⟩ = some (.string x.f1.f1) ∧ w.cell? ⟨gb, o + 5, none⟩ = some (.string x.f1.f2) ∧ w.cell? ⟨gb, o + 6, none⟩ = some (.int .i64 x.f2.f0) ∧ w.cell? ⟨gb, o + 7, none⟩ = some (.string x.f2.f1) ∧ w.cell? ⟨gb, o + 8, none⟩ = some (.string x.f2.f2) := by
  subst ho; subst hx
  exact own_cells h j hj
attribute [local go_sem high] eqTR
set_option maxHeartbeats 8000000 in
set_option maxRecDepth 100000 in
theorem cmpt_calls (base : Nat) (A : Option Addr) (cap : Nat) (l : List S25) (w : World) (hr : Kd.R k25 25 w base (fun _ => True) (.slice A l.length cap) l) (hbase : base ≤ w.heap.size) :
    Calls Tryz.prog 81 #[.slice A l.length cap] w fun e w' => (∃ v, e = .returned v ∧ Kd.R k25 25 w' base (fun _ => True) v (uniq l)) ∧ Below base w w' ∧ w.heap.size ≤ w'.heap.size := by
  have hcl : l.length ≤ cap := (Kd.R_reads' hr).2.1
  have hcap : cap ≤ 9223372036854775807 := by
    obtain ⟨inner, _, hown⟩ := Kd.R_own hr
    rcases hown with ⟨hv, _⟩ | ⟨g', cap', cur, hv, _, _, _, hcm, _⟩
    · injection hv with _ _ hc; omega
    · injection hv with _ _ hc; subst hc; simpa [maxLen] using hcm
  have HR := Aside0.mk hr
  have HBASE := Aside0.mk hbase
  have hu25 := Tryz.underlying25
  clear hr hbase
  rcases Nat.lt_or_ge l.length 2 with h2 | h2
  · have h2z : (l.length : Int) < 2 := by omega
    have hu : uniq l = l := by
      rcases l with _ | ⟨x, _ | ⟨y, l⟩⟩
      · rfl
      · rfl
      · simp only [List.length_cons] at h2; omega
    rw [hu]
    go_enter Tryz.func81, Tryz.ntmps81
    go_wp2
    go_ret
    exact ⟨⟨_, rfl, HR.out⟩, Below.refl _ _, Nat.le_refl _⟩
  · have h2z : ¬ (l.length : Int) < 2 := by omega
    obtain ⟨gb, rfl⟩ : ∃ gb, A = some (⟨gb, 0, none⟩ : Addr) := by
      obtain ⟨g', c', hv, _⟩ := Kd.R_form HR.out (by omega)
      injection hv with ha
      exact ⟨g', ha⟩
    have hGB : base ≤ gb := Kd.R_base HR.out gb rfl
    go_enter Tryz.func81, Tryz.ntmps81
    go_wp2
    go_loopg [3, 4, 5] l.length (fun gg s3 _ _ wr => ∃ k : Nat, 0 < k ∧ k ≤ l.length ∧ l.length - k ≤ gg ∧ s3 = .int .i64 k ∧ Aside0 (uniq (l.take k) = l.take k) ∧ ∃ q, wr = w.drewN q)
    case atStart => exact ⟨1, by omega, by omega, by omega, rfl, ⟨uniq_one l (by omega)⟩, 0, rfl⟩
    case round =>
      obtain ⟨k, hk0, hkn, hgg, rfl, HU, q, rfl⟩ := hrel
      by_cases hlt : k < l.length
      · have hltz : (k : Int) < (l.length : Int) := by omega
        obtain ⟨x, hx⟩ : ∃ x, l[k] = x := ⟨_, rfl⟩
        obtain ⟨j, hj⟩ : ∃ j, k - 1 = j := ⟨_, rfl⟩
        have hjl : j < l.length := by omega
        have hjz : (j : Int) < (l.length : Int) := by omega
        obtain ⟨y, hy⟩ : ∃ y, l[j] = y := ⟨_, rfl⟩
        obtain ⟨a0, a1, a2, a3, a4, a5, a6, a7, a8⟩ := own_cells_at HR.out k (k * 9) x (by omega) rfl hx
        obtain ⟨b0, b1, b2, b3, b4, b5, b6, b7, b8⟩ := own_cells_at HR.out j (j * 9) y (by omega) rfl hy
        have hw1 : IntKind.i64.wrap ((k : Int) - 1) = (j : Int) := (i64_wrap_id _ (by omega) (by omega)).trans (by omega)
        have hut := uniq_take l k hlt hk0
        have hut2 : l[k - 1]'(by omega) = y := by rw [← hy]; congr 1
        rw [hx, hut2] at hut
        have HJ := Aside0.mk hj
        clear hut2 hj
        have HX := Aside0.mk hx
        have HY := Aside0.mk hy
        have HUT := Aside0.mk hut
        have heq := eqE_decide x y
        clear hx hy hut
        by_cases hxy : x = y
        · rw [decide_eq_true hxy] at heq
          have HXY := Aside0.mk hxy
          clear hxy
          go_wp2
          repeat (go_quiet (fail); try go_wp2)
          have hstart : uniq (l.take (k + 1)) = l.take k := by rw [HUT.out, if_pos HXY.out, List.append_nil, HU.out]
          have HST := Aside0.mk hstart
          clear hstart a0 a1 a2 a3 a4 a5 a6 a7 a8 b0 b1 b2 b3 b4 b5 b6 b7 b8 heq hw1 hjl hjz HX HY HUT HXY HJ
          go_loopg [3, 5] l.length (fun gg s3 s5 wr => ∃ (i k2 : Nat) (m : List S25), k ≤ i ∧ 0 < k2 ∧ i + 1 ≤ k + k2 ∧ k + k2 ≤ l.length ∧ l.length - (k + k2) ≤ gg ∧ s3 = .int .i64 i ∧ s5 = .int .i64 k2 ∧ Aside0 (Kd.R k25 25 wr base (fun _ => True) (.slice (some ⟨gb, 0, none⟩) l.length cap) m) ∧ Aside0 (m.take i = uniq (l.take (k + k2))) ∧ Aside0 (m.drop (k + k2 - 1) = l.drop (k + k2 - 1)) ∧ Aside0 (Below base w wr ∧ w.heap.size ≤ wr.heap.size))
          case atStart =>
            exact ⟨k, 1, l, Nat.le_refl _, by omega, by omega, by omega, by omega, rfl, rfl, ⟨Kd.R_drewN HR.out _⟩, ⟨HST.out.symm⟩, ⟨rfl⟩, ⟨below_at rfl (Below.refl _ _), Nat.le_refl _⟩⟩
          case round =>
            obtain ⟨i, k2, m, hki, hk20, hik, hkk, hg2, rfl, rfl, HM, HT, HD, HB⟩ := hrel
            have hml : m.length = l.length := (Kd.R_reads' HM.out).1.symm
            by_cases hlt2 : k + k2 < l.length
            · have hlt2z : (k2 : Int) < ((l.length - k : Nat) : Int) := by omega
              obtain ⟨j, hj⟩ : ∃ j, k2 - 1 = j := ⟨_, rfl⟩
              have hjz : (j : Int) < ((l.length - k : Nat) : Int) := by omega
              have hd0 : m.drop (k + j) = l.drop (k + j) := by have := HD.out; rw [show k + k2 - 1 = k + j by omega] at this; exact this
              obtain ⟨hy, hd1⟩ := del_at hml (by omega) hd0
              rw [show k + j + 1 = k + k2 by omega] at hd1
              obtain ⟨hx, hd2⟩ := del_at hml hlt2 hd1
              obtain ⟨x, hxx⟩ : ∃ x, l[k + k2] = x := ⟨_, rfl⟩
              obtain ⟨y, hyy⟩ : ∃ y, l[k + j]'(by omega) = y := ⟨_, rfl⟩
              have hM1 : m[k + k2]'(by omega) = x := hx.trans hxx
              obtain ⟨a0, a1, a2, a3, a4, a5, a6, a7, a8⟩ := own_cells_at HM.out (k + k2) (k * 9 + k2 * 9) x (by omega) (by omega) (hx.trans hxx)
              obtain ⟨b0, b1, b2, b3, b4, b5, b6, b7, b8⟩ := own_cells_at HM.out (k + j) (k * 9 + j * 9) y (by omega) (by omega) (hy.trans hyy)
              have hw1 : IntKind.i64.wrap ((k2 : Int) - 1) = (j : Int) := (i64_wrap_id _ (by omega) (by omega)).trans (by omega)
              have hut := uniq_take l (k + k2) hlt2 (by omega)
              have hut2 : l[k + k2 - 1]'(by omega) = y := by rw [← hyy]; congr 1; omega
              rw [hxx, hut2] at hut
              have HUT := Aside0.mk hut
              have HD1 := Aside0.mk hd1
              have HJ := Aside0.mk hj
              have heq := eqE_decide x y
              clear hd0 hd1 hd2 hx hy hxx hyy hM1 hut hut2 hj
              by_cases hxy : x = y
              · rw [decide_eq_true hxy] at heq
                have HXY := Aside0.mk hxy
                clear hxy
                go_wp2
                repeat (go_quiet (fail); try go_wp2)
                go_roundg (l.length - (k + (k2 + 1)))
                case measure => omega
                case rel =>
                  refine ⟨i, k2 + 1, m, hki, by omega, by omega, by omega, Nat.le_refl _, rfl, by go_num, ⟨Kd.R_drewN HM.out _⟩, ⟨?_⟩, ⟨HD1.out⟩, ⟨below_at rfl HB.out.1, HB.out.2⟩⟩
                  rw [HT.out, ← Nat.add_assoc, HUT.out, if_pos HXY.out, List.append_nil]
              · rw [decide_eq_false hxy] at heq
                have HXY := Aside0.mk hxy
                clear hxy
                have hiz : (i : Int) < (l.length : Int) := by omega
                go_wp2
                go_quiet (fail)
                go_wp2_with ((with_reducible refine gate_store (t := 25) (p := 51) rfl ?_); refine stop_ ?_)
                refine ⟨?_⟩
                refine Kd.R_store k25 (w0 := w) (o' := i * 9) base rfl rfl 25 (.tmp 51) (.tmp 50) rfl 25 (i : Int) 0 m x (aggR x) (celR x).toList (celR (m[i]'(by omega))).toList (fun _ => True) (fun _ => False) rfl rfl rfl rfl ?at_ ?a1 (Kd.R_drewN HM.out _) ?a0 ?ai rfl ?acc ?aj ?aM (fun _ h => h.elim) (below_at rfl HB.out.1) ?_
                case at_ => obtain ⟨i, hi, hz⟩ := Option.map_eq_some_iff.1 xinfoT; have h0 := congrArg (fun q => q.2.1) hz; rw [hi]; exact congrArg some h0
                case a1 => intro q hq; simp only [celR, List.mem_cons, List.not_mem_nil, or_false] at hq; rcases hq with rfl | rfl | rfl | rfl | rfl | rfl | rfl | rfl | rfl <;> rfl
                case a0 => omega
                case ai => omega
                case acc =>
                  obtain ⟨s0, s1, s2, s3, s4, s5, s6, s7, s8⟩ := own_cells HM.out i (by omega)
                  intro j u hu
                  rw [Int.toNat_natCast]
                  rcases j with _ | _ | _ | _ | _ | _ | _ | _ | _ | j
                  · exact s0.trans hu
                  · exact s1.trans hu
                  · exact s2.trans hu
                  · exact s3.trans hu
                  · exact s4.trans hu
                  · exact s5.trans hu
                  · exact s6.trans hu
                  · exact s7.trans hu
                  · exact s8.trans hu
                  · cases hu
                case aj => exact Nat.le_refl _
                case aM => exact k25_mkM _ _ _ x
                intro w3 hM3 hB3 hg3
                have HM3 := Aside0.mk hM3
                have HB3 := Aside0.mk (And.intro hB3 hg3.size)
                clear hM3 hB3 hg3
                go_wp2
                go_roundg (l.length - (k + (k2 + 1)))
                case measure => omega
                case rel =>
                  refine ⟨i + 1, k2 + 1, m.set i x, by omega, by omega, by omega, by omega, Nat.le_refl _, by go_num, by go_num, ⟨by rw [← Int.toNat_natCast i]; exact HM3.out⟩, ⟨?_⟩, ⟨?_⟩, ⟨HB3.out.1, Nat.le_trans HB.out.2 HB3.out.2⟩⟩
                  · rw [← Nat.add_assoc, HUT.out, if_neg HXY.out, ← HT.out, take_one (m.set i x) i (by rw [List.length_set]; omega), List.take_set_of_le (Nat.le_refl _), List.getElem_set_self]
                  · rw [List.drop_set_of_lt (by omega)]
                    exact HD1.out
            · have hlt2z : ¬ (k2 : Int) < ((l.length - k : Nat) : Int) := by omega
              have hkl : k + k2 = l.length := by omega
              have htake : m.take i = uniq l := by rw [HT.out, hkl, List.take_length]
              have HTK := Aside0.mk htake
              have hil : i < l.length := by omega
              have hicap : (i : Int) ≤ cap := by omega
              have hilz : (i : Int) ≤ l.length := by omega
              obtain ⟨cur, hcur, hsz, hnc⟩ := own_block HM.out
              obtain ⟨vs, hvs, hclr⟩ : ∃ vs : List Value, vs.length = (l.length - i) * 9 ∧ ∀ ty, (Builtin.clear_ #[26] ty #[.slice (some ⟨gb, i * 9, none⟩) (l.length - i) (cap - i)]).run Tryz.prog wr = .ok (.tuple #[]) (wr.setCells gb (i * 9) vs) := by
                refine ⟨(Builtin.zeroCells (Value.agg #[(.int .i64 0), (.string ⟨#[]⟩), (.string ⟨#[]⟩), (.int .i64 0), (.string ⟨#[]⟩), (.string ⟨#[]⟩), (.int .i64 0), (.string ⟨#[]⟩), (.string ⟨#[]⟩)]).cells (l.length - i)).toList, by simp [Builtin.zeroCells, Value.cells], fun ty => clear_run wr 26 25 ty _ Tryz.underlying26 zeroR rfl ?_ gb (i * 9) (l.length - i) (cap - i) (by omega) ?_ ?_⟩
                · intro j
                  rcases j with _ | _ | _ | _ | _ | _ | _ | _ | _ | j <;> rfl
                · intro j hj
                  rw [cell_of_row wr gb _ cur 25 (0, 0) hcur]
                  simp
                  omega
                · intro j hj
                  exact blk_frozen hcur _
              have HV := Aside0.mk hvs
              clear hcur hsz hnc hvs htake hkl
              go_wp2
              go_ret
              refine ⟨⟨_, rfl, ?_⟩, ?_, ?_⟩
              · rw [← HTK.out]
                exact own_again (Kd.R_take HM.out (by omega)) vs (i * 9) (Nat.le_refl _) (by rw [HV.out]; omega)
              · exact HB.out.1.trans ⟨(setCells_same gb vs (i * 9) wr).1, (setCells_same gb vs (i * 9) wr).2.1, (setCells_same gb vs (i * 9) wr).2.2.1, by rw [(setCells_same gb vs (i * 9) wr).2.2.2]; exact Nat.le_refl _, fun k hk => setCells_far _ _ k (by omega)⟩
              · rw [(setCells_same gb vs (i * 9) wr).2.2.2]; exact HB.out.2
        · rw [decide_eq_false hxy] at heq
          have HXY := Aside0.mk hxy
          clear hxy
          go_wp2
          go_quiet (fail)
          go_wp2
          go_roundg (l.length - (k + 1))
          case measure => omega
          case rel =>
            refine ⟨k + 1, by omega, by omega, Nat.le_refl _, by go_num, ⟨?_⟩, _, rfl⟩
            rw [HUT.out, if_neg HXY.out, HU.out, take_one l k hlt, HX.out]
      · have hltz : ¬ (k : Int) < (l.length : Int) := by omega
        obtain rfl : k = l.length := by omega
        go_wp2
        go_ret
        have hu := HU.out
        rw [List.take_length] at hu
        rw [hu]
        exact ⟨⟨_, rfl, Kd.R_drewN HR.out _⟩, below_at rfl (Below.refl _ _), Nat.le_refl _⟩
end Go.Proofs.YtdjamphmndbmjaaGreatDoor.M

/- set.Union: of two lists the triples, sorted, each once. By hand. -/
namespace Go.Proofs.YtdjamphmndbmjaaGreatDoor.M
open Go.RowKit Go.Proofs.YtdjamphmndbmjaaGreatDoorW.PrintWords Go.Proofs.YtdjamphmndbmjaaGreatDoorW.PrintLast Go.Proofs.YtdjamphmndbmjaaGreatDoorW.PrintMore
set_option linter.unusedVariables false
set_option linter.unusedSimpArgs false

/-- What both have together, sorted, each once. -/
def unionR (a b : List S25) : List S25 := uniq (sortL (a ++ b))
def set_Union.f (l0 : List S25) (l1 : List S25) : Option (List S25) := if (l0.length + l1.length) * 120 ≤ 140737488355328 then some (unionR l0 l1) else none
set_option maxHeartbeats 4000000 in
set_option maxRecDepth 100000 in
theorem set_Union.calls (A0 : Option Addr) (c0 : Nat) (l0 : List S25) (A1 : Option Addr) (c1 : Nat) (l1 : List S25) (r : List S25) (w : World) (hr0 : Kd.C k25 w A0 l0.length l0) (hc0 : l0.length ≤ c0) (hr1 : Kd.C k25 w A1 l1.length l1) (hc1 : l1.length ≤ c1) (h : set_Union.f l0 l1 = some r) :
    Calls Tryz.prog 108 #[.slice A0 l0.length c0, .slice A1 l1.length c1] w fun e w' => ∃ v0_ : Value, e = .returned (v0_) ∧ Kd.R k25 25 w' w.heap.size (fun _ => True) v0_ r ∧ Below w.heap.size w w' := by
  unfold set_Union.f at h
  split at h
  · rename_i hm
    obtain rfl := Option.some.inj h
    clear h
    have hcat := fun (W : World) (g0 : Nat) (h0 : W.cell? ⟨g0, 0, none⟩ = some (.slice A0 l0.length c0)) (h1 : W.cell? ⟨g0, 1, none⟩ = some (.slice A1 l1.length c1)) (hC0 : Kd.C k25 W A0 l0.length l0) (hC1 : Kd.C k25 W A1 l1.length l1) => concat_calls g0 A0 A1 c0 c1 l0 l1 W h0 h1 hC0 hC1 hc0 hc1 hm
    have HCAT := Aside0.mk hcat
    have hll : (l0 ++ l1).length < 4611686018427387904 := by rw [List.length_append]; omega
    have hsrt := fun (base : Nat) (A : Option Addr) (cap : Nat) (W : World) (hR : Kd.R k25 25 W base (fun _ => True) (.slice A (l0 ++ l1).length cap) (l0 ++ l1)) => srt_calls base A cap (l0 ++ l1) W hR hll
    have hcmp := fun (base : Nat) (A : Option Addr) (cap : Nat) (W : World) (hR : Kd.R k25 25 W base (fun _ => True) (.slice A (sortL (l0 ++ l1)).length cap) (sortL (l0 ++ l1))) (hb : base ≤ W.heap.size) => cmpt_calls base A cap (sortL (l0 ++ l1)) W hR hb
    unfold unionR
    rw [sortL_length] at hcmp
    generalize hn : (l0 ++ l1).length = n at hsrt hcmp
    have HN := Aside0.mk hn
    clear hn
    generalize hsl : sortL (l0 ++ l1) = sl at hsrt hcmp ⊢
    have HSRT := Aside0.mk hsrt
    have HCMP := Aside0.mk hcmp
    have HR0 := Aside0.mk hr0
    have HR1 := Aside0.mk hr1
    have HB := Aside0.mk (Below.refl w.heap.size w)
    clear hcat hsrt hcmp hr0 hr1 hll hsl
    go_enter Tryz.func108, Tryz.ntmps108
    go_wp2_with (first | (go_at_call 148; refine (HCAT.out _ _ ?h0 ?h1 (Kd.C_alloc HR0.out _) (Kd.C_alloc HR1.out _)).mono ?_; (case h0 => exact (blk_cell (blk_new w _) 0).trans rfl); (case h1 => exact (blk_cell (blk_new w _) 1).trans rfl); rintro e w' ⟨⟨v, rfl, hv⟩, hb⟩; obtain ⟨A, c, ev⟩ := Kd.R_slice hv; rw [HN.out] at ev; subst ev; have HV1 := Aside0.mk hv; have HB1 := Aside0.mk hb; clear hv hb) | (go_at_call 80; refine (HSRT.out _ _ _ _ HV1.out).mono ?_; rintro e w' ⟨rfl, hv, hb, hsz⟩; have HV2 := Aside0.mk hv; have HB2 := Aside0.mk (And.intro hb hsz); clear hv hb hsz) | (go_at_call 81; refine (HCMP.out _ _ _ _ HV2.out ?hbs).mono ?_; (case hbs => exact Nat.le_trans HB1.out.size HB2.out.2); rintro e w' ⟨⟨v, rfl, hv⟩, hb, hsz⟩; have HV3 := Aside0.mk hv; have HB3 := Aside0.mk (And.intro hb hsz); clear hv hb hsz))
    go_ret
    refine ⟨_, rfl, Kd.R_lower HV3.out ?_, ?_⟩
    · rw [alloc_size1]; omega
    · exact (below_step (below_alloc HB.out _) HB1.out).trans ((HB2.out.1.trans HB3.out.1).mono (by rw [alloc_size1]; omega))
  · cases h
end Go.Proofs.YtdjamphmndbmjaaGreatDoor.M

/- Package set by hand: Right, Has, Join, Less, Both; stratasame.Triples. Contracts in plain words, results as rows that are read. -/
namespace Go.Proofs.YtdjamphmndbmjaaGreatDoor.M
open Go.RowKit Go.Proofs.YtdjamphmndbmjaaGreatDoorW.PrintWords Go.Proofs.YtdjamphmndbmjaaGreatDoorW.PrintLast Go.Proofs.YtdjamphmndbmjaaGreatDoorW.PrintMore
set_option linter.unusedVariables false
set_option linter.unusedSimpArgs false

theorem sorted_calls (A : Option Addr) (c : Nat) (l : List S25) (w : World) (hC : Kd.C k25 w A l.length l) (hc : l.length ≤ c) :
    Calls Tryz.prog 16 #[.slice A l.length c] w fun e w' => e = .returned (errW (sortedR l)) ∧ Below w.heap.size w w' := pSorted.calls A c l _ w hC hc rfl
/-- What is wrong with one or two sets. -/
def right2 (a b : List S25) : Option Int := match sortedR a with | some e => some e | none => sortedR b
theorem right2_none {a b : List S25} : right2 a b = none ↔ sortedR a = none ∧ sortedR b = none := by
  unfold right2
  cases h : sortedR a <;> simp
set_option maxHeartbeats 4000000 in
set_option maxRecDepth 100000 in
theorem right2_calls (g0 : Nat) (A0 A1 : Option Addr) (c0 c1 : Nat) (l0 l1 : List S25) (w : World) (h0 : w.cell? ⟨g0, 0, none⟩ = some (.slice A0 l0.length c0)) (h1 : w.cell? ⟨g0, 1, none⟩ = some (.slice A1 l1.length c1))
    (hr0 : Kd.C k25 w A0 l0.length l0) (hr1 : Kd.C k25 w A1 l1.length l1) (hc0 : l0.length ≤ c0) (hc1 : l1.length ≤ c1) :
    Calls Tryz.prog 106 #[.slice (some ⟨g0, 0, none⟩) 2 2] w fun e w' => e = .returned (errW (right2 l0 l1)) ∧ Below w.heap.size w w' := by
  have HR0 := Aside0.mk hr0
  have HR1 := Aside0.mk hr1
  have H0 := Aside0.mk h0
  have H1 := Aside0.mk h1
  have hS0 := fun W (hC : Kd.C k25 W A0 l0.length l0) => sorted_calls A0 c0 l0 W hC hc0
  have hS1 := fun W (hC : Kd.C k25 W A1 l1.length l1) => sorted_calls A1 c1 l1 W hC hc1
  have HS0 := Aside0.mk hS0
  have HS1 := Aside0.mk hS1
  clear hr0 hr1 h0 h1 hS0 hS1
  go_enter Tryz.func106, Tryz.ntmps106
  go_wp2
  go_loopg [4, 5, 8] 2 (fun gg _ _ s8 wr => Aside0 (Below w.heap.size w wr) ∧ ((s8 = .int .i64 0 ∧ gg = 2) ∨ (s8 = .int .i64 1 ∧ gg = 1 ∧ Aside0 (sortedR l0 = none)) ∨ (s8 = .int .i64 2 ∧ gg = 0 ∧ Aside0 (right2 l0 l1 = none))))
  case atStart => exact ⟨⟨Below.refl _ _⟩, .inl ⟨rfl, rfl⟩⟩
  case round =>
    obtain ⟨HB, hrel⟩ := hrel
    rcases hrel with ⟨rfl, rfl⟩ | ⟨rfl, rfl, HN⟩ | ⟨rfl, rfl, HN⟩
    · have h0 := (HB.out.cell (World.block_lt_of_cell? _ _ H0.out)).trans H0.out
      have hS := HS0.out wr (Kd.C_below HR0.out HB.out)
      obtain ⟨r, hr⟩ : ∃ r, sortedR l0 = r := ⟨_, rfl⟩
      rw [hr] at hS
      have HRR := Aside0.mk hr
      clear hr
      cases r with
      | none =>
        rw [errW_none] at hS
        go_wp2_with (go_at_call 16; refine hS.mono ?_; rintro e w' ⟨rfl, hb⟩; have HB1 := Aside0.mk hb; clear hb)
        go_roundg 1
        case measure => omega
        case rel => exact ⟨⟨below_step HB.out HB1.out⟩, .inr (.inl ⟨by go_num, rfl, HRR⟩)⟩
      | some n =>
        rw [errW_some] at hS
        go_wp2_with (go_at_call 16; refine hS.mono ?_; rintro e w' ⟨rfl, hb⟩; have HB1 := Aside0.mk hb; clear hb)
        go_ret
        refine ⟨?_, below_step HB.out HB1.out⟩
        unfold right2
        rw [HRR.out]
        rfl
    · have h1 := (HB.out.cell (World.block_lt_of_cell? _ _ H1.out)).trans H1.out
      have hS := HS1.out wr (Kd.C_below HR1.out HB.out)
      obtain ⟨r, hr⟩ : ∃ r, sortedR l1 = r := ⟨_, rfl⟩
      rw [hr] at hS
      have HRR := Aside0.mk hr
      clear hr
      cases r with
      | none =>
        rw [errW_none] at hS
        go_wp2_with (go_at_call 16; refine hS.mono ?_; rintro e w' ⟨rfl, hb⟩; have HB1 := Aside0.mk hb; clear hb)
        go_roundg 0
        case measure => omega
        case rel => exact ⟨⟨below_step HB.out HB1.out⟩, .inr (.inr ⟨by go_num, rfl, ⟨right2_none.2 ⟨HN.out, HRR.out⟩⟩⟩)⟩
      | some n =>
        rw [errW_some] at hS
        go_wp2_with (go_at_call 16; refine hS.mono ?_; rintro e w' ⟨rfl, hb⟩; have HB1 := Aside0.mk hb; clear hb)
        go_ret
        refine ⟨?_, below_step HB.out HB1.out⟩
        unfold right2
        rw [HN.out]
        show _ = Ending.returned (errW (sortedR l1))
        rw [HRR.out]
        rfl
    · go_wp2
      go_ret
      exact ⟨by rw [HN.out]; rfl, HB.out⟩
set_option maxHeartbeats 4000000 in
set_option maxRecDepth 100000 in
theorem right1_calls (g0 : Nat) (A0 : Option Addr) (c0 : Nat) (l0 : List S25) (w : World) (h0 : w.cell? ⟨g0, 0, none⟩ = some (.slice A0 l0.length c0))
    (hr0 : Kd.C k25 w A0 l0.length l0) (hc0 : l0.length ≤ c0) :
    Calls Tryz.prog 106 #[.slice (some ⟨g0, 0, none⟩) 1 1] w fun e w' => e = .returned (errW (sortedR l0)) ∧ Below w.heap.size w w' := by
  have HR0 := Aside0.mk hr0
  have H0 := Aside0.mk h0
  have hS0 := fun W (hC : Kd.C k25 W A0 l0.length l0) => sorted_calls A0 c0 l0 W hC hc0
  have HS0 := Aside0.mk hS0
  clear hr0 h0 hS0
  go_enter Tryz.func106, Tryz.ntmps106
  go_wp2
  go_loopg [4, 5, 8] 1 (fun gg _ _ s8 wr => Aside0 (Below w.heap.size w wr) ∧ ((s8 = .int .i64 0 ∧ gg = 1) ∨ (s8 = .int .i64 1 ∧ gg = 0 ∧ Aside0 (sortedR l0 = none))))
  case atStart => exact ⟨⟨Below.refl _ _⟩, .inl ⟨rfl, rfl⟩⟩
  case round =>
    obtain ⟨HB, hrel⟩ := hrel
    rcases hrel with ⟨rfl, rfl⟩ | ⟨rfl, rfl, HN⟩
    · have h0 := (HB.out.cell (World.block_lt_of_cell? _ _ H0.out)).trans H0.out
      have hS := HS0.out wr (Kd.C_below HR0.out HB.out)
      obtain ⟨r, hr⟩ : ∃ r, sortedR l0 = r := ⟨_, rfl⟩
      rw [hr] at hS
      have HRR := Aside0.mk hr
      clear hr
      cases r with
      | none =>
        rw [errW_none] at hS
        go_wp2_with (go_at_call 16; refine hS.mono ?_; rintro e w' ⟨rfl, hb⟩; have HB1 := Aside0.mk hb; clear hb)
        go_roundg 0
        case measure => omega
        case rel => exact ⟨⟨below_step HB.out HB1.out⟩, .inr ⟨by go_num, rfl, HRR⟩⟩
      | some n =>
        rw [errW_some] at hS
        go_wp2_with (go_at_call 16; refine hS.mono ?_; rintro e w' ⟨rfl, hb⟩; have HB1 := Aside0.mk hb; clear hb)
        go_ret
        refine ⟨?_, below_step HB.out HB1.out⟩
        rw [HRR.out]
        rfl
    · go_wp2
      go_ret
      exact ⟨by rw [HN.out]; rfl, HB.out⟩
end Go.Proofs.YtdjamphmndbmjaaGreatDoor.M

/- Package set by hand: Join, Less, Both, Has. -/
namespace Go.Proofs.YtdjamphmndbmjaaGreatDoor.M
open Go.RowKit Go.Proofs.YtdjamphmndbmjaaGreatDoorW.PrintWords Go.Proofs.YtdjamphmndbmjaaGreatDoorW.PrintLast Go.Proofs.YtdjamphmndbmjaaGreatDoorW.PrintMore
set_option linter.unusedVariables false
set_option linter.unusedSimpArgs false

/-- A result that is a row to be read. -/
def Row (w : World) (v : Value) (l : List S25) : Prop := ∃ A c, v = .slice A l.length c ∧ Kd.C k25 w A l.length l ∧ l.length ≤ c
theorem Row.below {w w' : World} {v : Value} {l : List S25} (h : Row w v l) (hb : Below w.heap.size w w') : Row w' v l := by
  obtain ⟨A, c, e, h1, h2⟩ := h
  exact ⟨A, c, e, Kd.C_below h1 hb, h2⟩
theorem Row.nil (w : World) : Row w (.slice none 0 0) [] := ⟨none, 0, rfl, ⟨rfl, by simp, fun h => absurd h (Nat.lt_irrefl 0)⟩, Nat.le_refl _⟩
theorem Row.of_R {w : World} {base : Nat} {ok : Nat → Prop} {v : Value} {l : List S25} (h : Kd.R k25 25 w base ok v l) : Row w v l := by
  obtain ⟨A, c, e, h1, h2⟩ := Kd.R_reads h
  exact ⟨A, c, e, h2, h1⟩
/-- What of a list is, or is not, in a set. -/
def partR (a b : List S25) (is : Bool) : List S25 := a.filter fun t => inR b t == is
theorem part_calls (A0 : Option Addr) (c0 : Nat) (l0 : List S25) (A1 : Option Addr) (c1 : Nat) (l1 : List S25) (is : Bool) (w : World) (hr0 : Kd.C k25 w A0 l0.length l0) (hc0 : l0.length ≤ c0) (hr1 : Kd.C k25 w A1 l1.length l1) (hc1 : l1.length ≤ c1) (hl : l0.length < 1172812402961) (hs : sortedR l1 = none) :
    Calls Tryz.prog 107 #[.slice A0 l0.length c0, .slice A1 l1.length c1, .bool is] w fun e w' => ∃ v, e = .returned v ∧ Row w' v (partR l0 l1 is) ∧ Below w.heap.size w w' :=
  (set_Part.calls A0 c0 l0 A1 c1 l1 is (partR l0 l1 is) w hr0 hc0 hr1 hc1 (by unfold set_Part.f partR; rw [if_pos ⟨hl, hs⟩])).mono fun _ _ ⟨v, he, hR, hb⟩ => ⟨v, he, Row.of_R hR, hb⟩
theorem sortedR_len {l : List S25} (h : sortedR l = none) : l.length ≤ 200 := (sortedR_none h).1
theorem cells2 (w : World) (A0 A1 : Option Addr) (c0 c1 n0 n1 : Nat) (T : Nat) : (w.alloc (.cells #[.slice A0 n0 c0, .slice A1 n1 c1] T)).cell? ⟨w.heap.size, 0, none⟩ = some (.slice A0 n0 c0) ∧ (w.alloc (.cells #[.slice A0 n0 c0, .slice A1 n1 c1] T)).cell? ⟨w.heap.size, 1, none⟩ = some (.slice A1 n1 c1) := ⟨(blk_cell (blk_new w _) 0).trans rfl, (blk_cell (blk_new w _) 1).trans rfl⟩
end Go.Proofs.YtdjamphmndbmjaaGreatDoor.M
