-- WRITTEN BY wip/drv.py, a program of this repo that drives the kit's print.py beside contracts typed by hand. Lean checks it.
import Derived.Test.YtdjamphmndbmjaaMNmx0
namespace Go.Proofs.Ytdjamphmndbmjaa.MNm
open Go.RowKit Go.Proofs.YtdjamphmndbmjaaW.PrintWords Go.Proofs.YtdjamphmndbmjaaW.PrintLast Go.Proofs.YtdjamphmndbmjaaW.PrintMore
attribute [local go_sem] max2_int min2_int max_two min_two max_three min_three max_four min_four   -- for this text's walks alone
set_option linter.unusedVariables false
set_option linter.unusedSimpArgs false

/-! ### api_Errno_Error: function 10 -/
def api_Errno_Error.f (a0 : Int) : Option (ByteArray) := if a0 = 0 then (some (⟨#[79, 75]⟩ : ByteArray)) else (if a0 = 1 then (some (⟨#[69, 114, 114, 82, 97, 110, 103, 101]⟩ : ByteArray)) else (if a0 = 2 then (some (⟨#[69, 114, 114, 83, 121, 110, 116, 97, 120]⟩ : ByteArray)) else (if a0 = 3 then (some (⟨#[69, 114, 114, 83, 104, 97, 112, 101]⟩ : ByteArray)) else (if a0 = 4 then (some (⟨#[69, 114, 114, 70, 117, 108, 108]⟩ : ByteArray)) else (if a0 = 5 then (some (⟨#[69, 114, 114, 78, 111, 110, 101]⟩ : ByteArray)) else (if a0 = 6 then (some (⟨#[69, 114, 114, 83, 116, 97, 116, 101]⟩ : ByteArray)) else (if a0 = 7 then (some (⟨#[69, 114, 114, 67, 108, 97, 115, 104]⟩ : ByteArray)) else (if a0 = 8 then (some (⟨#[69, 114, 114, 83, 104, 111, 114, 116]⟩ : ByteArray)) else (if a0 = 9 then (some (⟨#[69, 114, 114, 83, 105, 100, 101, 115]⟩ : ByteArray)) else (some (⟨#[69, 114, 114, 110, 111]⟩ : ByteArray)))))))))))
set_option maxHeartbeats 8000000 in
set_option maxRecDepth 100000 in
theorem api_Errno_Error.calls (a0 : Int) (r : ByteArray) (w : World) (h : api_Errno_Error.f a0 = some r) :
    Calls Try.prog 10 #[.int .i64 a0] w fun e w' => e = .returned (.string r) ∧ Drawn0 w w' := by
  have H : (if a0 = 0 then (some (⟨#[79, 75]⟩ : ByteArray)) else (if a0 = 1 then (some (⟨#[69, 114, 114, 82, 97, 110, 103, 101]⟩ : ByteArray)) else (if a0 = 2 then (some (⟨#[69, 114, 114, 83, 121, 110, 116, 97, 120]⟩ : ByteArray)) else (if a0 = 3 then (some (⟨#[69, 114, 114, 83, 104, 97, 112, 101]⟩ : ByteArray)) else (if a0 = 4 then (some (⟨#[69, 114, 114, 70, 117, 108, 108]⟩ : ByteArray)) else (if a0 = 5 then (some (⟨#[69, 114, 114, 78, 111, 110, 101]⟩ : ByteArray)) else (if a0 = 6 then (some (⟨#[69, 114, 114, 83, 116, 97, 116, 101]⟩ : ByteArray)) else (if a0 = 7 then (some (⟨#[69, 114, 114, 67, 108, 97, 115, 104]⟩ : ByteArray)) else (if a0 = 8 then (some (⟨#[69, 114, 114, 83, 104, 111, 114, 116]⟩ : ByteArray)) else (if a0 = 9 then (some (⟨#[69, 114, 114, 83, 105, 100, 101, 115]⟩ : ByteArray)) else (some (⟨#[69, 114, 114, 110, 111]⟩ : ByteArray)))))))))))) = some r := h
  clear h
  by_cases c2 : a0 = 0
  · rw [if_pos c2] at H
    have c2b0 : (a0 == 0) = true := beq_iff_eq.mpr c2
    have c2b1 : (a0 != 0) = false := bne_eq_false_iff_eq.mpr c2
    clear c2
    obtain rfl := Option.some.inj H
    go_enter Try.func10, Try.ntmps10
    go_wp2
    go_ret
    exact ⟨by first | rfl | (simp; done) | (simp [*]; done), by repeat (first | exact Drawn0.refl _ | apply Drawn0.step)⟩
  · rw [if_neg c2] at H
    have c2b0 : (a0 == 0) = false := beq_eq_false_iff_ne.mpr c2
    have c2b1 : (a0 != 0) = true := bne_iff_ne.mpr c2
    by_cases c3 : a0 = 1
    · rw [if_pos c3] at H
      have c3b0 : (a0 == 1) = true := beq_iff_eq.mpr c3
      have c3b1 : (a0 != 1) = false := bne_eq_false_iff_eq.mpr c3
      clear c3
      obtain rfl := Option.some.inj H
      go_enter Try.func10, Try.ntmps10
      go_wp2
      go_ret
      exact ⟨by first | rfl | (simp; done) | (simp [*]; done), by repeat (first | exact Drawn0.refl _ | apply Drawn0.step)⟩
    · rw [if_neg c3] at H
      have c3b0 : (a0 == 1) = false := beq_eq_false_iff_ne.mpr c3
      have c3b1 : (a0 != 1) = true := bne_iff_ne.mpr c3
      by_cases c4 : a0 = 2
      · rw [if_pos c4] at H
        have c4b0 : (a0 == 2) = true := beq_iff_eq.mpr c4
        have c4b1 : (a0 != 2) = false := bne_eq_false_iff_eq.mpr c4
        clear c4
        obtain rfl := Option.some.inj H
        go_enter Try.func10, Try.ntmps10
        go_wp2
        go_ret
        exact ⟨by first | rfl | (simp; done) | (simp [*]; done), by repeat (first | exact Drawn0.refl _ | apply Drawn0.step)⟩
      · rw [if_neg c4] at H
        have c4b0 : (a0 == 2) = false := beq_eq_false_iff_ne.mpr c4
        have c4b1 : (a0 != 2) = true := bne_iff_ne.mpr c4
        by_cases c5 : a0 = 3
        · rw [if_pos c5] at H
          have c5b0 : (a0 == 3) = true := beq_iff_eq.mpr c5
          have c5b1 : (a0 != 3) = false := bne_eq_false_iff_eq.mpr c5
          clear c5
          obtain rfl := Option.some.inj H
          go_enter Try.func10, Try.ntmps10
          go_wp2
          go_ret
          exact ⟨by first | rfl | (simp; done) | (simp [*]; done), by repeat (first | exact Drawn0.refl _ | apply Drawn0.step)⟩
        · rw [if_neg c5] at H
          have c5b0 : (a0 == 3) = false := beq_eq_false_iff_ne.mpr c5
          have c5b1 : (a0 != 3) = true := bne_iff_ne.mpr c5
          by_cases c6 : a0 = 4
          · rw [if_pos c6] at H
            have c6b0 : (a0 == 4) = true := beq_iff_eq.mpr c6
            have c6b1 : (a0 != 4) = false := bne_eq_false_iff_eq.mpr c6
            clear c6
            obtain rfl := Option.some.inj H
            go_enter Try.func10, Try.ntmps10
            go_wp2
            go_ret
            exact ⟨by first | rfl | (simp; done) | (simp [*]; done), by repeat (first | exact Drawn0.refl _ | apply Drawn0.step)⟩
          · rw [if_neg c6] at H
            have c6b0 : (a0 == 4) = false := beq_eq_false_iff_ne.mpr c6
            have c6b1 : (a0 != 4) = true := bne_iff_ne.mpr c6
            by_cases c7 : a0 = 5
            · rw [if_pos c7] at H
              have c7b0 : (a0 == 5) = true := beq_iff_eq.mpr c7
              have c7b1 : (a0 != 5) = false := bne_eq_false_iff_eq.mpr c7
              clear c7
              obtain rfl := Option.some.inj H
              go_enter Try.func10, Try.ntmps10
              go_wp2
              go_ret
              exact ⟨by first | rfl | (simp; done) | (simp [*]; done), by repeat (first | exact Drawn0.refl _ | apply Drawn0.step)⟩
            · rw [if_neg c7] at H
              have c7b0 : (a0 == 5) = false := beq_eq_false_iff_ne.mpr c7
              have c7b1 : (a0 != 5) = true := bne_iff_ne.mpr c7
              by_cases c8 : a0 = 6
              · rw [if_pos c8] at H
                have c8b0 : (a0 == 6) = true := beq_iff_eq.mpr c8
                have c8b1 : (a0 != 6) = false := bne_eq_false_iff_eq.mpr c8
                clear c8
                obtain rfl := Option.some.inj H
                go_enter Try.func10, Try.ntmps10
                go_wp2
                go_ret
                exact ⟨by first | rfl | (simp; done) | (simp [*]; done), by repeat (first | exact Drawn0.refl _ | apply Drawn0.step)⟩
              · rw [if_neg c8] at H
                have c8b0 : (a0 == 6) = false := beq_eq_false_iff_ne.mpr c8
                have c8b1 : (a0 != 6) = true := bne_iff_ne.mpr c8
                by_cases c9 : a0 = 7
                · rw [if_pos c9] at H
                  have c9b0 : (a0 == 7) = true := beq_iff_eq.mpr c9
                  have c9b1 : (a0 != 7) = false := bne_eq_false_iff_eq.mpr c9
                  clear c9
                  obtain rfl := Option.some.inj H
                  go_enter Try.func10, Try.ntmps10
                  go_wp2
                  go_ret
                  exact ⟨by first | rfl | (simp; done) | (simp [*]; done), by repeat (first | exact Drawn0.refl _ | apply Drawn0.step)⟩
                · rw [if_neg c9] at H
                  have c9b0 : (a0 == 7) = false := beq_eq_false_iff_ne.mpr c9
                  have c9b1 : (a0 != 7) = true := bne_iff_ne.mpr c9
                  by_cases c10 : a0 = 8
                  · rw [if_pos c10] at H
                    have c10b0 : (a0 == 8) = true := beq_iff_eq.mpr c10
                    have c10b1 : (a0 != 8) = false := bne_eq_false_iff_eq.mpr c10
                    clear c10
                    obtain rfl := Option.some.inj H
                    go_enter Try.func10, Try.ntmps10
                    go_wp2
                    go_ret
                    exact ⟨by first | rfl | (simp; done) | (simp [*]; done), by repeat (first | exact Drawn0.refl _ | apply Drawn0.step)⟩
                  · rw [if_neg c10] at H
                    have c10b0 : (a0 == 8) = false := beq_eq_false_iff_ne.mpr c10
                    have c10b1 : (a0 != 8) = true := bne_iff_ne.mpr c10
                    by_cases c11 : a0 = 9
                    · rw [if_pos c11] at H
                      have c11b0 : (a0 == 9) = true := beq_iff_eq.mpr c11
                      have c11b1 : (a0 != 9) = false := bne_eq_false_iff_eq.mpr c11
                      clear c11
                      obtain rfl := Option.some.inj H
                      go_enter Try.func10, Try.ntmps10
                      go_wp2
                      go_ret
                      exact ⟨by first | rfl | (simp; done) | (simp [*]; done), by repeat (first | exact Drawn0.refl _ | apply Drawn0.step)⟩
                    · rw [if_neg c11] at H
                      have c11b0 : (a0 == 9) = false := beq_eq_false_iff_ne.mpr c11
                      have c11b1 : (a0 != 9) = true := bne_iff_ne.mpr c11
                      obtain rfl := Option.some.inj H
                      go_enter Try.func10, Try.ntmps10
                      go_wp2
                      go_ret
                      exact ⟨by first | rfl | (simp; done) | (simp [*]; done), by repeat (first | exact Drawn0.refl _ | apply Drawn0.step)⟩

/-! ### stratalaw1_Names: function 3 -/
def stratalaw1_Names.l0 : Nat → Bool → Bool → List ByteArray → Int → Option (Bool)
  | 0, _, _, _, _ => none
  | k + 1, x1, x2, x3, x4 => if x4 < (x3.length : Int) then ((api_Errno_Error.f x4).bind fun t104 => (if 0 ≤ x4 then (if t104.toList = (rdOf ByteArray.empty x3 x4).toList then (stratalaw1_Names.l0 k x1 x2 x3 (wrap64 (x4 + 1))) else (some false)) else (none))) else (if x1 = true then (some x2) else (some false))
def stratalaw1_Names.f (k : Nat)  : Option (Bool) := stratalaw1_Names.l0 k true true (([(⟨#[79, 75]⟩ : ByteArray), (⟨#[69, 114, 114, 82, 97, 110, 103, 101]⟩ : ByteArray), (⟨#[69, 114, 114, 83, 121, 110, 116, 97, 120]⟩ : ByteArray), (⟨#[69, 114, 114, 83, 104, 97, 112, 101]⟩ : ByteArray), (⟨#[69, 114, 114, 70, 117, 108, 108]⟩ : ByteArray), (⟨#[69, 114, 114, 78, 111, 110, 101]⟩ : ByteArray), (⟨#[69, 114, 114, 83, 116, 97, 116, 101]⟩ : ByteArray), (⟨#[69, 114, 114, 67, 108, 97, 115, 104]⟩ : ByteArray), (⟨#[69, 114, 114, 83, 104, 111, 114, 116]⟩ : ByteArray), (⟨#[69, 114, 114, 83, 105, 100, 101, 115]⟩ : ByteArray)] : List ByteArray)) 0
theorem stratalaw1_Names.mono_l : ∀ k, (∀ y0 y1 y2 y3, LeO (stratalaw1_Names.l0 k y0 y1 y2 y3) (stratalaw1_Names.l0 (k + 1) y0 y1 y2 y3))
  | 0 => fun _ _ _ _ r h => by simp [stratalaw1_Names.l0] at h
  | k + 1 => by
    have ih0 := stratalaw1_Names.mono_l k
    · intro y0 y1 y2 y3
      unfold stratalaw1_Names.l0
      repeat' first
      | (with_reducible exact ih0 _ _ _ _)
      | (with_reducible exact LeO.refl _)
      | (with_reducible exact LeO.none _)
      | (with_reducible refine LeO.ite ?_ ?_)
      | (with_reducible refine LeO.bind ?_ (fun _ => ?_))
      | exact ih0 _ _ _ _
      | exact LeO.none _
      | refine LeO.ite ?_ ?_
      | refine LeO.bind ?_ (fun _ => ?_)
theorem stratalaw1_Names.mono : ∀ k, LeO (stratalaw1_Names.f k ) (stratalaw1_Names.f (k + 1) ) := by
  intro  k
  have ih0 := stratalaw1_Names.mono_l k
  unfold stratalaw1_Names.f
  repeat' first
      | (with_reducible exact ih0 _ _ _ _)
      | (with_reducible exact LeO.refl _)
      | (with_reducible exact LeO.none _)
      | (with_reducible refine LeO.ite ?_ ?_)
      | (with_reducible refine LeO.bind ?_ (fun _ => ?_))
      | exact ih0 _ _ _ _
      | exact LeO.none _
      | refine LeO.ite ?_ ?_
      | refine LeO.bind ?_ (fun _ => ?_)
set_option maxHeartbeats 8000000 in
set_option maxRecDepth 100000 in
theorem stratalaw1_Names.calls (k : Nat)  (r : Bool) (w : World) (hr_ : r = true) (h : stratalaw1_Names.f k  = some r) :
    Calls Try.prog 3 #[] w fun e w' => e = .returned (.bool r) ∧ Below w.heap.size w w' := by
  have HB := Aside0.mk (Below.refl w.heap.size w)
  have H : (stratalaw1_Names.l0 k true true (([(⟨#[79, 75]⟩ : ByteArray), (⟨#[69, 114, 114, 82, 97, 110, 103, 101]⟩ : ByteArray), (⟨#[69, 114, 114, 83, 121, 110, 116, 97, 120]⟩ : ByteArray), (⟨#[69, 114, 114, 83, 104, 97, 112, 101]⟩ : ByteArray), (⟨#[69, 114, 114, 70, 117, 108, 108]⟩ : ByteArray), (⟨#[69, 114, 114, 78, 111, 110, 101]⟩ : ByteArray), (⟨#[69, 114, 114, 83, 116, 97, 116, 101]⟩ : ByteArray), (⟨#[69, 114, 114, 67, 108, 97, 115, 104]⟩ : ByteArray), (⟨#[69, 114, 114, 83, 104, 111, 114, 116]⟩ : ByteArray), (⟨#[69, 114, 114, 83, 105, 100, 101, 115]⟩ : ByteArray)] : List ByteArray)) 0) = some r := h
  clear h
  have Hr_ := Aside0.mk hr_
  clear hr_
  obtain ⟨y101, hy101⟩ : ∃ y_ : List ByteArray, y_ = (([(⟨#[79, 75]⟩ : ByteArray), (⟨#[69, 114, 114, 82, 97, 110, 103, 101]⟩ : ByteArray), (⟨#[69, 114, 114, 83, 121, 110, 116, 97, 120]⟩ : ByteArray), (⟨#[69, 114, 114, 83, 104, 97, 112, 101]⟩ : ByteArray), (⟨#[69, 114, 114, 70, 117, 108, 108]⟩ : ByteArray), (⟨#[69, 114, 114, 78, 111, 110, 101]⟩ : ByteArray), (⟨#[69, 114, 114, 83, 116, 97, 116, 101]⟩ : ByteArray), (⟨#[69, 114, 114, 67, 108, 97, 115, 104]⟩ : ByteArray), (⟨#[69, 114, 114, 83, 104, 111, 114, 116]⟩ : ByteArray), (⟨#[69, 114, 114, 83, 105, 100, 101, 115]⟩ : ByteArray)] : List ByteArray)) := ⟨_, rfl⟩
  replace H : (stratalaw1_Names.l0 k true true y101 0) = some r := by first | (rw [hy101]; with_reducible exact H) | (have H2_ := (Option.bind_some _ _).symm.trans H; rw [hy101]; with_reducible exact H2_) | (have H2_ := (Option.bind_some _ _).symm.trans H; with_reducible exact H2_) | with_reducible exact H | (rw [hy101]; exact H) | exact H
  have Ny101 := Aside0.mk hy101
  clear hy101
  have H' := Aside0.mk H
  clear H
  go_enter Try.func3, Try.ntmps3
  go_wp2_with (first | ((with_reducible refine gate_dst (N := 7) rfl ?_); refine Kd.R_lit Kd.string _ 9 ?hg (N := 7) ?hd (xs := ([(⟨#[79, 75]⟩ : ByteArray), (⟨#[69, 114, 114, 82, 97, 110, 103, 101]⟩ : ByteArray), (⟨#[69, 114, 114, 83, 121, 110, 116, 97, 120]⟩ : ByteArray), (⟨#[69, 114, 114, 83, 104, 97, 112, 101]⟩ : ByteArray), (⟨#[69, 114, 114, 70, 117, 108, 108]⟩ : ByteArray), (⟨#[69, 114, 114, 78, 111, 110, 101]⟩ : ByteArray), (⟨#[69, 114, 114, 83, 116, 97, 116, 101]⟩ : ByteArray), (⟨#[69, 114, 114, 67, 108, 97, 115, 104]⟩ : ByteArray), (⟨#[69, 114, 114, 83, 104, 111, 114, 116]⟩ : ByteArray), (⟨#[69, 114, 114, 83, 105, 100, 101, 115]⟩ : ByteArray)] : List ByteArray)) (inner := [.string (⟨#[79, 75]⟩ : ByteArray), .string (⟨#[69, 114, 114, 82, 97, 110, 103, 101]⟩ : ByteArray), .string (⟨#[69, 114, 114, 83, 121, 110, 116, 97, 120]⟩ : ByteArray), .string (⟨#[69, 114, 114, 83, 104, 97, 112, 101]⟩ : ByteArray), .string (⟨#[69, 114, 114, 70, 117, 108, 108]⟩ : ByteArray), .string (⟨#[69, 114, 114, 78, 111, 110, 101]⟩ : ByteArray), .string (⟨#[69, 114, 114, 83, 116, 97, 116, 101]⟩ : ByteArray), .string (⟨#[69, 114, 114, 67, 108, 97, 115, 104]⟩ : ByteArray), .string (⟨#[69, 114, 114, 83, 104, 111, 114, 116]⟩ : ByteArray), .string (⟨#[69, 114, 114, 83, 105, 100, 101, 115]⟩ : ByteArray)]) (ok := fun _ => True) (okp := fun _ => True) ?hr ?hp (fun _ hk => hk) trivial (Below.refl _ _) (Nat.le_refl _) (by simp) ?_; (case hd => rfl); (case hg => rfl); (case hr => first | (go_simp; done) | (go_simp; rfl)); (case hp => exact (Reps.one (show Kd.M Kd.string _ _ _ (⟨#[79, 75]⟩ : ByteArray) [.string (⟨#[79, 75]⟩ : ByteArray)] from rfl) (Reps.one (show Kd.M Kd.string _ _ _ (⟨#[69, 114, 114, 82, 97, 110, 103, 101]⟩ : ByteArray) [.string (⟨#[69, 114, 114, 82, 97, 110, 103, 101]⟩ : ByteArray)] from rfl) (Reps.one (show Kd.M Kd.string _ _ _ (⟨#[69, 114, 114, 83, 121, 110, 116, 97, 120]⟩ : ByteArray) [.string (⟨#[69, 114, 114, 83, 121, 110, 116, 97, 120]⟩ : ByteArray)] from rfl) (Reps.one (show Kd.M Kd.string _ _ _ (⟨#[69, 114, 114, 83, 104, 97, 112, 101]⟩ : ByteArray) [.string (⟨#[69, 114, 114, 83, 104, 97, 112, 101]⟩ : ByteArray)] from rfl) (Reps.one (show Kd.M Kd.string _ _ _ (⟨#[69, 114, 114, 70, 117, 108, 108]⟩ : ByteArray) [.string (⟨#[69, 114, 114, 70, 117, 108, 108]⟩ : ByteArray)] from rfl) (Reps.one (show Kd.M Kd.string _ _ _ (⟨#[69, 114, 114, 78, 111, 110, 101]⟩ : ByteArray) [.string (⟨#[69, 114, 114, 78, 111, 110, 101]⟩ : ByteArray)] from rfl) (Reps.one (show Kd.M Kd.string _ _ _ (⟨#[69, 114, 114, 83, 116, 97, 116, 101]⟩ : ByteArray) [.string (⟨#[69, 114, 114, 83, 116, 97, 116, 101]⟩ : ByteArray)] from rfl) (Reps.one (show Kd.M Kd.string _ _ _ (⟨#[69, 114, 114, 67, 108, 97, 115, 104]⟩ : ByteArray) [.string (⟨#[69, 114, 114, 67, 108, 97, 115, 104]⟩ : ByteArray)] from rfl) (Reps.one (show Kd.M Kd.string _ _ _ (⟨#[69, 114, 114, 83, 104, 111, 114, 116]⟩ : ByteArray) [.string (⟨#[69, 114, 114, 83, 104, 111, 114, 116]⟩ : ByteArray)] from rfl) (Reps.one (show Kd.M Kd.string _ _ _ (⟨#[69, 114, 114, 83, 105, 100, 101, 115]⟩ : ByteArray) [.string (⟨#[69, 114, 114, 83, 105, 100, 101, 115]⟩ : ByteArray)] from rfl) (Reps.none _ _)))))))))))); intro v102 w1 ho2 hb hg_ hnew_; clear hg_ hnew_; (first | rw [← Ny101.out] at ho2 | (simp only [Int.reduceToNat] at ho2; rw [← Ny101.out] at ho2)); have n0_ := Aside0.mk (Kd.R_lower ho2 (below_size (by repeat (first | (with_reducible first | exact HB.out | apply below_alloc | apply pw_below_drewN | apply below_drew1) | exact HB.out)))); have n1_ := Aside0.mk (below_step (by repeat (first | (with_reducible first | exact HB.out | apply below_alloc | apply pw_below_drewN | apply below_drew1) | exact HB.out)) hb); clear HB; have HO103 := n0_; have HB := n1_; clear n0_ n1_; clear hb ho2))
  go_loopg [4] k (fun kq v4 w' => ∃ (x4_1 : Int), v4 = .int .i64 x4_1 ∧ Aside0 (stratalaw1_Names.l0 kq true true y101 x4_1 = some r) ∧ Aside0 (kq ≤ k) ∧ Aside0 (Kd.R Kd.string 9 w' w.heap.size (fun _ => True) v102 y101) ∧ Aside0 (Below w.heap.size w w'))
  case atStart => exact ⟨(0), (by first | rfl | (simp; done) | (simp [*]; done)), H', ⟨Nat.le_refl _⟩, ⟨by (with_reducible repeat (first | apply Kd.R_alloc | apply Kd.R_drewN | apply Kd.R_drew)); exact HO103.out⟩, ⟨by repeat (first | (with_reducible first | exact HB.out | apply below_alloc | apply pw_below_drewN | apply below_drew1) | exact HB.out)⟩⟩
  case round =>
    clear H'
    try clear p2
    obtain ⟨x4_1, rfl, HA, HK1, HO_3, HB⟩ := hrel
    cases gk with
    | zero => exact absurd HA.out (by simp [stratalaw1_Names.l0])
    | succ k1 =>
      have H := HA.out
      clear HA
      simp only [stratalaw1_Names.l0] at H
      by_cases c3 : x4_1 < (y101.length : Int)
      · rw [if_pos c3] at H
        have c3b0 : decide (x4_1 < (y101.length : Int)) = true := decide_eq_true c3
        clear c3
        replace H := Option.bind_eq_some_iff.mp H
        obtain ⟨t104, A40, H⟩ := H
        replace H : (if 0 ≤ x4_1 then (if t104.toList = (rdOf ByteArray.empty y101 x4_1).toList then (stratalaw1_Names.l0 k1 true true y101 (wrap64 (x4_1 + 1))) else (some false)) else (none)) = some r := H
        have A4 := Aside0.mk A40
        clear A40
        by_cases c5 : 0 ≤ x4_1
        · rw [if_pos c5] at H
          have c5b0 : decide (0 ≤ x4_1) = true := decide_eq_true c5
          clear c5
          by_cases c6 : t104.toList = (rdOf ByteArray.empty y101 x4_1).toList
          · rw [if_pos c6] at H
            have c6b0 : (t104.toList == (rdOf ByteArray.empty y101 x4_1).toList) = true := beq_iff_eq.mpr c6
            have c6b1 : (t104.toList != (rdOf ByteArray.empty y101 x4_1).toList) = false := bne_eq_false_iff_eq.mpr c6
            clear c6
            have H' := Aside0.mk H
            clear H
            obtain ⟨Ao7, co7, eo7⟩ := Kd.R_slice HO_3.out
            subst eo7
            go_wp2_with (first | ((with_reducible refine gate_callee (f := 10) rfl ?_); refine goesL_ (some 16) rfl rfl Try.func10 (by kernel_rfl) rfl #[.int .i64 x4_1] rfl (by (try simp only [List.map_toArray, List.map_cons, List.map_nil]); first | done | rfl | (simp only [List.length_drop, List.length_take]; rfl)) ?_; (with_reducible refine (api_Errno_Error.calls x4_1 t104 _ A4.out).mono ?_); rintro e w' ⟨rfl, ⟨nd, rfl⟩⟩; refine ⟨_, rfl, ?_⟩; have p105 : 0 ≤ (x4_1 : Int) := of_decide_eq_true (by first | (with_reducible assumption) | assumption); have q105 : x4_1 < (y101.length : Int) := of_decide_eq_true (by first | (with_reducible assumption) | assumption); obtain ⟨ad105, e105, hx105_0⟩ := Kd.at_string (Kd.R_reads' HO_3.out).2.2 x4_1 p105 q105; cases e105; replace p105 := eq_true p105; replace q105 := eq_true q105))
            go_roundg k1
            case measure => have := HK1.out; omega
            case rel => exact ⟨(wrap64 (x4_1 + 1)), (by first | rfl | (simp; done) | (simp [*]; done)), H', ⟨by have := HK1.out; omega⟩, ⟨by (with_reducible repeat (first | apply Kd.R_alloc | apply Kd.R_drewN | apply Kd.R_drew)); exact HO_3.out⟩, ⟨by repeat (first | (with_reducible first | exact HB.out | apply below_alloc | apply pw_below_drewN | apply below_drew1) | exact HB.out)⟩⟩
          · rw [if_neg c6] at H
            have c6b0 : (t104.toList == (rdOf ByteArray.empty y101 x4_1).toList) = false := beq_eq_false_iff_ne.mpr c6
            have c6b1 : (t104.toList != (rdOf ByteArray.empty y101 x4_1).toList) = true := bne_iff_ne.mpr c6
            exact absurd ((Option.some.inj H).trans Hr_.out) (by decide)
        · rw [if_neg c5] at H
          exact absurd H (by simp)
      · rw [if_neg c3] at H
        have c3b0 : decide (x4_1 < (y101.length : Int)) = false := decide_eq_false c3
        clear c3
        have H1 : (some true) = some r := by first | exact H | (rw [if_pos rfl] at H; exact H) | (simp only [if_true, if_false] at H; exact H)
        clear H
        have H := H1
        clear H1
        obtain rfl := Option.some.inj H
        obtain ⟨Ao8, co8, eo8⟩ := Kd.R_slice HO_3.out
        subst eo8
        go_wp2
        go_ret
        exact ⟨by first | rfl | (simp [errW_none, errW_some] <;> rfl) | (simp [*, errW_none, errW_some] <;> rfl), by repeat (first | (with_reducible first | exact HB.out | apply below_alloc | apply pw_below_drewN | apply below_drew1) | exact HB.out)⟩

/-- THE ONE PURE STATEMENT of stratalaw1_Names: yours. -/
def stratalaw1_Names.Pure : Prop := ∃ k, stratalaw1_Names.f k  = some true
theorem stratalaw1_Names.walk (P : stratalaw1_Names.Pure)  (w : World)  :
    Calls Try.prog 3 #[] w fun e w' => e = .returned (.bool true) ∧ Below w.heap.size w w' := by
  obtain ⟨k, h⟩ := P  
  refine (stratalaw1_Names.calls k  true w rfl h).mono ?_
  rintro e w' ⟨rfl, hd⟩
  exact ⟨rfl, hd⟩

end Go.Proofs.Ytdjamphmndbmjaa.MNm
