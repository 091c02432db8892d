/- Part 3 of 3 of the proof of MatchPartsSaid: a law of the given program, for every input; no condition is added. -/
import Derived.Test.YtdjamphmndbmjaaMatchPartsB1
import Derived.Lib.SliceRun
import Derived.Shelf.SlSortCmp.NoneTotal
import Derived.Shelf.SlGeneric
import Derived.Ground.SlsfProg
import Derived.Test.YtdjamphmndbmjaaProg
import Derived.Deep.Slices
import Derived.Deep.Strs
import Derived.ChangeArms
import Derived.Carry
import Derived.OpenShut
import Derived.Test.YtdjamphmndbmjaaRows
import Derived.WalkKit
import Derived.ProofKit
import Derived.ShutString
import Derived.ChangeOld
import Derived.Below
import Derived.SizedLaws
/- A region that draws its order, by what holds all the way: each operation that may come up next keeps it. -/
namespace Go.Proofs.Ytdjamphmndbmjaa.M
open Go.RowKit Go.Proofs.YtdjamphmndbmjaaW.PrintWords Go.Proofs.YtdjamphmndbmjaaW.PrintLast Go.Proofs.YtdjamphmndbmjaaW.PrintMore
set_option linter.unusedVariables false
set_option linter.unusedSimpArgs false

/-- How many have not come up. -/
def left (l : Array Bool) : Nat := (l.toList.filter fun b => !b).length
theorem left_set {l : Array Bool} {i : Nat} (h : l.getD i true = false) : left (l.setIfInBounds i true) + 1 = left l := by
  obtain ⟨l⟩ := l
  unfold left
  simp only [List.setIfInBounds_toArray]
  induction l generalizing i with
  | nil => simp at h
  | cons b l ih =>
    cases i with
    | zero =>
      simp at h
      subst h
      simp
    | succ i =>
      have h' : (⟨l⟩ : Array Bool).getD i true = false := by simpa using h
      have := ih h'
      cases b <;> simp at this ⊢ <;> omega
theorem ready_nil_of_left {md : Region.Mode} {ops : Array Oper} {l : Array Bool} (h : left l = 0) : Region.ready md ops l = [] := by
  rcases hr : Region.ready md ops l with _ | ⟨i, rs⟩
  · rfl
  · have hi : i ∈ Region.ready md ops l := by rw [hr]; exact List.mem_cons_self
    have := left_set (mem_ready.1 hi).1
    omega
theorem all_up {md : Region.Mode} {ops : Array Oper} {l : Array Bool} (hup : (List.range ops.size).all (fun i => (ops[i]?.map fun o => o.after.all fun e => decide (e.on < i)).getD true) = true) (hs : l.size = ops.size) (hr : Region.ready md ops l = []) : ∀ i, i < ops.size → l.getD i false = true := by
  intro i
  induction i using Nat.strongRecOn with
  | _ i ih =>
    intro hi
    have hil : i < l.size := by omega
    cases hl : l[i] with
    | true => simp [Array.getD_eq_getD_getElem?, hil, hl]
    | false =>
      exfalso
      have hu := List.all_eq_true.1 hup i (List.mem_range.2 hi)
      rw [Array.getElem?_eq_getElem hi] at hu
      simp only [Option.map_some, Option.getD_some] at hu
      have : i ∈ Region.ready md ops l := mem_ready.2 ⟨by simp [Array.getD_eq_getD_getElem?, hil, hl], _, Array.getElem?_eq_getElem hi, fun e he _ => by
        have h1 := Array.all_eq_true_iff_forall_mem.1 hu e he
        have h2 := of_decide_eq_true h1
        exact ih e.on h2 (by omega)⟩
      rw [hr] at this
      cases this
theorem region_inv {P : Program} {ops : Array Oper} {Q : Exit → Act → World → Prop} {id : Nat} {a : Act} {w : World} (hm : P.follows .mixedOrders = true) (Inv : Array Bool → Act → World → Prop)
    (h0 : Inv (Array.replicate ops.size false) a w.drew)
    (hstep : ∀ l a w i oi, Inv l a w → ops[i]? = some oi → i ∈ Region.ready .any ops l → ∀ K : Act → World → Prop, Shut (∀ a' w', Inv (l.setIfInBounds i true) a' w' → K a' w') → if Region.wanted oi (yielded ops a.tmps) = true then Oper.wp P oi a w K Q else K (a.put oi.dst undef) w)
    (hup : (List.range ops.size).all (fun i => (ops[i]?.map fun o => o.after.all fun e => decide (e.on < i)).getD true) = true)
    (hend : ∀ l a w, Inv l a w → (∀ i, i < ops.size → l.getD i false = true) → Q .normal a w) : (Code.region id ops true).wp P Q a w := by
  have hend : ∀ l a w, l.size = ops.size → Inv l a w → Region.ready .any ops l = [] → Q .normal a w := fun l a w hs hi hr => hend l a w hi (all_up hup hs hr)
  have key : ∀ (n : Nat) (l : Array Bool) (a : Act) (w : World), l.size = ops.size → left l ≤ n → Inv l a w → wpAnyLast P .any ops Q (fun _ => True) [] n l a w := by
    intro n
    induction n with
    | zero => exact fun l a w hs hl hi => ⟨ready_nil_of_left (by omega), hend l a w hs hi (ready_nil_of_left (by omega))⟩
    | succ n ih =>
      intro l a w hs hl hi
      refine ⟨fun h => hend l a w hs hi h, fun i hir => ?_⟩
      obtain ⟨hun, oi, hoi, _⟩ := mem_ready.1 hir
      refine wpOp_step hoi fun K hK => hstep l a w i oi hi hoi hir K (fun a' w' h' => hK a' w' ⟨fun _ _ => trivial, ih _ _ _ (by rw [Array.size_setIfInBounds]; exact hs) (by have := left_set hun; omega) h'⟩)
  refine wp_region_last (S := fun _ => True) (ds := []) hm (key _ _ _ _ (by simp) ?_ h0)
  unfold left
  exact Nat.le_trans (List.length_filter_le _ _) (by simp)
theorem skip_step {P : Program} {ops : Array Oper} {o : Oper} {a : Act} {Q : Exit → Act → World → Prop} {Kc : Act → World → Prop} {W w1 : World} (hw : Region.wanted o (yielded ops a.tmps) = true) (hrun : (execOp a.eval o).run P W = .ok .skip w1) (h : Kc (a.put o.dst undef) w1) : if Region.wanted o (yielded ops a.tmps) = true then Oper.wp P o a W Kc Q else Kc (a.put o.dst undef) W := by
  rw [if_pos hw]
  unfold Oper.wp
  rw [hrun]
  exact h
end Go.Proofs.Ytdjamphmndbmjaa.M

/- match.Fits: its first region, which draws its order, calls and lays variables. By hand (printed by wip/gen_fits.py). -/
namespace Go.Proofs.Ytdjamphmndbmjaa.M
open Go.RowKit Go.Proofs.YtdjamphmndbmjaaW.PrintWords Go.Proofs.YtdjamphmndbmjaaW.PrintLast Go.Proofs.YtdjamphmndbmjaaW.PrintMore
set_option linter.unusedVariables false
set_option linter.unusedSimpArgs false

open Go.Sort
attribute [local go_sem high] eqTM
/-- What holds all the way through the region: l what has come up; g where the parameters' boxes lie. -/
def FInv (t : S41) (p : S51) (w0 : World) (g : Nat) (l : Array Bool) (a : Act) (w : World) : Prop :=
  ∃ t5 t6 t10 t11 t12 t13 : Value, a = { tmps := #[.agg #[.int .i64 t.f0.f0, .string t.f0.f1, .string t.f0.f2, .int .i64 t.f1.f0, .string t.f1.f1, .string t.f1.f2, .int .i64 t.f2.f0, .string t.f2.f1, .string t.f2.f2], .agg #[.string p.f0.f0, .int .i64 p.f0.f1.f0, .string p.f0.f1.f1, .string p.f0.f1.f2, .string p.f1.f0, .int .i64 p.f1.f1.f0, .string p.f1.f1.f1, .string p.f1.f1.f2, .string p.f2.f0, .int .i64 p.f2.f1.f0, .string p.f2.f1.f1, .string p.f2.f1.f2], .pointer (some ⟨g, 0, none⟩), .pointer (some ⟨g + 1, 0, none⟩), .bool false, t5, t6, undef, undef, undef, t10, t11, t12, t13, undef, undef, undef, undef, undef, undef, undef, undef, undef, undef, undef, undef, undef, undef, undef, undef, undef, undef, undef, undef, undef, undef, undef, undef, undef, undef, undef, undef, undef, undef, undef, undef, undef, undef, undef, undef, undef, undef, undef, undef, undef, undef, undef], defers := [] } ∧ Below (g + 2) w0 w ∧ g + 2 ≤ w.heap.size ∧
    (l.getD 6 false = true → l.getD 4 false = true) ∧ (l.getD 7 false = true → l.getD 5 false = true) ∧
    (l.getD 0 false = true → t10 = .agg #[.string p.f0.f0, .int .i64 p.f0.f1.f0, .string p.f0.f1.f1, .string p.f0.f1.f2, .string p.f1.f0, .int .i64 p.f1.f1.f0, .string p.f1.f1.f1, .string p.f1.f1.f2, .string p.f2.f0, .int .i64 p.f2.f1.f0, .string p.f2.f1.f1, .string p.f2.f1.f2]) ∧ (l.getD 1 false = true → t11 = .agg #[.string p.f0.f0, .int .i64 p.f0.f1.f0, .string p.f0.f1.f1, .string p.f0.f1.f2, .string p.f1.f0, .int .i64 p.f1.f1.f0, .string p.f1.f1.f1, .string p.f1.f1.f2, .string p.f2.f0, .int .i64 p.f2.f1.f0, .string p.f2.f1.f1, .string p.f2.f1.f2]) ∧ (l.getD 2 false = true → t12 = .agg #[.int .i64 t.f0.f0, .string t.f0.f1, .string t.f0.f2, .int .i64 t.f1.f0, .string t.f1.f1, .string t.f1.f2, .int .i64 t.f2.f0, .string t.f2.f1, .string t.f2.f2]) ∧ (l.getD 3 false = true → t13 = .agg #[.int .i64 t.f0.f0, .string t.f0.f1, .string t.f0.f2, .int .i64 t.f1.f0, .string t.f1.f1, .string t.f1.f2, .int .i64 t.f2.f0, .string t.f2.f1, .string t.f2.f2]) ∧
    (l.getD 4 false = true → ∃ b cs, t5 = .pointer (some ⟨b, 0, none⟩) ∧ g + 2 ≤ b ∧ w.heap[b]? = some (.cells cs 122 (0, 0)) ∧ cs.size = 12 ∧ (l.getD 6 false = true → cs = #[.string p.f0.f0, .int .i64 p.f0.f1.f0, .string p.f0.f1.f1, .string p.f0.f1.f2, .string p.f1.f0, .int .i64 p.f1.f1.f0, .string p.f1.f1.f1, .string p.f1.f1.f2, .string p.f2.f0, .int .i64 p.f2.f1.f0, .string p.f2.f1.f1, .string p.f2.f1.f2])) ∧
    (l.getD 5 false = true → ∃ b cs, t6 = .pointer (some ⟨b, 0, none⟩) ∧ g + 2 ≤ b ∧ w.heap[b]? = some (.cells cs 91 (0, 0)) ∧ cs.size = 9 ∧ (l.getD 7 false = true → cs = #[.int .i64 t.f0.f0, .string t.f0.f1, .string t.f0.f2, .int .i64 t.f1.f0, .string t.f1.f1, .string t.f1.f2, .int .i64 t.f2.f0, .string t.f2.f1, .string t.f2.f2]))
theorem set_was {l : Array Bool} {i j : Nat} (h : (l.setIfInBounds i true).getD j false = true) (hne : j ≠ i) : l.getD j false = true := by
  simpa [Array.getD_eq_getD_getElem?, Array.getElem?_setIfInBounds, Ne.symm hne] using h
theorem set_at {l : Array Bool} {i : Nat} (h : l.getD i true = false) : (l.setIfInBounds i true).getD i false = true := by
  have hi : i < l.size := by
    rcases Nat.lt_or_ge i l.size with h' | h'
    · exact h'
    · simp [Array.getD_eq_getD_getElem?, Array.getElem?_eq_none h'] at h
  simp [Array.getD_eq_getD_getElem?, Array.getElem?_setIfInBounds, hi]
theorem not_yet {l : Array Bool} {i : Nat} (h : l.getD i true = false) (h' : l.getD i false = true) : False := by
  rcases Nat.lt_or_ge i l.size with hi | hi
  · simp [Array.getD_eq_getD_getElem?, hi] at h h'; rw [h] at h'; cases h'
  · simp [Array.getD_eq_getD_getElem?, Array.getElem?_eq_none hi] at h
theorem keep_was {l : Array Bool} {i j : Nat} (h : l.getD j false = true) : (l.setIfInBounds i true).getD j false = true := by
  rcases Nat.lt_or_ge j l.size with hj | hj
  · by_cases e : i = j <;> simp [Array.getD_eq_getD_getElem?, Array.getElem?_setIfInBounds, hj, e] at h ⊢; exact h
  · simp [Array.getD_eq_getD_getElem?, Array.getElem?_eq_none hj] at h
set_option maxHeartbeats 4000000 in
set_option maxRecDepth 100000 in
theorem fits_step0 (t : S41) (p : S51) (w0 : World) (g : Nat) (hp : ∀ (c : Nat) (v : Value), (#[.string p.f0.f0, .int .i64 p.f0.f1.f0, .string p.f0.f1.f1, .string p.f0.f1.f2, .string p.f1.f0, .int .i64 p.f1.f1.f0, .string p.f1.f1.f1, .string p.f1.f1.f2, .string p.f2.f0, .int .i64 p.f2.f1.f0, .string p.f2.f1.f1, .string p.f2.f1.f2] : Array Value)[c]? = some v → w0.cell? ⟨g + 1, c, none⟩ = some v) (l : Array Bool) (a : Act) (w : World) (h : FInv t p w0 g l a w) (hr : l.getD 0 true = false) :
    (execOp a.eval { dst := some 10, op := Op.load 51 (Operand.tmp 3), type := 51, pos := "match.go:49", after := #[], guard := none }).run Try.prog w = .ok (.value (.agg #[.string p.f0.f0, .int .i64 p.f0.f1.f0, .string p.f0.f1.f1, .string p.f0.f1.f2, .string p.f1.f0, .int .i64 p.f1.f1.f0, .string p.f1.f1.f1, .string p.f1.f1.f2, .string p.f2.f0, .int .i64 p.f2.f1.f0, .string p.f2.f1.f1, .string p.f2.f1.f2])) w ∧ FInv t p w0 g (l.setIfInBounds 0 true) (a.put (some 10) (.agg #[.string p.f0.f0, .int .i64 p.f0.f1.f0, .string p.f0.f1.f1, .string p.f0.f1.f2, .string p.f1.f0, .int .i64 p.f1.f1.f0, .string p.f1.f1.f1, .string p.f1.f1.f2, .string p.f2.f0, .int .i64 p.f2.f1.f0, .string p.f2.f1.f1, .string p.f2.f1.f2])) w := by
  obtain ⟨t5, t6, t10, t11, t12, t13, rfl, hb, hg, o6, o7, h0, h1, h2, h3, h4, h5⟩ := h
  have c0 := (hb.cell (p := ⟨g + 1, 0, none⟩) (show g + 1 < g + 2 by omega)).trans (hp 0 (.string p.f0.f0) rfl)
  have c1 := (hb.cell (p := ⟨g + 1, 1, none⟩) (show g + 1 < g + 2 by omega)).trans (hp 1 (.int .i64 p.f0.f1.f0) rfl)
  have c2 := (hb.cell (p := ⟨g + 1, 2, none⟩) (show g + 1 < g + 2 by omega)).trans (hp 2 (.string p.f0.f1.f1) rfl)
  have c3 := (hb.cell (p := ⟨g + 1, 3, none⟩) (show g + 1 < g + 2 by omega)).trans (hp 3 (.string p.f0.f1.f2) rfl)
  have c4 := (hb.cell (p := ⟨g + 1, 4, none⟩) (show g + 1 < g + 2 by omega)).trans (hp 4 (.string p.f1.f0) rfl)
  have c5 := (hb.cell (p := ⟨g + 1, 5, none⟩) (show g + 1 < g + 2 by omega)).trans (hp 5 (.int .i64 p.f1.f1.f0) rfl)
  have c6 := (hb.cell (p := ⟨g + 1, 6, none⟩) (show g + 1 < g + 2 by omega)).trans (hp 6 (.string p.f1.f1.f1) rfl)
  have c7 := (hb.cell (p := ⟨g + 1, 7, none⟩) (show g + 1 < g + 2 by omega)).trans (hp 7 (.string p.f1.f1.f2) rfl)
  have c8 := (hb.cell (p := ⟨g + 1, 8, none⟩) (show g + 1 < g + 2 by omega)).trans (hp 8 (.string p.f2.f0) rfl)
  have c9 := (hb.cell (p := ⟨g + 1, 9, none⟩) (show g + 1 < g + 2 by omega)).trans (hp 9 (.int .i64 p.f2.f1.f0) rfl)
  have c10 := (hb.cell (p := ⟨g + 1, 10, none⟩) (show g + 1 < g + 2 by omega)).trans (hp 10 (.string p.f2.f1.f1) rfl)
  have c11 := (hb.cell (p := ⟨g + 1, 11, none⟩) (show g + 1 < g + 2 by omega)).trans (hp 11 (.string p.f2.f1.f2) rfl)
  refine ⟨by go_simp, t5, t6, _, t11, t12, t13, rfl, hb, hg, fun h => keep_was (o6 (set_was h (by decide))), fun h => keep_was (o7 (set_was h (by decide))), fun _ => rfl, fun h => h1 (set_was h (by decide)), fun h => h2 (set_was h (by decide)), fun h => h3 (set_was h (by decide)), fun h => ?_, fun h => ?_⟩
  · obtain ⟨b, cs, e1, e2, e3, e4, e5⟩ := h4 (set_was h (by decide))
    exact ⟨b, cs, e1, e2, e3, e4, fun h => e5 (set_was h (by decide))⟩
  · obtain ⟨b, cs, e1, e2, e3, e4, e5⟩ := h5 (set_was h (by decide))
    exact ⟨b, cs, e1, e2, e3, e4, fun h => e5 (set_was h (by decide))⟩
set_option maxHeartbeats 4000000 in
set_option maxRecDepth 100000 in
theorem fits_step2 (t : S41) (p : S51) (w0 : World) (g : Nat) (hp : ∀ (c : Nat) (v : Value), (#[.int .i64 t.f0.f0, .string t.f0.f1, .string t.f0.f2, .int .i64 t.f1.f0, .string t.f1.f1, .string t.f1.f2, .int .i64 t.f2.f0, .string t.f2.f1, .string t.f2.f2] : Array Value)[c]? = some v → w0.cell? ⟨g, c, none⟩ = some v) (l : Array Bool) (a : Act) (w : World) (h : FInv t p w0 g l a w) (hr : l.getD 2 true = false) :
    (execOp a.eval { dst := some 12, op := Op.load 41 (Operand.tmp 2), type := 41, pos := "match.go:49", after := #[], guard := none }).run Try.prog w = .ok (.value (.agg #[.int .i64 t.f0.f0, .string t.f0.f1, .string t.f0.f2, .int .i64 t.f1.f0, .string t.f1.f1, .string t.f1.f2, .int .i64 t.f2.f0, .string t.f2.f1, .string t.f2.f2])) w ∧ FInv t p w0 g (l.setIfInBounds 2 true) (a.put (some 12) (.agg #[.int .i64 t.f0.f0, .string t.f0.f1, .string t.f0.f2, .int .i64 t.f1.f0, .string t.f1.f1, .string t.f1.f2, .int .i64 t.f2.f0, .string t.f2.f1, .string t.f2.f2])) w := by
  obtain ⟨t5, t6, t10, t11, t12, t13, rfl, hb, hg, o6, o7, h0, h1, h2, h3, h4, h5⟩ := h
  have c0 := (hb.cell (p := ⟨g, 0, none⟩) (show g < g + 2 by omega)).trans (hp 0 (.int .i64 t.f0.f0) rfl)
  have c1 := (hb.cell (p := ⟨g, 1, none⟩) (show g < g + 2 by omega)).trans (hp 1 (.string t.f0.f1) rfl)
  have c2 := (hb.cell (p := ⟨g, 2, none⟩) (show g < g + 2 by omega)).trans (hp 2 (.string t.f0.f2) rfl)
  have c3 := (hb.cell (p := ⟨g, 3, none⟩) (show g < g + 2 by omega)).trans (hp 3 (.int .i64 t.f1.f0) rfl)
  have c4 := (hb.cell (p := ⟨g, 4, none⟩) (show g < g + 2 by omega)).trans (hp 4 (.string t.f1.f1) rfl)
  have c5 := (hb.cell (p := ⟨g, 5, none⟩) (show g < g + 2 by omega)).trans (hp 5 (.string t.f1.f2) rfl)
  have c6 := (hb.cell (p := ⟨g, 6, none⟩) (show g < g + 2 by omega)).trans (hp 6 (.int .i64 t.f2.f0) rfl)
  have c7 := (hb.cell (p := ⟨g, 7, none⟩) (show g < g + 2 by omega)).trans (hp 7 (.string t.f2.f1) rfl)
  have c8 := (hb.cell (p := ⟨g, 8, none⟩) (show g < g + 2 by omega)).trans (hp 8 (.string t.f2.f2) rfl)
  refine ⟨by go_simp, t5, t6, t10, t11, _, t13, rfl, hb, hg, fun h => keep_was (o6 (set_was h (by decide))), fun h => keep_was (o7 (set_was h (by decide))), fun h => h0 (set_was h (by decide)), fun h => h1 (set_was h (by decide)), fun _ => rfl, fun h => h3 (set_was h (by decide)), fun h => ?_, fun h => ?_⟩
  · obtain ⟨b, cs, e1, e2, e3, e4, e5⟩ := h4 (set_was h (by decide))
    exact ⟨b, cs, e1, e2, e3, e4, fun h => e5 (set_was h (by decide))⟩
  · obtain ⟨b, cs, e1, e2, e3, e4, e5⟩ := h5 (set_was h (by decide))
    exact ⟨b, cs, e1, e2, e3, e4, fun h => e5 (set_was h (by decide))⟩
set_option maxHeartbeats 4000000 in
set_option maxRecDepth 100000 in
theorem fits_step4 (t : S41) (p : S51) (w0 : World) (g : Nat) (l : Array Bool) (a : Act) (w : World) (h : FInv t p w0 g l a w) (hr : l.getD 4 true = false) :
    ∃ v w1, (execOp a.eval { dst := some 5, op := Op.alloc 122, type := 0, pos := "match.go:49", after := #[], guard := none }).run Try.prog w = .ok (.value v) w1 ∧ FInv t p w0 g (l.setIfInBounds 4 true) (a.put (some 5) v) w1 := by
  obtain ⟨t5, t6, t10, t11, t12, t13, rfl, hb, hg, o6, o7, h0, h1, h2, h3, h4, h5⟩ := h
  refine ⟨.pointer (some ⟨w.heap.size, 0, none⟩), w.alloc (.cells #[(.string ⟨#[]⟩), (.int .i64 0), (.string ⟨#[]⟩), (.string ⟨#[]⟩), (.string ⟨#[]⟩), (.int .i64 0), (.string ⟨#[]⟩), (.string ⟨#[]⟩), (.string ⟨#[]⟩), (.int .i64 0), (.string ⟨#[]⟩), (.string ⟨#[]⟩)] 122), by go_simp, _, t6, t10, t11, t12, t13, rfl, hb.alloc hg _, by show _ ≤ (w.heap.push _).size; rw [Array.size_push]; omega, fun _ => set_at hr, fun h => keep_was (o7 (set_was h (by decide))), fun h => h0 (set_was h (by decide)), fun h => h1 (set_was h (by decide)), fun h => h2 (set_was h (by decide)), fun h => h3 (set_was h (by decide)), fun h => ?_, fun h => ?_⟩
  · exact ⟨_, _, rfl, hg, blk_new w _, rfl, fun h => (not_yet hr (o6 (set_was h (by decide)))).elim⟩
  · obtain ⟨b, cs, e1, e2, e3, e4, e5⟩ := h5 (set_was h (by decide))
    exact ⟨b, cs, e1, e2, blk_alloc e3 _, e4, fun h => e5 (set_was h (by decide))⟩
set_option maxHeartbeats 4000000 in
set_option maxRecDepth 100000 in
theorem fits_step5 (t : S41) (p : S51) (w0 : World) (g : Nat) (l : Array Bool) (a : Act) (w : World) (h : FInv t p w0 g l a w) (hr : l.getD 5 true = false) :
    ∃ v w1, (execOp a.eval { dst := some 6, op := Op.alloc 91, type := 0, pos := "match.go:49", after := #[], guard := none }).run Try.prog w = .ok (.value v) w1 ∧ FInv t p w0 g (l.setIfInBounds 5 true) (a.put (some 6) v) w1 := by
  obtain ⟨t5, t6, t10, t11, t12, t13, rfl, hb, hg, o6, o7, h0, h1, h2, h3, h4, h5⟩ := h
  refine ⟨.pointer (some ⟨w.heap.size, 0, none⟩), w.alloc (.cells #[(.int .i64 0), (.string ⟨#[]⟩), (.string ⟨#[]⟩), (.int .i64 0), (.string ⟨#[]⟩), (.string ⟨#[]⟩), (.int .i64 0), (.string ⟨#[]⟩), (.string ⟨#[]⟩)] 91), by go_simp, t5, _, t10, t11, t12, t13, rfl, hb.alloc hg _, by show _ ≤ (w.heap.push _).size; rw [Array.size_push]; omega, fun h => keep_was (o6 (set_was h (by decide))), fun _ => set_at hr, fun h => h0 (set_was h (by decide)), fun h => h1 (set_was h (by decide)), fun h => h2 (set_was h (by decide)), fun h => h3 (set_was h (by decide)), fun h => ?_, fun h => ?_⟩
  · obtain ⟨b, cs, e1, e2, e3, e4, e5⟩ := h4 (set_was h (by decide))
    exact ⟨b, cs, e1, e2, blk_alloc e3 _, e4, fun h => e5 (set_was h (by decide))⟩
  · exact ⟨_, _, rfl, hg, blk_new w _, rfl, fun h => (not_yet hr (o7 (set_was h (by decide)))).elim⟩
set_option maxHeartbeats 4000000 in
set_option maxRecDepth 100000 in
theorem fits_step6 (t : S41) (p : S51) (w0 : World) (g : Nat) (af : Array Edge) (l : Array Bool) (a : Act) (w : World) (h : FInv t p w0 g l a w) (hr : l.getD 6 true = false) (hd : l.getD 4 false = true) (hv : l.getD 1 false = true) :
    ∃ w1, (execOp a.eval { dst := none, op := Op.store 122 (Operand.tmp 5) (Operand.tmp 11), type := 0, pos := "match.go:49", after := af, guard := none }).run Try.prog w = .ok .skip w1 ∧ FInv t p w0 g (l.setIfInBounds 6 true) (a.put none undef) w1 := by
  obtain ⟨t5, t6, t10, t11, t12, t13, rfl, hb, hg, o6, o7, h0, h1, h2, h3, h4, h5⟩ := h
  obtain ⟨b, cs, e1, e2, e3, e4, e5⟩ := h4 hd
  have ev := h1 hv
  subst e1; subst ev
  have hrun : (Instr.storeAt 122 (.pointer (some ⟨b, 0, none⟩)) (.agg #[.string p.f0.f0, .int .i64 p.f0.f1.f0, .string p.f0.f1.f1, .string p.f0.f1.f2, .string p.f1.f0, .int .i64 p.f1.f1.f0, .string p.f1.f1.f1, .string p.f1.f1.f2, .string p.f2.f0, .int .i64 p.f2.f1.f0, .string p.f2.f1.f1, .string p.f2.f1.f2])).run Try.prog w = .ok () (w.setCells b 0 (#[.string p.f0.f0, .int .i64 p.f0.f1.f0, .string p.f0.f1.f1, .string p.f0.f1.f2, .string p.f1.f0, .int .i64 p.f1.f1.f0, .string p.f1.f1.f1, .string p.f1.f1.f2, .string p.f2.f0, .int .i64 p.f2.f1.f0, .string p.f2.f1.f1, .string p.f2.f1.f2] : Array Value).toList) := run_store_run 122 (.agg #[.string p.f0.f0, .int .i64 p.f0.f1.f0, .string p.f0.f1.f1, .string p.f0.f1.f2, .string p.f1.f0, .int .i64 p.f1.f1.f0, .string p.f1.f1.f1, .string p.f1.f1.f2, .string p.f2.f0, .int .i64 p.f2.f1.f0, .string p.f2.f1.f1, .string p.f2.f1.f2]) (#[.string p.f0.f0, .int .i64 p.f0.f1.f0, .string p.f0.f1.f1, .string p.f0.f1.f2, .string p.f1.f0, .int .i64 p.f1.f1.f0, .string p.f1.f1.f1, .string p.f1.f1.f2, .string p.f2.f0, .int .i64 p.f2.f1.f0, .string p.f2.f1.f1, .string p.f2.f1.f2] : Array Value).toList e3 rfl (by kernel_rfl) (by rw [e4]; exact Nat.le_refl _) (by intro q hq; simp only [List.mem_cons, List.not_mem_nil, or_false] at hq; rcases hq with rfl | rfl | rfl | rfl | rfl | rfl | rfl | rfl | rfl | rfl | rfl | rfl <;> rfl)
  obtain ⟨cur, c1, c2, c3⟩ := setCells_row (#[.string p.f0.f0, .int .i64 p.f0.f1.f0, .string p.f0.f1.f1, .string p.f0.f1.f2, .string p.f1.f0, .int .i64 p.f1.f1.f0, .string p.f1.f1.f1, .string p.f1.f1.f2, .string p.f2.f0, .int .i64 p.f2.f1.f0, .string p.f2.f1.f1, .string p.f2.f1.f2] : Array Value).toList 0 w cs e3 (by rw [e4]; exact Nat.le_refl _)
  obtain ⟨s1, s2, s3, s4⟩ := setCells_same b (#[.string p.f0.f0, .int .i64 p.f0.f1.f0, .string p.f0.f1.f1, .string p.f0.f1.f2, .string p.f1.f0, .int .i64 p.f1.f1.f0, .string p.f1.f1.f1, .string p.f1.f1.f2, .string p.f2.f0, .int .i64 p.f2.f1.f0, .string p.f2.f1.f1, .string p.f2.f1.f2] : Array Value).toList 0 w
  have hcur : cur = (#[.string p.f0.f0, .int .i64 p.f0.f1.f0, .string p.f0.f1.f1, .string p.f0.f1.f2, .string p.f1.f0, .int .i64 p.f1.f1.f0, .string p.f1.f1.f1, .string p.f1.f1.f2, .string p.f2.f0, .int .i64 p.f2.f1.f0, .string p.f2.f1.f1, .string p.f2.f1.f2] : Array Value) := by
    apply Array.ext'
    rw [c3, List.take_zero, List.nil_append, List.drop_of_length_le (by rw [Array.length_toList, e4]; exact Nat.le_refl _), List.append_nil]
  refine ⟨_, ?run, _, t6, t10, _, t12, t13, rfl, hb.trans ⟨s1, s2, s3, by rw [s4]; exact Nat.le_refl _, fun k hk => setCells_far _ _ k (by omega)⟩, by rw [s4]; exact hg, fun _ => keep_was (hd), fun h => keep_was (o7 (set_was h (by decide))), fun h => h0 (set_was h (by decide)), fun _ => rfl, fun h => h2 (set_was h (by decide)), fun h => h3 (set_was h (by decide)), fun h => ?_, fun h => ?_⟩
  case run => simp [execOp, Act.eval, hrun]
  · exact ⟨b, cur, rfl, e2, c1, by rw [hcur]; rfl, fun _ => hcur⟩
  · obtain ⟨b', cs', f1, f2, f3, f4, f5⟩ := h5 (set_was h (by decide))
    have hne : b' ≠ b := fun h => by rw [h, e3] at f3; injection f3 with f3; injection f3 with _ f3; exact absurd f3 (by decide)
    exact ⟨b', cs', f1, f2, (setCells_far _ _ _ hne).trans f3, f4, fun h => f5 (set_was h (by decide))⟩
set_option maxHeartbeats 4000000 in
set_option maxRecDepth 100000 in
theorem fits_step7 (t : S41) (p : S51) (w0 : World) (g : Nat) (af : Array Edge) (l : Array Bool) (a : Act) (w : World) (h : FInv t p w0 g l a w) (hr : l.getD 7 true = false) (hd : l.getD 5 false = true) (hv : l.getD 3 false = true) :
    ∃ w1, (execOp a.eval { dst := none, op := Op.store 91 (Operand.tmp 6) (Operand.tmp 13), type := 0, pos := "match.go:49", after := af, guard := none }).run Try.prog w = .ok .skip w1 ∧ FInv t p w0 g (l.setIfInBounds 7 true) (a.put none undef) w1 := by
  obtain ⟨t5, t6, t10, t11, t12, t13, rfl, hb, hg, o6, o7, h0, h1, h2, h3, h4, h5⟩ := h
  obtain ⟨b, cs, e1, e2, e3, e4, e5⟩ := h5 hd
  have ev := h3 hv
  subst e1; subst ev
  have hrun : (Instr.storeAt 91 (.pointer (some ⟨b, 0, none⟩)) (.agg #[.int .i64 t.f0.f0, .string t.f0.f1, .string t.f0.f2, .int .i64 t.f1.f0, .string t.f1.f1, .string t.f1.f2, .int .i64 t.f2.f0, .string t.f2.f1, .string t.f2.f2])).run Try.prog w = .ok () (w.setCells b 0 (#[.int .i64 t.f0.f0, .string t.f0.f1, .string t.f0.f2, .int .i64 t.f1.f0, .string t.f1.f1, .string t.f1.f2, .int .i64 t.f2.f0, .string t.f2.f1, .string t.f2.f2] : Array Value).toList) := run_store_run 91 (.agg #[.int .i64 t.f0.f0, .string t.f0.f1, .string t.f0.f2, .int .i64 t.f1.f0, .string t.f1.f1, .string t.f1.f2, .int .i64 t.f2.f0, .string t.f2.f1, .string t.f2.f2]) (#[.int .i64 t.f0.f0, .string t.f0.f1, .string t.f0.f2, .int .i64 t.f1.f0, .string t.f1.f1, .string t.f1.f2, .int .i64 t.f2.f0, .string t.f2.f1, .string t.f2.f2] : Array Value).toList e3 rfl (by kernel_rfl) (by rw [e4]; exact Nat.le_refl _) (by intro q hq; simp only [List.mem_cons, List.not_mem_nil, or_false] at hq; rcases hq with rfl | rfl | rfl | rfl | rfl | rfl | rfl | rfl | rfl <;> rfl)
  obtain ⟨cur, c1, c2, c3⟩ := setCells_row (#[.int .i64 t.f0.f0, .string t.f0.f1, .string t.f0.f2, .int .i64 t.f1.f0, .string t.f1.f1, .string t.f1.f2, .int .i64 t.f2.f0, .string t.f2.f1, .string t.f2.f2] : Array Value).toList 0 w cs e3 (by rw [e4]; exact Nat.le_refl _)
  obtain ⟨s1, s2, s3, s4⟩ := setCells_same b (#[.int .i64 t.f0.f0, .string t.f0.f1, .string t.f0.f2, .int .i64 t.f1.f0, .string t.f1.f1, .string t.f1.f2, .int .i64 t.f2.f0, .string t.f2.f1, .string t.f2.f2] : Array Value).toList 0 w
  have hcur : cur = (#[.int .i64 t.f0.f0, .string t.f0.f1, .string t.f0.f2, .int .i64 t.f1.f0, .string t.f1.f1, .string t.f1.f2, .int .i64 t.f2.f0, .string t.f2.f1, .string t.f2.f2] : Array Value) := by
    apply Array.ext'
    rw [c3, List.take_zero, List.nil_append, List.drop_of_length_le (by rw [Array.length_toList, e4]; exact Nat.le_refl _), List.append_nil]
  refine ⟨_, ?run, t5, _, t10, t11, t12, _, rfl, hb.trans ⟨s1, s2, s3, by rw [s4]; exact Nat.le_refl _, fun k hk => setCells_far _ _ k (by omega)⟩, by rw [s4]; exact hg, fun h => keep_was (o6 (set_was h (by decide))), fun _ => keep_was (hd), fun h => h0 (set_was h (by decide)), fun h => h1 (set_was h (by decide)), fun h => h2 (set_was h (by decide)), fun _ => rfl, fun h => ?_, fun h => ?_⟩
  case run => simp [execOp, Act.eval, hrun]
  · obtain ⟨b', cs', f1, f2, f3, f4, f5⟩ := h4 (set_was h (by decide))
    have hne : b' ≠ b := fun h => by rw [h, e3] at f3; injection f3 with f3; injection f3 with _ f3; exact absurd f3 (by decide)
    exact ⟨b', cs', f1, f2, (setCells_far _ _ _ hne).trans f3, f4, fun h => f5 (set_was h (by decide))⟩
  · exact ⟨b, cur, rfl, e2, c1, by rw [hcur]; rfl, fun _ => hcur⟩
set_option maxHeartbeats 4000000 in
set_option maxRecDepth 100000 in
theorem fits_step1 (t : S41) (p : S51) (w0 : World) (g : Nat) (l : Array Bool) (a : Act) (w : World) (h : FInv t p w0 g l a w) (hr : l.getD 1 true = false) (hd : l.getD 0 false = true) :
    a.eval (.tmp 10) = .agg #[.string p.f0.f0, .int .i64 p.f0.f1.f0, .string p.f0.f1.f1, .string p.f0.f1.f2, .string p.f1.f0, .int .i64 p.f1.f1.f0, .string p.f1.f1.f1, .string p.f1.f1.f2, .string p.f2.f0, .int .i64 p.f2.f1.f0, .string p.f2.f1.f1, .string p.f2.f1.f2] ∧ Calls Try.prog 67 #[.agg #[.string p.f0.f0, .int .i64 p.f0.f1.f0, .string p.f0.f1.f1, .string p.f0.f1.f2, .string p.f1.f0, .int .i64 p.f1.f1.f0, .string p.f1.f1.f1, .string p.f1.f1.f2, .string p.f2.f0, .int .i64 p.f2.f1.f0, .string p.f2.f1.f1, .string p.f2.f1.f2]] w fun e w' => ∃ v, e = .returned v ∧ FInv t p w0 g (l.setIfInBounds 1 true) (a.put (some 11) v) w' := by
  obtain ⟨t5, t6, t10, t11, t12, t13, rfl, hb, hg, o6, o7, h0, h1, h2, h3, h4, h5⟩ := h
  have ev := h0 hd
  subst ev
  refine ⟨rfl, (slots_calls _ _ _ _ _ _ _ _ _ _ _ _ w).mono ?_⟩
  rintro e w' ⟨rfl, hgr⟩
  have hb' := grown_below hgr
  refine ⟨_, rfl, t5, t6, _, _, t12, t13, rfl, hb.trans (hb'.mono hg), Nat.le_trans hg hb'.size, fun h => keep_was (o6 (set_was h (by decide))), fun h => keep_was (o7 (set_was h (by decide))), fun _ => rfl, fun _ => rfl, fun h => h2 (set_was h (by decide)), fun h => h3 (set_was h (by decide)), fun h => ?_, fun h => ?_⟩
  · obtain ⟨b, cs, e1, e2, e3, e4, e5⟩ := h4 (set_was h (by decide))
    exact ⟨b, cs, e1, e2, blk_below e3 hb', e4, fun h => e5 (set_was h (by decide))⟩
  · obtain ⟨b, cs, e1, e2, e3, e4, e5⟩ := h5 (set_was h (by decide))
    exact ⟨b, cs, e1, e2, blk_below e3 hb', e4, fun h => e5 (set_was h (by decide))⟩
set_option maxHeartbeats 4000000 in
set_option maxRecDepth 100000 in
theorem fits_step3 (t : S41) (p : S51) (w0 : World) (g : Nat) (l : Array Bool) (a : Act) (w : World) (h : FInv t p w0 g l a w) (hr : l.getD 3 true = false) (hd : l.getD 2 false = true) :
    a.eval (.tmp 12) = .agg #[.int .i64 t.f0.f0, .string t.f0.f1, .string t.f0.f2, .int .i64 t.f1.f0, .string t.f1.f1, .string t.f1.f2, .int .i64 t.f2.f0, .string t.f2.f1, .string t.f2.f2] ∧ Calls Try.prog 94 #[.agg #[.int .i64 t.f0.f0, .string t.f0.f1, .string t.f0.f2, .int .i64 t.f1.f0, .string t.f1.f1, .string t.f1.f2, .int .i64 t.f2.f0, .string t.f2.f1, .string t.f2.f2]] w fun e w' => ∃ v, e = .returned v ∧ FInv t p w0 g (l.setIfInBounds 3 true) (a.put (some 13) v) w' := by
  obtain ⟨t5, t6, t10, t11, t12, t13, rfl, hb, hg, o6, o7, h0, h1, h2, h3, h4, h5⟩ := h
  have ev := h2 hd
  subst ev
  refine ⟨rfl, (terms_calls t w).mono ?_⟩
  rintro e w' ⟨rfl, hgr⟩
  have hb' := grown_below hgr
  refine ⟨_, rfl, t5, t6, t10, t11, _, _, rfl, hb.trans (hb'.mono hg), Nat.le_trans hg hb'.size, fun h => keep_was (o6 (set_was h (by decide))), fun h => keep_was (o7 (set_was h (by decide))), fun h => h0 (set_was h (by decide)), fun h => h1 (set_was h (by decide)), fun _ => rfl, fun _ => rfl, fun h => ?_, fun h => ?_⟩
  · obtain ⟨b, cs, e1, e2, e3, e4, e5⟩ := h4 (set_was h (by decide))
    exact ⟨b, cs, e1, e2, blk_below e3 hb', e4, fun h => e5 (set_was h (by decide))⟩
  · obtain ⟨b, cs, e1, e2, e3, e4, e5⟩ := h5 (set_was h (by decide))
    exact ⟨b, cs, e1, e2, blk_below e3 hb', e4, fun h => e5 (set_was h (by decide))⟩
theorem cell?_alloc_old' {W : World} {a : Addr} {v : Value} (h : W.cell? a = some v) (o : Obj) : (W.alloc o).cell? a = some v := Lib.cell?_alloc_some o h
theorem eqT_decide (x y : S35) : (x.f0 == y.f0 && (x.f1.toList == y.f1.toList && (x.f2.toList == y.f2.toList))) = decide (x = y) := by
  obtain ⟨a, b, c⟩ := x; obtain ⟨d, e, f⟩ := y
  simp only [toList_eq]
  rw [Bool.eq_iff_iff]
  simp only [Bool.and_eq_true, beq_iff_eq, decide_eq_true_iff, S35.mk.injEq]
theorem neT_decide (x y : S35) : (!(x.f0 == y.f0) || (!(x.f1.toList == y.f1.toList) || !(x.f2.toList == y.f2.toList))) = !decide (x = y) := by
  rw [← eqT_decide]; simp only [Bool.not_and]
/-- Does a term stand where a slot asks just it? -/
def ok1 (s : S49) (x : S35) : Bool := !(s.f0.toList == [] && decide (s.f1 ≠ x))
/-- Do two places agree that have one variable? -/
def ok2 (s s' : S49) (x x' : S35) : Bool := !(!(s'.f0.toList == []) && (s.f0.toList == s'.f0.toList) && decide (x ≠ x'))
def fitsP (t : S41) (p : S51) : Bool := ok1 p.f0 t.f0 && (ok1 p.f1 t.f1 && ok2 p.f0 p.f1 t.f0 t.f1) && (ok1 p.f2 t.f2 && ok2 p.f0 p.f2 t.f0 t.f2 && ok2 p.f1 p.f2 t.f1 t.f2)
set_option maxHeartbeats 8000000 in
set_option maxRecDepth 100000 in
theorem fits_calls (t : S41) (p : S51) (w : World) :
    Calls Try.prog 72 #[.agg #[.int .i64 t.f0.f0, .string t.f0.f1, .string t.f0.f2, .int .i64 t.f1.f0, .string t.f1.f1, .string t.f1.f2, .int .i64 t.f2.f0, .string t.f2.f1, .string t.f2.f2], .agg #[.string p.f0.f0, .int .i64 p.f0.f1.f0, .string p.f0.f1.f1, .string p.f0.f1.f2, .string p.f1.f0, .int .i64 p.f1.f1.f0, .string p.f1.f1.f1, .string p.f1.f1.f2, .string p.f2.f0, .int .i64 p.f2.f1.f0, .string p.f2.f1.f1, .string p.f2.f1.f2]] w fun e w' => e = .returned (.bool (fitsP t p)) ∧ Below w.heap.size w w' := by
  have mixed : Try.prog.follows .mixedOrders = true := by kernel_rfl
  have hu := Try.underlying35
  have hi0 := idxP0; have hi1 := idxP1; have hi2 := idxP2
  go_enter Try.func72, Try.ntmps72
  go_wp2_with (first | (go_at_call 67; refine stop_ ?_) | (go_at_call 94; refine stop_ ?_))
  have ht : ∀ (c : Nat) (v : Value), (#[.int .i64 t.f0.f0, .string t.f0.f1, .string t.f0.f2, .int .i64 t.f1.f0, .string t.f1.f1, .string t.f1.f2, .int .i64 t.f2.f0, .string t.f2.f1, .string t.f2.f2] : Array Value)[c]? = some v → ((w.alloc (.cells #[.int .i64 t.f0.f0, .string t.f0.f1, .string t.f0.f2, .int .i64 t.f1.f0, .string t.f1.f1, .string t.f1.f2, .int .i64 t.f2.f0, .string t.f2.f1, .string t.f2.f2] 41)).alloc (.cells #[.string p.f0.f0, .int .i64 p.f0.f1.f0, .string p.f0.f1.f1, .string p.f0.f1.f2, .string p.f1.f0, .int .i64 p.f1.f1.f0, .string p.f1.f1.f1, .string p.f1.f1.f2, .string p.f2.f0, .int .i64 p.f2.f1.f0, .string p.f2.f1.f1, .string p.f2.f1.f2] 51)).drew.cell? ⟨w.heap.size, c, none⟩ = some v := fun c v h => Lib.cell?_alloc_some _ ((blk_cell (blk_new w _) c).trans h)
  have hp : ∀ (c : Nat) (v : Value), (#[.string p.f0.f0, .int .i64 p.f0.f1.f0, .string p.f0.f1.f1, .string p.f0.f1.f2, .string p.f1.f0, .int .i64 p.f1.f1.f0, .string p.f1.f1.f1, .string p.f1.f1.f2, .string p.f2.f0, .int .i64 p.f2.f1.f0, .string p.f2.f1.f1, .string p.f2.f1.f2] : Array Value)[c]? = some v → ((w.alloc (.cells #[.int .i64 t.f0.f0, .string t.f0.f1, .string t.f0.f2, .int .i64 t.f1.f0, .string t.f1.f1, .string t.f1.f2, .int .i64 t.f2.f0, .string t.f2.f1, .string t.f2.f2] 41)).alloc (.cells #[.string p.f0.f0, .int .i64 p.f0.f1.f0, .string p.f0.f1.f1, .string p.f0.f1.f2, .string p.f1.f0, .int .i64 p.f1.f1.f0, .string p.f1.f1.f1, .string p.f1.f1.f2, .string p.f2.f0, .int .i64 p.f2.f1.f0, .string p.f2.f1.f1, .string p.f2.f1.f2] 51)).drew.cell? ⟨w.heap.size + 1, c, none⟩ = some v := fun c v h => by rw [← alloc_size1 w (.cells #[.int .i64 t.f0.f0, .string t.f0.f1, .string t.f0.f2, .int .i64 t.f1.f0, .string t.f1.f1, .string t.f1.f2, .int .i64 t.f2.f0, .string t.f2.f1, .string t.f2.f2] 41)]; exact (blk_cell (blk_new _ _) c).trans h
  refine region_inv mixed (FInv t p ((w.alloc (.cells #[.int .i64 t.f0.f0, .string t.f0.f1, .string t.f0.f2, .int .i64 t.f1.f0, .string t.f1.f1, .string t.f1.f2, .int .i64 t.f2.f0, .string t.f2.f1, .string t.f2.f2] 41)).alloc (.cells #[.string p.f0.f0, .int .i64 p.f0.f1.f0, .string p.f0.f1.f1, .string p.f0.f1.f2, .string p.f1.f0, .int .i64 p.f1.f1.f0, .string p.f1.f1.f1, .string p.f1.f1.f2, .string p.f2.f0, .int .i64 p.f2.f1.f0, .string p.f2.f1.f1, .string p.f2.f1.f2] 51)).drew w.heap.size) ?h0 ?hstep (by kernel_rfl) ?hend
  case h0 => exact ⟨_, _, _, _, _, _, rfl, Below.refl _ _, by show _ ≤ ((w.alloc _).alloc _).heap.size; rw [alloc_size1, alloc_size1]; exact Nat.le_refl _, fun h => by simp at h, fun h => by simp at h, fun h => by simp at h, fun h => by simp at h, fun h => by simp at h, fun h => by simp at h, fun h => by simp at h, fun h => by simp at h⟩
  case hstep =>
    intro l a wr i oi hinv hoi hir K hK
    obtain ⟨hun, o', ho', hdeps⟩ := mem_ready.1 hir
    rcases i with _ | _ | _ | _ | _ | _ | _ | _ | i
    · injection hoi with hoi; subst hoi; injection ho' with ho'; subst ho'
      obtain ⟨hrun, hnew⟩ := fits_step0 t p _ _ hp l a wr hinv hun
      exact event_step rfl hrun (hK.out _ _ hnew)
    · injection hoi with hoi; subst hoi; injection ho' with ho'; subst ho'
      have hd : l.getD 0 false = true := hdeps ⟨0, .data⟩ (by simp) rfl
      obtain ⟨hev, hc⟩ := fits_step1 t p _ _ l a wr hinv hun hd
      refine goes_ Try.func67 (by kernel_rfl) rfl #[.agg #[.string p.f0.f0, .int .i64 p.f0.f1.f0, .string p.f0.f1.f1, .string p.f0.f1.f2, .string p.f1.f0, .int .i64 p.f1.f1.f0, .string p.f1.f1.f1, .string p.f1.f1.f2, .string p.f2.f0, .int .i64 p.f2.f1.f0, .string p.f2.f1.f1, .string p.f2.f1.f2]] (by rfl) rfl rfl (by simp [hev]) (hc.mono ?_)
      rintro e w' ⟨v, rfl, hnew⟩
      exact ⟨v, rfl, hK.out _ _ hnew⟩
    · injection hoi with hoi; subst hoi; injection ho' with ho'; subst ho'
      obtain ⟨hrun, hnew⟩ := fits_step2 t p _ _ ht l a wr hinv hun
      exact event_step rfl hrun (hK.out _ _ hnew)
    · injection hoi with hoi; subst hoi; injection ho' with ho'; subst ho'
      have hd : l.getD 2 false = true := hdeps ⟨2, .data⟩ (by simp) rfl
      obtain ⟨hev, hc⟩ := fits_step3 t p _ _ l a wr hinv hun hd
      refine goes_ Try.func94 (by kernel_rfl) rfl #[.agg #[.int .i64 t.f0.f0, .string t.f0.f1, .string t.f0.f2, .int .i64 t.f1.f0, .string t.f1.f1, .string t.f1.f2, .int .i64 t.f2.f0, .string t.f2.f1, .string t.f2.f2]] (by rfl) rfl rfl (by simp [hev]) (hc.mono ?_)
      rintro e w' ⟨v, rfl, hnew⟩
      exact ⟨v, rfl, hK.out _ _ hnew⟩
    · injection hoi with hoi; subst hoi; injection ho' with ho'; subst ho'
      obtain ⟨v, w1, hrun, hnew⟩ := fits_step4 t p _ _ l a wr hinv hun
      exact event_step rfl hrun (hK.out _ _ hnew)
    · injection hoi with hoi; subst hoi; injection ho' with ho'; subst ho'
      obtain ⟨v, w1, hrun, hnew⟩ := fits_step5 t p _ _ l a wr hinv hun
      exact event_step rfl hrun (hK.out _ _ hnew)
    · injection hoi with hoi; subst hoi; injection ho' with ho'; subst ho'
      have hd : l.getD 4 false = true := hdeps ⟨4, .data⟩ (by simp) rfl
      have hv : l.getD 1 false = true := hdeps ⟨1, .data⟩ (by simp) rfl
      obtain ⟨w1, hrun, hnew⟩ := fits_step6 t p _ _ _ l a wr hinv hun hd hv
      exact skip_step rfl hrun (hK.out _ _ hnew)
    · injection hoi with hoi; subst hoi; injection ho' with ho'; subst ho'
      have hd : l.getD 5 false = true := hdeps ⟨5, .data⟩ (by simp) rfl
      have hv : l.getD 3 false = true := hdeps ⟨3, .data⟩ (by simp) rfl
      obtain ⟨w1, hrun, hnew⟩ := fits_step7 t p _ _ _ l a wr hinv hun hd hv
      exact skip_step rfl hrun (hK.out _ _ hnew)
    · cases hoi
  case hend =>
    intro l a wr hinv hall
    obtain ⟨t5, t6, t10, t11, t12, t13, rfl, hb, hg, _, _, h0, h1, h2, h3, h4, h5⟩ := hinv
    have e0 := h0 (hall 0 (by decide)); have e1 := h1 (hall 1 (by decide)); have e2 := h2 (hall 2 (by decide)); have e3 := h3 (hall 3 (by decide))
    obtain ⟨b, cs, f1, f2, f3, _, f5⟩ := h4 (hall 4 (by decide)); obtain ⟨d, ds, k1, k2, k3, _, k5⟩ := h5 (hall 5 (by decide))
    have f6 := f5 (hall 6 (by decide)); have k6 := k5 (hall 7 (by decide))
    subst e0 e1 e2 e3 f1 k1 f6 k6
    clear h0 h1 h2 h3 h4 h5 f5 k5 hall
    have s0 : wr.cell? ⟨b, 0, none⟩ = some (.string p.f0.f0) := (blk_cell f3 0).trans rfl
    have s1 : wr.cell? ⟨b, 1, none⟩ = some (.int .i64 p.f0.f1.f0) := (blk_cell f3 1).trans rfl
    have s2 : wr.cell? ⟨b, 2, none⟩ = some (.string p.f0.f1.f1) := (blk_cell f3 2).trans rfl
    have s3 : wr.cell? ⟨b, 3, none⟩ = some (.string p.f0.f1.f2) := (blk_cell f3 3).trans rfl
    have s4 : wr.cell? ⟨b, 4, none⟩ = some (.string p.f1.f0) := (blk_cell f3 4).trans rfl
    have s5 : wr.cell? ⟨b, 5, none⟩ = some (.int .i64 p.f1.f1.f0) := (blk_cell f3 5).trans rfl
    have s6 : wr.cell? ⟨b, 6, none⟩ = some (.string p.f1.f1.f1) := (blk_cell f3 6).trans rfl
    have s7 : wr.cell? ⟨b, 7, none⟩ = some (.string p.f1.f1.f2) := (blk_cell f3 7).trans rfl
    have s8 : wr.cell? ⟨b, 8, none⟩ = some (.string p.f2.f0) := (blk_cell f3 8).trans rfl
    have s9 : wr.cell? ⟨b, 9, none⟩ = some (.int .i64 p.f2.f1.f0) := (blk_cell f3 9).trans rfl
    have s10 : wr.cell? ⟨b, 10, none⟩ = some (.string p.f2.f1.f1) := (blk_cell f3 10).trans rfl
    have s11 : wr.cell? ⟨b, 11, none⟩ = some (.string p.f2.f1.f2) := (blk_cell f3 11).trans rfl
    have HB0 := Aside0.mk hb; have HG := Aside0.mk hg; have HSL := Aside0.mk f3; have HTM := Aside0.mk k3; have HF2 := Aside0.mk f2; have HK2 := Aside0.mk k2
    clear hb hg f2 k2 f3 k3 hp ht
    go_wp2
    clear s0 s1 s2 s3 s4 s5 s6 s7 s8 s9 s10 s11
    go_loopg [7, 8, 9, 15, 31] 3 (fun gg _ _ _ s15 _ wv => Aside0 (Below w.heap.size w wv) ∧ wv.heap[b]? = some (.cells #[.string p.f0.f0, .int .i64 p.f0.f1.f0, .string p.f0.f1.f1, .string p.f0.f1.f2, .string p.f1.f0, .int .i64 p.f1.f1.f0, .string p.f1.f1.f1, .string p.f1.f1.f2, .string p.f2.f0, .int .i64 p.f2.f1.f0, .string p.f2.f1.f1, .string p.f2.f1.f2] 122 (0, 0)) ∧ wv.heap[d]? = some (.cells #[.int .i64 t.f0.f0, .string t.f0.f1, .string t.f0.f2, .int .i64 t.f1.f0, .string t.f1.f1, .string t.f1.f2, .int .i64 t.f2.f0, .string t.f2.f1, .string t.f2.f2] 91 (0, 0)) ∧ ((s15 = .int .i64 0 ∧ gg = 3) ∨ (s15 = .int .i64 1 ∧ gg = 2 ∧ Aside0 (ok1 p.f0 t.f0 = true)) ∨ (s15 = .int .i64 2 ∧ gg = 1 ∧ Aside0 (ok1 p.f0 t.f0 = true ∧ (ok1 p.f1 t.f1 && ok2 p.f0 p.f1 t.f0 t.f1) = true)) ∨ (s15 = .int .i64 3 ∧ gg = 0 ∧ Aside0 (fitsP t p = true))))
    case atStart => exact ⟨⟨(below_alloc (below_alloc (Below.refl w.heap.size w) _) _).trans ((below_drew1 (Below.refl _ _)).trans (HB0.out.mono (by omega)))⟩, HSL.out, HTM.out, .inl ⟨rfl, rfl⟩⟩
    case round =>
      obtain ⟨HB, hsl, htm, hrel⟩ := hrel
      have s0 := fun (o : Obj) => cell?_alloc_old' ((blk_cell hsl 0).trans (show _ = some (.string p.f0.f0) from rfl)) o
      have s1 := fun (o : Obj) => cell?_alloc_old' ((blk_cell hsl 1).trans (show _ = some (.int .i64 p.f0.f1.f0) from rfl)) o
      have s2 := fun (o : Obj) => cell?_alloc_old' ((blk_cell hsl 2).trans (show _ = some (.string p.f0.f1.f1) from rfl)) o
      have s3 := fun (o : Obj) => cell?_alloc_old' ((blk_cell hsl 3).trans (show _ = some (.string p.f0.f1.f2) from rfl)) o
      have s4 := fun (o : Obj) => cell?_alloc_old' ((blk_cell hsl 4).trans (show _ = some (.string p.f1.f0) from rfl)) o
      have s5 := fun (o : Obj) => cell?_alloc_old' ((blk_cell hsl 5).trans (show _ = some (.int .i64 p.f1.f1.f0) from rfl)) o
      have s6 := fun (o : Obj) => cell?_alloc_old' ((blk_cell hsl 6).trans (show _ = some (.string p.f1.f1.f1) from rfl)) o
      have s7 := fun (o : Obj) => cell?_alloc_old' ((blk_cell hsl 7).trans (show _ = some (.string p.f1.f1.f2) from rfl)) o
      have s8 := fun (o : Obj) => cell?_alloc_old' ((blk_cell hsl 8).trans (show _ = some (.string p.f2.f0) from rfl)) o
      have s9 := fun (o : Obj) => cell?_alloc_old' ((blk_cell hsl 9).trans (show _ = some (.int .i64 p.f2.f1.f0) from rfl)) o
      have s10 := fun (o : Obj) => cell?_alloc_old' ((blk_cell hsl 10).trans (show _ = some (.string p.f2.f1.f1) from rfl)) o
      have s11 := fun (o : Obj) => cell?_alloc_old' ((blk_cell hsl 11).trans (show _ = some (.string p.f2.f1.f2) from rfl)) o
      have x0 := fun (o : Obj) => cell?_alloc_old' ((blk_cell htm 0).trans (show _ = some (.int .i64 t.f0.f0) from rfl)) o
      have x1 := fun (o : Obj) => cell?_alloc_old' ((blk_cell htm 1).trans (show _ = some (.string t.f0.f1) from rfl)) o
      have x2 := fun (o : Obj) => cell?_alloc_old' ((blk_cell htm 2).trans (show _ = some (.string t.f0.f2) from rfl)) o
      have x3 := fun (o : Obj) => cell?_alloc_old' ((blk_cell htm 3).trans (show _ = some (.int .i64 t.f1.f0) from rfl)) o
      have x4 := fun (o : Obj) => cell?_alloc_old' ((blk_cell htm 4).trans (show _ = some (.string t.f1.f1) from rfl)) o
      have x5 := fun (o : Obj) => cell?_alloc_old' ((blk_cell htm 5).trans (show _ = some (.string t.f1.f2) from rfl)) o
      have x6 := fun (o : Obj) => cell?_alloc_old' ((blk_cell htm 6).trans (show _ = some (.int .i64 t.f2.f0) from rfl)) o
      have x7 := fun (o : Obj) => cell?_alloc_old' ((blk_cell htm 7).trans (show _ = some (.string t.f2.f1) from rfl)) o
      have x8 := fun (o : Obj) => cell?_alloc_old' ((blk_cell htm 8).trans (show _ = some (.string t.f2.f2) from rfl)) o
      have HSLw := Aside0.mk hsl; have HTMw := Aside0.mk htm; clear hsl htm
      rcases hrel with ⟨rfl, rfl⟩ | ⟨rfl, rfl, HN⟩ | ⟨rfl, rfl, HN⟩ | ⟨rfl, rfl, HN⟩
      ·
        cases hA : (p.f0.f0.toList == [])
        · -- a variable
          have hA2 : ¬ p.f0.f0.toList = [] := fun h => by rw [h] at hA; cases hA
          have HA := Aside0.mk hA; have HO : Aside0 (ok1 p.f0 t.f0 = true) := ⟨by unfold ok1; rw [hA]; rfl⟩
          go_wp2
          repeat (go_quiet (fail); try go_wp2)
          go_loopg [9, 31] 0 (fun gg _ s31 wv => Aside0 (Below w.heap.size w wv) ∧ Aside0 (wv.heap[b]? = some (.cells #[.string p.f0.f0, .int .i64 p.f0.f1.f0, .string p.f0.f1.f1, .string p.f0.f1.f2, .string p.f1.f0, .int .i64 p.f1.f1.f0, .string p.f1.f1.f1, .string p.f1.f1.f2, .string p.f2.f0, .int .i64 p.f2.f1.f0, .string p.f2.f1.f1, .string p.f2.f1.f2] 122 (0, 0))) ∧ Aside0 (wv.heap[d]? = some (.cells #[.int .i64 t.f0.f0, .string t.f0.f1, .string t.f0.f2, .int .i64 t.f1.f0, .string t.f1.f1, .string t.f1.f2, .int .i64 t.f2.f0, .string t.f2.f1, .string t.f2.f2] 91 (0, 0))) ∧ Aside0 (wv.heap[wr.heap.size]? = some (.cells #[.string p.f0.f0, .int .i64 p.f0.f1.f0, .string p.f0.f1.f1, .string p.f0.f1.f2] 49 (0, 0))) ∧ ((s31 = .int .i64 0 ∧ gg = 0 ∧ Aside0 (True))))
          case atStart => exact ⟨⟨by first | exact pw_below_drewN (below_alloc HB.out _) _ | exact below_alloc HB.out _⟩, ⟨blk_alloc HSLw.out _⟩, ⟨blk_alloc HTMw.out _⟩, ⟨blk_new wr _⟩, ⟨rfl, rfl, ⟨trivial⟩⟩⟩
          case round =>
            obtain ⟨HB3, HS3, HT3, HX3, hrel⟩ := hrel
            rcases hrel with ⟨rfl, rfl, HC⟩
            ·
              go_wp2
              go_roundg 2
              case measure => omega
              case rel => exact ⟨HB3, HS3.out, HT3.out, .inr (.inl ⟨by go_num, rfl, HO⟩)⟩
        · -- no variable
          have hA2 : p.f0.f0.toList = [] := beq_iff_eq.1 hA
          have hq := eqT_decide p.f0.f1 t.f0; have hq2 := neT_decide p.f0.f1 t.f0
          have HA := Aside0.mk hA
          by_cases hB : p.f0.f1 = t.f0
          · rw [decide_eq_true hB] at hq hq2
            have HO : Aside0 (ok1 p.f0 t.f0 = true) := ⟨by unfold ok1; rw [decide_eq_false (fun h => h hB), Bool.and_false]; rfl⟩; clear hB
            go_wp2
            repeat (go_quiet (fail); try go_wp2)
            go_loopg [9, 31] 0 (fun gg _ s31 wv => Aside0 (Below w.heap.size w wv) ∧ Aside0 (wv.heap[b]? = some (.cells #[.string p.f0.f0, .int .i64 p.f0.f1.f0, .string p.f0.f1.f1, .string p.f0.f1.f2, .string p.f1.f0, .int .i64 p.f1.f1.f0, .string p.f1.f1.f1, .string p.f1.f1.f2, .string p.f2.f0, .int .i64 p.f2.f1.f0, .string p.f2.f1.f1, .string p.f2.f1.f2] 122 (0, 0))) ∧ Aside0 (wv.heap[d]? = some (.cells #[.int .i64 t.f0.f0, .string t.f0.f1, .string t.f0.f2, .int .i64 t.f1.f0, .string t.f1.f1, .string t.f1.f2, .int .i64 t.f2.f0, .string t.f2.f1, .string t.f2.f2] 91 (0, 0))) ∧ Aside0 (wv.heap[wr.heap.size]? = some (.cells #[.string p.f0.f0, .int .i64 p.f0.f1.f0, .string p.f0.f1.f1, .string p.f0.f1.f2] 49 (0, 0))) ∧ ((s31 = .int .i64 0 ∧ gg = 0 ∧ Aside0 (True))))
            case atStart => exact ⟨⟨by first | exact pw_below_drewN (below_alloc HB.out _) _ | exact below_alloc HB.out _⟩, ⟨blk_alloc HSLw.out _⟩, ⟨blk_alloc HTMw.out _⟩, ⟨blk_new wr _⟩, ⟨rfl, rfl, ⟨trivial⟩⟩⟩
            case round =>
              obtain ⟨HB3, HS3, HT3, HX3, hrel⟩ := hrel
              rcases hrel with ⟨rfl, rfl, HC⟩
              ·
                go_wp2
                go_roundg 2
                case measure => omega
                case rel => exact ⟨HB3, HS3.out, HT3.out, .inr (.inl ⟨by go_num, rfl, HO⟩)⟩
          · rw [decide_eq_false hB] at hq hq2
            have HBB := Aside0.mk hB; clear hB
            go_wp2
            repeat (go_quiet (fail); try go_wp2)
            go_ret
            exact ⟨by have hx_ := (show ok1 p.f0 t.f0 = false from by unfold ok1; rw [HA.out, decide_eq_true HBB.out]; rfl); rw [show fitsP t p = false from by unfold fitsP; simp [hx_]]; rfl, by first | exact HB3.out | exact pw_below_drewN HB3.out _ | exact pw_below_drewN (below_alloc HB.out _) _ | exact below_alloc HB.out _⟩
      ·
        cases hA : (p.f1.f0.toList == [])
        · -- a variable
          have hA2 : ¬ p.f1.f0.toList = [] := fun h => by rw [h] at hA; cases hA
          have HA := Aside0.mk hA; have HO : Aside0 (ok1 p.f1 t.f1 = true) := ⟨by unfold ok1; rw [hA]; rfl⟩
          go_wp2
          repeat (go_quiet (fail); try go_wp2)
          go_loopg [9, 31] 1 (fun gg _ s31 wv => Aside0 (Below w.heap.size w wv) ∧ Aside0 (wv.heap[b]? = some (.cells #[.string p.f0.f0, .int .i64 p.f0.f1.f0, .string p.f0.f1.f1, .string p.f0.f1.f2, .string p.f1.f0, .int .i64 p.f1.f1.f0, .string p.f1.f1.f1, .string p.f1.f1.f2, .string p.f2.f0, .int .i64 p.f2.f1.f0, .string p.f2.f1.f1, .string p.f2.f1.f2] 122 (0, 0))) ∧ Aside0 (wv.heap[d]? = some (.cells #[.int .i64 t.f0.f0, .string t.f0.f1, .string t.f0.f2, .int .i64 t.f1.f0, .string t.f1.f1, .string t.f1.f2, .int .i64 t.f2.f0, .string t.f2.f1, .string t.f2.f2] 91 (0, 0))) ∧ Aside0 (wv.heap[wr.heap.size]? = some (.cells #[.string p.f1.f0, .int .i64 p.f1.f1.f0, .string p.f1.f1.f1, .string p.f1.f1.f2] 49 (0, 0))) ∧ ((s31 = .int .i64 0 ∧ gg = 1 ∧ Aside0 (True)) ∨ (s31 = .int .i64 1 ∧ gg = 0 ∧ Aside0 (ok2 p.f0 p.f1 t.f0 t.f1 = true))))
          case atStart => exact ⟨⟨by first | exact pw_below_drewN (below_alloc HB.out _) _ | exact below_alloc HB.out _⟩, ⟨blk_alloc HSLw.out _⟩, ⟨blk_alloc HTMw.out _⟩, ⟨blk_new wr _⟩, .inl ⟨rfl, rfl, ⟨trivial⟩⟩⟩
          case round =>
            obtain ⟨HB3, HS3, HT3, HX3, hrel⟩ := hrel
            rcases hrel with ⟨rfl, rfl, HC⟩ | ⟨rfl, rfl, HC⟩
            ·
              have z0 := (blk_cell HX3.out 0).trans (show _ = some (.string p.f1.f0) from rfl)
              have z1 := (blk_cell HX3.out 1).trans (show _ = some (.int .i64 p.f1.f1.f0) from rfl)
              have z2 := (blk_cell HX3.out 2).trans (show _ = some (.string p.f1.f1.f1) from rfl)
              have z3 := (blk_cell HX3.out 3).trans (show _ = some (.string p.f1.f1.f2) from rfl)
              have s0 := (blk_cell HS3.out 0).trans (show _ = some (.string p.f0.f0) from rfl)
              have s1 := (blk_cell HS3.out 1).trans (show _ = some (.int .i64 p.f0.f1.f0) from rfl)
              have s2 := (blk_cell HS3.out 2).trans (show _ = some (.string p.f0.f1.f1) from rfl)
              have s3 := (blk_cell HS3.out 3).trans (show _ = some (.string p.f0.f1.f2) from rfl)
              have s4 := (blk_cell HS3.out 4).trans (show _ = some (.string p.f1.f0) from rfl)
              have s5 := (blk_cell HS3.out 5).trans (show _ = some (.int .i64 p.f1.f1.f0) from rfl)
              have s6 := (blk_cell HS3.out 6).trans (show _ = some (.string p.f1.f1.f1) from rfl)
              have s7 := (blk_cell HS3.out 7).trans (show _ = some (.string p.f1.f1.f2) from rfl)
              have s8 := (blk_cell HS3.out 8).trans (show _ = some (.string p.f2.f0) from rfl)
              have s9 := (blk_cell HS3.out 9).trans (show _ = some (.int .i64 p.f2.f1.f0) from rfl)
              have s10 := (blk_cell HS3.out 10).trans (show _ = some (.string p.f2.f1.f1) from rfl)
              have s11 := (blk_cell HS3.out 11).trans (show _ = some (.string p.f2.f1.f2) from rfl)
              have x0 := (blk_cell HT3.out 0).trans (show _ = some (.int .i64 t.f0.f0) from rfl)
              have x1 := (blk_cell HT3.out 1).trans (show _ = some (.string t.f0.f1) from rfl)
              have x2 := (blk_cell HT3.out 2).trans (show _ = some (.string t.f0.f2) from rfl)
              have x3 := (blk_cell HT3.out 3).trans (show _ = some (.int .i64 t.f1.f0) from rfl)
              have x4 := (blk_cell HT3.out 4).trans (show _ = some (.string t.f1.f1) from rfl)
              have x5 := (blk_cell HT3.out 5).trans (show _ = some (.string t.f1.f2) from rfl)
              have x6 := (blk_cell HT3.out 6).trans (show _ = some (.int .i64 t.f2.f0) from rfl)
              have x7 := (blk_cell HT3.out 7).trans (show _ = some (.string t.f2.f1) from rfl)
              have x8 := (blk_cell HT3.out 8).trans (show _ = some (.string t.f2.f2) from rfl)
              cases hC : (p.f0.f0.toList == p.f1.f0.toList)
              · have HCC := Aside0.mk hC
                go_wp2
                repeat (go_quiet (fail); try go_wp2)
                go_roundg 0
                case measure => omega
                case rel => exact ⟨⟨pw_below_drewN HB3.out _⟩, HS3, HT3, HX3, .inr (⟨by go_num, rfl, ⟨(by unfold ok2; rw [HCC.out, Bool.and_false, Bool.false_and]; rfl)⟩⟩)⟩
              · have HCC := Aside0.mk hC
                have hq := eqT_decide t.f0 t.f1; have hq2 := neT_decide t.f0 t.f1
                by_cases hD : t.f0 = t.f1
                · rw [decide_eq_true hD] at hq hq2; have HD := Aside0.mk hD; clear hD
                  go_wp2
                  repeat (go_quiet (fail); try go_wp2)
                  go_roundg 0
                  case measure => omega
                  case rel => exact ⟨⟨pw_below_drewN HB3.out _⟩, HS3, HT3, HX3, .inr (⟨by go_num, rfl, ⟨(by unfold ok2; rw [decide_eq_false (fun h => h HD.out), Bool.and_false]; rfl)⟩⟩)⟩
                · rw [decide_eq_false hD] at hq hq2; have HD := Aside0.mk hD; clear hD
                  go_wp2
                  repeat (go_quiet (fail); try go_wp2)
                  go_ret
                  exact ⟨by have hx_ := (show ok2 p.f0 p.f1 t.f0 t.f1 = false from by unfold ok2; rw [HA.out, HCC.out, decide_eq_true HD.out]; rfl); rw [show fitsP t p = false from by unfold fitsP; simp [hx_]]; rfl, by first | exact HB3.out | exact pw_below_drewN HB3.out _ | exact pw_below_drewN (below_alloc HB.out _) _ | exact below_alloc HB.out _⟩
            ·
              go_wp2
              go_roundg 1
              case measure => omega
              case rel => exact ⟨HB3, HS3.out, HT3.out, .inr (.inr (.inl ⟨by go_num, rfl, ⟨HN.out, (by rw [HO.out, HC.out]; rfl)⟩⟩))⟩
        · -- no variable
          have hA2 : p.f1.f0.toList = [] := beq_iff_eq.1 hA
          have hq := eqT_decide p.f1.f1 t.f1; have hq2 := neT_decide p.f1.f1 t.f1
          have HA := Aside0.mk hA
          by_cases hB : p.f1.f1 = t.f1
          · rw [decide_eq_true hB] at hq hq2
            have HO : Aside0 (ok1 p.f1 t.f1 = true) := ⟨by unfold ok1; rw [decide_eq_false (fun h => h hB), Bool.and_false]; rfl⟩; clear hB
            go_wp2
            repeat (go_quiet (fail); try go_wp2)
            go_loopg [9, 31] 1 (fun gg _ s31 wv => Aside0 (Below w.heap.size w wv) ∧ Aside0 (wv.heap[b]? = some (.cells #[.string p.f0.f0, .int .i64 p.f0.f1.f0, .string p.f0.f1.f1, .string p.f0.f1.f2, .string p.f1.f0, .int .i64 p.f1.f1.f0, .string p.f1.f1.f1, .string p.f1.f1.f2, .string p.f2.f0, .int .i64 p.f2.f1.f0, .string p.f2.f1.f1, .string p.f2.f1.f2] 122 (0, 0))) ∧ Aside0 (wv.heap[d]? = some (.cells #[.int .i64 t.f0.f0, .string t.f0.f1, .string t.f0.f2, .int .i64 t.f1.f0, .string t.f1.f1, .string t.f1.f2, .int .i64 t.f2.f0, .string t.f2.f1, .string t.f2.f2] 91 (0, 0))) ∧ Aside0 (wv.heap[wr.heap.size]? = some (.cells #[.string p.f1.f0, .int .i64 p.f1.f1.f0, .string p.f1.f1.f1, .string p.f1.f1.f2] 49 (0, 0))) ∧ ((s31 = .int .i64 0 ∧ gg = 1 ∧ Aside0 (True)) ∨ (s31 = .int .i64 1 ∧ gg = 0 ∧ Aside0 (ok2 p.f0 p.f1 t.f0 t.f1 = true))))
            case atStart => exact ⟨⟨by first | exact pw_below_drewN (below_alloc HB.out _) _ | exact below_alloc HB.out _⟩, ⟨blk_alloc HSLw.out _⟩, ⟨blk_alloc HTMw.out _⟩, ⟨blk_new wr _⟩, .inl ⟨rfl, rfl, ⟨trivial⟩⟩⟩
            case round =>
              obtain ⟨HB3, HS3, HT3, HX3, hrel⟩ := hrel
              rcases hrel with ⟨rfl, rfl, HC⟩ | ⟨rfl, rfl, HC⟩
              ·
                have z0 := (blk_cell HX3.out 0).trans (show _ = some (.string p.f1.f0) from rfl)
                have z1 := (blk_cell HX3.out 1).trans (show _ = some (.int .i64 p.f1.f1.f0) from rfl)
                have z2 := (blk_cell HX3.out 2).trans (show _ = some (.string p.f1.f1.f1) from rfl)
                have z3 := (blk_cell HX3.out 3).trans (show _ = some (.string p.f1.f1.f2) from rfl)
                go_wp2
                repeat (go_quiet (fail); try go_wp2)
                go_roundg 0
                case measure => omega
                case rel => exact ⟨⟨pw_below_drewN HB3.out _⟩, HS3, HT3, HX3, .inr (⟨by go_num, rfl, ⟨(by unfold ok2; rw [HA.out]; rfl)⟩⟩)⟩
              ·
                go_wp2
                go_roundg 1
                case measure => omega
                case rel => exact ⟨HB3, HS3.out, HT3.out, .inr (.inr (.inl ⟨by go_num, rfl, ⟨HN.out, (by rw [HO.out, HC.out]; rfl)⟩⟩))⟩
          · rw [decide_eq_false hB] at hq hq2
            have HBB := Aside0.mk hB; clear hB
            go_wp2
            repeat (go_quiet (fail); try go_wp2)
            go_ret
            exact ⟨by have hx_ := (show ok1 p.f1 t.f1 = false from by unfold ok1; rw [HA.out, decide_eq_true HBB.out]; rfl); rw [show fitsP t p = false from by unfold fitsP; simp [hx_]]; rfl, by first | exact HB3.out | exact pw_below_drewN HB3.out _ | exact pw_below_drewN (below_alloc HB.out _) _ | exact below_alloc HB.out _⟩
      ·
        cases hA : (p.f2.f0.toList == [])
        · -- a variable
          have hA2 : ¬ p.f2.f0.toList = [] := fun h => by rw [h] at hA; cases hA
          have HA := Aside0.mk hA; have HO : Aside0 (ok1 p.f2 t.f2 = true) := ⟨by unfold ok1; rw [hA]; rfl⟩
          go_wp2
          repeat (go_quiet (fail); try go_wp2)
          go_loopg [9, 31] 2 (fun gg _ s31 wv => Aside0 (Below w.heap.size w wv) ∧ Aside0 (wv.heap[b]? = some (.cells #[.string p.f0.f0, .int .i64 p.f0.f1.f0, .string p.f0.f1.f1, .string p.f0.f1.f2, .string p.f1.f0, .int .i64 p.f1.f1.f0, .string p.f1.f1.f1, .string p.f1.f1.f2, .string p.f2.f0, .int .i64 p.f2.f1.f0, .string p.f2.f1.f1, .string p.f2.f1.f2] 122 (0, 0))) ∧ Aside0 (wv.heap[d]? = some (.cells #[.int .i64 t.f0.f0, .string t.f0.f1, .string t.f0.f2, .int .i64 t.f1.f0, .string t.f1.f1, .string t.f1.f2, .int .i64 t.f2.f0, .string t.f2.f1, .string t.f2.f2] 91 (0, 0))) ∧ Aside0 (wv.heap[wr.heap.size]? = some (.cells #[.string p.f2.f0, .int .i64 p.f2.f1.f0, .string p.f2.f1.f1, .string p.f2.f1.f2] 49 (0, 0))) ∧ ((s31 = .int .i64 0 ∧ gg = 2 ∧ Aside0 (True)) ∨ (s31 = .int .i64 1 ∧ gg = 1 ∧ Aside0 (ok2 p.f0 p.f2 t.f0 t.f2 = true)) ∨ (s31 = .int .i64 2 ∧ gg = 0 ∧ Aside0 (ok2 p.f0 p.f2 t.f0 t.f2 = true ∧ ok2 p.f1 p.f2 t.f1 t.f2 = true))))
          case atStart => exact ⟨⟨by first | exact pw_below_drewN (below_alloc HB.out _) _ | exact below_alloc HB.out _⟩, ⟨blk_alloc HSLw.out _⟩, ⟨blk_alloc HTMw.out _⟩, ⟨blk_new wr _⟩, .inl ⟨rfl, rfl, ⟨trivial⟩⟩⟩
          case round =>
            obtain ⟨HB3, HS3, HT3, HX3, hrel⟩ := hrel
            rcases hrel with ⟨rfl, rfl, HC⟩ | ⟨rfl, rfl, HC⟩ | ⟨rfl, rfl, HC⟩
            ·
              have z0 := (blk_cell HX3.out 0).trans (show _ = some (.string p.f2.f0) from rfl)
              have z1 := (blk_cell HX3.out 1).trans (show _ = some (.int .i64 p.f2.f1.f0) from rfl)
              have z2 := (blk_cell HX3.out 2).trans (show _ = some (.string p.f2.f1.f1) from rfl)
              have z3 := (blk_cell HX3.out 3).trans (show _ = some (.string p.f2.f1.f2) from rfl)
              have s0 := (blk_cell HS3.out 0).trans (show _ = some (.string p.f0.f0) from rfl)
              have s1 := (blk_cell HS3.out 1).trans (show _ = some (.int .i64 p.f0.f1.f0) from rfl)
              have s2 := (blk_cell HS3.out 2).trans (show _ = some (.string p.f0.f1.f1) from rfl)
              have s3 := (blk_cell HS3.out 3).trans (show _ = some (.string p.f0.f1.f2) from rfl)
              have s4 := (blk_cell HS3.out 4).trans (show _ = some (.string p.f1.f0) from rfl)
              have s5 := (blk_cell HS3.out 5).trans (show _ = some (.int .i64 p.f1.f1.f0) from rfl)
              have s6 := (blk_cell HS3.out 6).trans (show _ = some (.string p.f1.f1.f1) from rfl)
              have s7 := (blk_cell HS3.out 7).trans (show _ = some (.string p.f1.f1.f2) from rfl)
              have s8 := (blk_cell HS3.out 8).trans (show _ = some (.string p.f2.f0) from rfl)
              have s9 := (blk_cell HS3.out 9).trans (show _ = some (.int .i64 p.f2.f1.f0) from rfl)
              have s10 := (blk_cell HS3.out 10).trans (show _ = some (.string p.f2.f1.f1) from rfl)
              have s11 := (blk_cell HS3.out 11).trans (show _ = some (.string p.f2.f1.f2) from rfl)
              have x0 := (blk_cell HT3.out 0).trans (show _ = some (.int .i64 t.f0.f0) from rfl)
              have x1 := (blk_cell HT3.out 1).trans (show _ = some (.string t.f0.f1) from rfl)
              have x2 := (blk_cell HT3.out 2).trans (show _ = some (.string t.f0.f2) from rfl)
              have x3 := (blk_cell HT3.out 3).trans (show _ = some (.int .i64 t.f1.f0) from rfl)
              have x4 := (blk_cell HT3.out 4).trans (show _ = some (.string t.f1.f1) from rfl)
              have x5 := (blk_cell HT3.out 5).trans (show _ = some (.string t.f1.f2) from rfl)
              have x6 := (blk_cell HT3.out 6).trans (show _ = some (.int .i64 t.f2.f0) from rfl)
              have x7 := (blk_cell HT3.out 7).trans (show _ = some (.string t.f2.f1) from rfl)
              have x8 := (blk_cell HT3.out 8).trans (show _ = some (.string t.f2.f2) from rfl)
              cases hC : (p.f0.f0.toList == p.f2.f0.toList)
              · have HCC := Aside0.mk hC
                go_wp2
                repeat (go_quiet (fail); try go_wp2)
                go_roundg 1
                case measure => omega
                case rel => exact ⟨⟨pw_below_drewN HB3.out _⟩, HS3, HT3, HX3, .inr (.inl ⟨by go_num, rfl, ⟨(by unfold ok2; rw [HCC.out, Bool.and_false, Bool.false_and]; rfl)⟩⟩)⟩
              · have HCC := Aside0.mk hC
                have hq := eqT_decide t.f0 t.f2; have hq2 := neT_decide t.f0 t.f2
                by_cases hD : t.f0 = t.f2
                · rw [decide_eq_true hD] at hq hq2; have HD := Aside0.mk hD; clear hD
                  go_wp2
                  repeat (go_quiet (fail); try go_wp2)
                  go_roundg 1
                  case measure => omega
                  case rel => exact ⟨⟨pw_below_drewN HB3.out _⟩, HS3, HT3, HX3, .inr (.inl ⟨by go_num, rfl, ⟨(by unfold ok2; rw [decide_eq_false (fun h => h HD.out), Bool.and_false]; rfl)⟩⟩)⟩
                · rw [decide_eq_false hD] at hq hq2; have HD := Aside0.mk hD; clear hD
                  go_wp2
                  repeat (go_quiet (fail); try go_wp2)
                  go_ret
                  exact ⟨by have hx_ := (show ok2 p.f0 p.f2 t.f0 t.f2 = false from by unfold ok2; rw [HA.out, HCC.out, decide_eq_true HD.out]; rfl); rw [show fitsP t p = false from by unfold fitsP; simp [hx_]]; rfl, by first | exact HB3.out | exact pw_below_drewN HB3.out _ | exact pw_below_drewN (below_alloc HB.out _) _ | exact below_alloc HB.out _⟩
            ·
              have z0 := (blk_cell HX3.out 0).trans (show _ = some (.string p.f2.f0) from rfl)
              have z1 := (blk_cell HX3.out 1).trans (show _ = some (.int .i64 p.f2.f1.f0) from rfl)
              have z2 := (blk_cell HX3.out 2).trans (show _ = some (.string p.f2.f1.f1) from rfl)
              have z3 := (blk_cell HX3.out 3).trans (show _ = some (.string p.f2.f1.f2) from rfl)
              have s0 := (blk_cell HS3.out 0).trans (show _ = some (.string p.f0.f0) from rfl)
              have s1 := (blk_cell HS3.out 1).trans (show _ = some (.int .i64 p.f0.f1.f0) from rfl)
              have s2 := (blk_cell HS3.out 2).trans (show _ = some (.string p.f0.f1.f1) from rfl)
              have s3 := (blk_cell HS3.out 3).trans (show _ = some (.string p.f0.f1.f2) from rfl)
              have s4 := (blk_cell HS3.out 4).trans (show _ = some (.string p.f1.f0) from rfl)
              have s5 := (blk_cell HS3.out 5).trans (show _ = some (.int .i64 p.f1.f1.f0) from rfl)
              have s6 := (blk_cell HS3.out 6).trans (show _ = some (.string p.f1.f1.f1) from rfl)
              have s7 := (blk_cell HS3.out 7).trans (show _ = some (.string p.f1.f1.f2) from rfl)
              have s8 := (blk_cell HS3.out 8).trans (show _ = some (.string p.f2.f0) from rfl)
              have s9 := (blk_cell HS3.out 9).trans (show _ = some (.int .i64 p.f2.f1.f0) from rfl)
              have s10 := (blk_cell HS3.out 10).trans (show _ = some (.string p.f2.f1.f1) from rfl)
              have s11 := (blk_cell HS3.out 11).trans (show _ = some (.string p.f2.f1.f2) from rfl)
              have x0 := (blk_cell HT3.out 0).trans (show _ = some (.int .i64 t.f0.f0) from rfl)
              have x1 := (blk_cell HT3.out 1).trans (show _ = some (.string t.f0.f1) from rfl)
              have x2 := (blk_cell HT3.out 2).trans (show _ = some (.string t.f0.f2) from rfl)
              have x3 := (blk_cell HT3.out 3).trans (show _ = some (.int .i64 t.f1.f0) from rfl)
              have x4 := (blk_cell HT3.out 4).trans (show _ = some (.string t.f1.f1) from rfl)
              have x5 := (blk_cell HT3.out 5).trans (show _ = some (.string t.f1.f2) from rfl)
              have x6 := (blk_cell HT3.out 6).trans (show _ = some (.int .i64 t.f2.f0) from rfl)
              have x7 := (blk_cell HT3.out 7).trans (show _ = some (.string t.f2.f1) from rfl)
              have x8 := (blk_cell HT3.out 8).trans (show _ = some (.string t.f2.f2) from rfl)
              cases hC : (p.f1.f0.toList == p.f2.f0.toList)
              · have HCC := Aside0.mk hC
                go_wp2
                repeat (go_quiet (fail); try go_wp2)
                go_roundg 0
                case measure => omega
                case rel => exact ⟨⟨pw_below_drewN HB3.out _⟩, HS3, HT3, HX3, .inr (.inr (⟨by go_num, rfl, ⟨⟨HC.out, (by unfold ok2; rw [HCC.out, Bool.and_false, Bool.false_and]; rfl)⟩⟩⟩))⟩
              · have HCC := Aside0.mk hC
                have hq := eqT_decide t.f1 t.f2; have hq2 := neT_decide t.f1 t.f2
                by_cases hD : t.f1 = t.f2
                · rw [decide_eq_true hD] at hq hq2; have HD := Aside0.mk hD; clear hD
                  go_wp2
                  repeat (go_quiet (fail); try go_wp2)
                  go_roundg 0
                  case measure => omega
                  case rel => exact ⟨⟨pw_below_drewN HB3.out _⟩, HS3, HT3, HX3, .inr (.inr (⟨by go_num, rfl, ⟨⟨HC.out, (by unfold ok2; rw [decide_eq_false (fun h => h HD.out), Bool.and_false]; rfl)⟩⟩⟩))⟩
                · rw [decide_eq_false hD] at hq hq2; have HD := Aside0.mk hD; clear hD
                  go_wp2
                  repeat (go_quiet (fail); try go_wp2)
                  go_ret
                  exact ⟨by have hx_ := (show ok2 p.f1 p.f2 t.f1 t.f2 = false from by unfold ok2; rw [HA.out, HCC.out, decide_eq_true HD.out]; rfl); rw [show fitsP t p = false from by unfold fitsP; simp [hx_]]; rfl, by first | exact HB3.out | exact pw_below_drewN HB3.out _ | exact pw_below_drewN (below_alloc HB.out _) _ | exact below_alloc HB.out _⟩
            ·
              go_wp2
              go_roundg 0
              case measure => omega
              case rel => exact ⟨HB3, HS3.out, HT3.out, .inr (.inr (.inr ⟨by go_num, rfl, ⟨by unfold fitsP; rw [HN.out.1, HN.out.2, HO.out, HC.out.1, HC.out.2]; rfl⟩⟩))⟩
        · -- no variable
          have hA2 : p.f2.f0.toList = [] := beq_iff_eq.1 hA
          have hq := eqT_decide p.f2.f1 t.f2; have hq2 := neT_decide p.f2.f1 t.f2
          have HA := Aside0.mk hA
          by_cases hB : p.f2.f1 = t.f2
          · rw [decide_eq_true hB] at hq hq2
            have HO : Aside0 (ok1 p.f2 t.f2 = true) := ⟨by unfold ok1; rw [decide_eq_false (fun h => h hB), Bool.and_false]; rfl⟩; clear hB
            go_wp2
            repeat (go_quiet (fail); try go_wp2)
            go_loopg [9, 31] 2 (fun gg _ s31 wv => Aside0 (Below w.heap.size w wv) ∧ Aside0 (wv.heap[b]? = some (.cells #[.string p.f0.f0, .int .i64 p.f0.f1.f0, .string p.f0.f1.f1, .string p.f0.f1.f2, .string p.f1.f0, .int .i64 p.f1.f1.f0, .string p.f1.f1.f1, .string p.f1.f1.f2, .string p.f2.f0, .int .i64 p.f2.f1.f0, .string p.f2.f1.f1, .string p.f2.f1.f2] 122 (0, 0))) ∧ Aside0 (wv.heap[d]? = some (.cells #[.int .i64 t.f0.f0, .string t.f0.f1, .string t.f0.f2, .int .i64 t.f1.f0, .string t.f1.f1, .string t.f1.f2, .int .i64 t.f2.f0, .string t.f2.f1, .string t.f2.f2] 91 (0, 0))) ∧ Aside0 (wv.heap[wr.heap.size]? = some (.cells #[.string p.f2.f0, .int .i64 p.f2.f1.f0, .string p.f2.f1.f1, .string p.f2.f1.f2] 49 (0, 0))) ∧ ((s31 = .int .i64 0 ∧ gg = 2 ∧ Aside0 (True)) ∨ (s31 = .int .i64 1 ∧ gg = 1 ∧ Aside0 (ok2 p.f0 p.f2 t.f0 t.f2 = true)) ∨ (s31 = .int .i64 2 ∧ gg = 0 ∧ Aside0 (ok2 p.f0 p.f2 t.f0 t.f2 = true ∧ ok2 p.f1 p.f2 t.f1 t.f2 = true))))
            case atStart => exact ⟨⟨by first | exact pw_below_drewN (below_alloc HB.out _) _ | exact below_alloc HB.out _⟩, ⟨blk_alloc HSLw.out _⟩, ⟨blk_alloc HTMw.out _⟩, ⟨blk_new wr _⟩, .inl ⟨rfl, rfl, ⟨trivial⟩⟩⟩
            case round =>
              obtain ⟨HB3, HS3, HT3, HX3, hrel⟩ := hrel
              rcases hrel with ⟨rfl, rfl, HC⟩ | ⟨rfl, rfl, HC⟩ | ⟨rfl, rfl, HC⟩
              ·
                have z0 := (blk_cell HX3.out 0).trans (show _ = some (.string p.f2.f0) from rfl)
                have z1 := (blk_cell HX3.out 1).trans (show _ = some (.int .i64 p.f2.f1.f0) from rfl)
                have z2 := (blk_cell HX3.out 2).trans (show _ = some (.string p.f2.f1.f1) from rfl)
                have z3 := (blk_cell HX3.out 3).trans (show _ = some (.string p.f2.f1.f2) from rfl)
                go_wp2
                repeat (go_quiet (fail); try go_wp2)
                go_roundg 1
                case measure => omega
                case rel => exact ⟨⟨pw_below_drewN HB3.out _⟩, HS3, HT3, HX3, .inr (.inl ⟨by go_num, rfl, ⟨(by unfold ok2; rw [HA.out]; rfl)⟩⟩)⟩
              ·
                have z0 := (blk_cell HX3.out 0).trans (show _ = some (.string p.f2.f0) from rfl)
                have z1 := (blk_cell HX3.out 1).trans (show _ = some (.int .i64 p.f2.f1.f0) from rfl)
                have z2 := (blk_cell HX3.out 2).trans (show _ = some (.string p.f2.f1.f1) from rfl)
                have z3 := (blk_cell HX3.out 3).trans (show _ = some (.string p.f2.f1.f2) from rfl)
                go_wp2
                repeat (go_quiet (fail); try go_wp2)
                go_roundg 0
                case measure => omega
                case rel => exact ⟨⟨pw_below_drewN HB3.out _⟩, HS3, HT3, HX3, .inr (.inr (⟨by go_num, rfl, ⟨⟨HC.out, (by unfold ok2; rw [HA.out]; rfl)⟩⟩⟩))⟩
              ·
                go_wp2
                go_roundg 0
                case measure => omega
                case rel => exact ⟨HB3, HS3.out, HT3.out, .inr (.inr (.inr ⟨by go_num, rfl, ⟨by unfold fitsP; rw [HN.out.1, HN.out.2, HO.out, HC.out.1, HC.out.2]; rfl⟩⟩))⟩
          · rw [decide_eq_false hB] at hq hq2
            have HBB := Aside0.mk hB; clear hB
            go_wp2
            repeat (go_quiet (fail); try go_wp2)
            go_ret
            exact ⟨by have hx_ := (show ok1 p.f2 t.f2 = false from by unfold ok1; rw [HA.out, decide_eq_true HBB.out]; rfl); rw [show fitsP t p = false from by unfold fitsP; simp [hx_]]; rfl, by first | exact HB3.out | exact pw_below_drewN HB3.out _ | exact pw_below_drewN (below_alloc HB.out _) _ | exact below_alloc HB.out _⟩
      ·
        go_wp2
        go_ret
        exact ⟨by rw [HN.out]; rfl, HB.out⟩
end Go.Proofs.Ytdjamphmndbmjaa.M

/- set.In: of a set that is sorted, whether a triple is in it. By hand. -/
namespace Go.Proofs.Ytdjamphmndbmjaa.M
open Go.RowKit Go.Proofs.YtdjamphmndbmjaaW.PrintWords Go.Proofs.YtdjamphmndbmjaaW.PrintLast Go.Proofs.YtdjamphmndbmjaaW.PrintMore
set_option linter.unusedVariables false
set_option linter.unusedSimpArgs false

/-- Is a triple in a list? -/
def inR (l : List S41) (t : S41) : Bool := l.any fun x => decide (x = t)
def set_In.f (l0 : List S41) (a1_0 : Int) (a1_1 : ByteArray) (a1_2 : ByteArray) (a1_3 : Int) (a1_4 : ByteArray) (a1_5 : ByteArray) (a1_6 : Int) (a1_7 : ByteArray) (a1_8 : ByteArray) : Option Bool :=
  if sortedR l0 = none then some (inR l0 ⟨⟨a1_0, a1_1, a1_2⟩, ⟨a1_3, a1_4, a1_5⟩, ⟨a1_6, a1_7, a1_8⟩⟩) else none

theorem bs_in {l : List S41} {t : S41} (i : Nat) (h1 : ∀ k (h : k < l.length), k < i → cmpR l[k] t < 0) (h2 : ∀ k (h : k < l.length), i ≤ k → 0 ≤ cmpR l[k] t) (hs : l.Pairwise (fun a b => cmpR a b < 0)) : decide (∃ h : i < l.length, cmpR l[i] t = 0) = inR l t := by
  unfold inR
  rw [Bool.eq_iff_iff, decide_eq_true_iff, List.any_eq_true]
  constructor
  · rintro ⟨h, hz⟩
    exact ⟨l[i], List.getElem_mem h, decide_eq_true ((lawR.zero _ _).1 hz)⟩
  · rintro ⟨x, hx, he⟩
    obtain rfl := of_decide_eq_true he
    obtain ⟨k, hk, hkx⟩ := List.getElem_of_mem hx
    have hz : cmpR l[k] x = 0 := (lawR.zero _ _).2 hkx
    have hik : i ≤ k := by
      rcases Nat.lt_or_ge k i with h | h
      · have := h1 k hk h; omega
      · exact h
    rcases Nat.lt_or_ge i k with h | h
    · have h3 := h2 i (by omega) (Nat.le_refl _)
      have h4 := List.pairwise_iff_getElem.1 hs i k (by omega) hk h
      rw [hkx] at h4
      omega
    · obtain rfl : i = k := by omega
      exact ⟨hk, hz⟩

theorem inR_grown (A0 : Option Addr) (c0 : Nat) (l0 : List S41) (x : S41) (w : World) (hr0 : Kd.C k41 w A0 l0.length l0) (hs : sortedR l0 = none) :
    Calls Try.prog 48 #[.slice A0 l0.length c0, .agg #[.int .i64 x.f0.f0, .string x.f0.f1, .string x.f0.f2, .int .i64 x.f1.f0, .string x.f1.f1, .string x.f1.f2, .int .i64 x.f2.f0, .string x.f2.f1, .string x.f2.f2]] w fun e w' => e = .returned (.bool (inR l0 x)) ∧ ∃ q os, w' = Sort.grow (w.drewN q) os := by
  obtain ⟨hn, _, hp⟩ := sortedR_none hs
  have hbs := fun W (hC : Kd.C k41 W A0 l0.length l0) => bs_calls A0 c0 l0 x W hC hn hp
  have HP := Aside0.mk hp
  have HR := Aside0.mk hr0
  have HBS := Aside0.mk hbs
  obtain ⟨r, hr⟩ : ∃ r, inR l0 x = r := ⟨_, rfl⟩
  rw [hr]
  have HRR := Aside0.mk hr
  clear hbs hr0 hp hn hs hr
  go_enter Try.func48, Try.ntmps48
  go_wp2_with (go_at_call 73; refine (HBS.out _ (Kd.C_alloc HR.out _)).mono ?_; rintro e w' ⟨⟨i, _, h1, h2, rfl⟩, hb⟩; have H1 := Aside0.mk h1; have H2 := Aside0.mk h2; have HB1 := Aside0.mk (alloc_grown hb); clear h1 h2 hb)
  go_ret
  refine ⟨?_, HB1.out⟩
  rw [← HRR.out, ← bs_in i H1.out H2.out HP.out]
  rfl
theorem inR_calls (A0 : Option Addr) (c0 : Nat) (l0 : List S41) (x : S41) (w : World) (hr0 : Kd.C k41 w A0 l0.length l0) (hs : sortedR l0 = none) :
    Calls Try.prog 48 #[.slice A0 l0.length c0, .agg #[.int .i64 x.f0.f0, .string x.f0.f1, .string x.f0.f2, .int .i64 x.f1.f0, .string x.f1.f1, .string x.f1.f2, .int .i64 x.f2.f0, .string x.f2.f1, .string x.f2.f2]] w fun e w' => e = .returned (.bool (inR l0 x)) ∧ Below w.heap.size w w' :=
  (inR_grown A0 c0 l0 x w hr0 hs).mono fun _ _ ⟨he, hb⟩ => ⟨he, grown_below hb⟩
theorem set_In.calls (A0 : Option Addr) (c0 : Nat) (l0 : List S41) (a1_0 : Int) (a1_1 : ByteArray) (a1_2 : ByteArray) (a1_3 : Int) (a1_4 : ByteArray) (a1_5 : ByteArray) (a1_6 : Int) (a1_7 : ByteArray) (a1_8 : ByteArray) (r : Bool) (w : World) (hr0 : Kd.C k41 w A0 l0.length l0) (hc0 : l0.length ≤ c0) (h : set_In.f l0 a1_0 a1_1 a1_2 a1_3 a1_4 a1_5 a1_6 a1_7 a1_8 = some r) :
    Calls Try.prog 48 #[.slice A0 l0.length c0, .agg #[.int .i64 a1_0, .string a1_1, .string a1_2, .int .i64 a1_3, .string a1_4, .string a1_5, .int .i64 a1_6, .string a1_7, .string a1_8]] w fun e w' => e = .returned (.bool r) ∧ Below w.heap.size w w' := by
  unfold set_In.f at h
  split at h
  · rename_i hs
    obtain rfl := Option.some.inj h
    exact inR_calls A0 c0 l0 ⟨⟨a1_0, a1_1, a1_2⟩, ⟨a1_3, a1_4, a1_5⟩, ⟨a1_6, a1_7, a1_8⟩⟩ w hr0 hs
  · cases h
end Go.Proofs.Ytdjamphmndbmjaa.M

/- set.Part: what of a set is, or is not, in another one. By hand. -/
namespace Go.Proofs.Ytdjamphmndbmjaa.M
open Go.RowKit Go.Proofs.YtdjamphmndbmjaaW.PrintWords Go.Proofs.YtdjamphmndbmjaaW.PrintLast Go.Proofs.YtdjamphmndbmjaaW.PrintMore
set_option linter.unusedVariables false
set_option linter.unusedSimpArgs false

open Go.Sort
theorem cell?_alloc_old {W : World} {a : Addr} {v : Value} (h : W.cell? a = some v) (o : Obj) : (W.alloc o).cell? a = some v := Lib.cell?_alloc_some o h
theorem part1_calls (x : S41) (W : World) (pb pi : Nat) (A : Option Addr) (c : Nat) (b : List S41) (is : Bool) (hb : W.cell? ⟨pb, 0, none⟩ = some (.slice A b.length c)) (hi : W.cell? ⟨pi, 0, none⟩ = some (.bool is)) (hC : Kd.C k41 W A b.length b) (hs : sortedR b = none) :
    Calls Try.prog 74 #[aggR x, .pointer (some ⟨pb, 0, none⟩), .pointer (some ⟨pi, 0, none⟩)] W fun e w' => e = .returned (.bool (inR b x != is)) ∧ Below W.heap.size W w' := by
  have mixed : Try.prog.follows .mixedOrders = true := by kernel_rfl
  have hcall := fun n os => inR_grown A c b x (grow ((W.alloc (.cells (celR x) 41)).drewN n) os) (Kd.C_below (Kd.C_alloc hC _) (grow_below _ n os)) hs
  have HB0 := Aside0.mk (Below.refl W.heap.size W)
  have hbg := fun n os => grown_cell ((cell?_alloc_old hb (.cells (celR x) 41))) n os
  have hig := fun n os => grown_cell ((cell?_alloc_old hi (.cells (celR x) 41))) n os
  have hbx := fun (c : Nat) (v : Value) (h : (celR x)[c]? = some v) (n : Nat) (os : Array Obj) => grown_cell ((blk_cell (blk_new W (.cells (celR x) 41)) c).trans h) n os
  have b0 := hbx 0 (.int .i64 x.f0.f0) rfl; have b1 := hbx 1 (.string x.f0.f1) rfl; have b2 := hbx 2 (.string x.f0.f2) rfl; have b3 := hbx 3 (.int .i64 x.f1.f0) rfl; have b4 := hbx 4 (.string x.f1.f1) rfl; have b5 := hbx 5 (.string x.f1.f2) rfl; have b6 := hbx 6 (.int .i64 x.f2.f0) rfl; have b7 := hbx 7 (.string x.f2.f1) rfl; have b8 := hbx 8 (.string x.f2.f2) rfl
  unfold celR at hcall hbg hig b0 b1 b2 b3 b4 b5 b6 b7 b8
  clear hbx
  generalize inR b x = r at hcall ⊢
  have HC := Aside0.mk hcall
  clear hcall hs hC hb hi
  unfold aggR
  cases r <;> cases is <;>
  · go_enter Try.func74, Try.ntmps74
    go_wp2
    go_quiet_grown ((go_at_call 48; exact Calls.grown_of (HC.out _ _)))
    go_wp2
    go_ret
    exact ⟨rfl, below_step (below_alloc HB0.out _) (grow_below _ _ _)⟩

def set_Part.f (l0 : List S41) (l1 : List S41) (a2 : Bool) : Option (List S41) :=
  if l0.length < 1172812402961 ∧ sortedR l1 = none then some (l0.filter fun t => inR l1 t == a2) else none
set_option maxHeartbeats 4000000 in
set_option maxRecDepth 100000 in
theorem set_Part.calls (A0 : Option Addr) (c0 : Nat) (l0 : List S41) (A1 : Option Addr) (c1 : Nat) (l1 : List S41) (a2 : Bool) (r : List S41) (w : World) (hr0 : Kd.C k41 w A0 l0.length l0) (hc0 : l0.length ≤ c0) (hr1 : Kd.C k41 w A1 l1.length l1) (hc1 : l1.length ≤ c1) (h : set_Part.f l0 l1 a2 = some r) :
    Calls Try.prog 49 #[.slice A0 l0.length c0, .slice A1 l1.length c1, .bool a2] w fun e w' => ∃ v0_ : Value, e = .returned (v0_) ∧ Kd.R k41 41 w' w.heap.size (fun _ => True) v0_ r ∧ Below w.heap.size w w' := by
  unfold set_Part.f at h
  split at h
  · rename_i hcond
    obtain ⟨hl, hs⟩ := hcond
    obtain rfl := Option.some.inj h
    have e74 : ∀ args w, (callFunc 74 args).run Try.prog w = .ok (.enter 74 args) w := enters_of Try.func74 (by kernel_rfl) rfl
    have hcl : clone_T.f l0 = some l0 := by unfold clone_T.f; rw [if_pos hl]
    have hclone := fun W (hC : Kd.C k41 W A0 l0.length l0) => clone_T.calls A0 c0 l0 l0 W hC hc0 hcl
    have hdel := fun (W1 W : World) (pb pi : Nat) (h1 : W1.cell? ⟨pb, 0, none⟩ = some (.slice A1 l1.length c1)) (h2 : W1.cell? ⟨pi, 0, none⟩ = some (.bool a2)) (hC : Kd.C k41 W1 A1 l1.length l1) (A : Option Addr) (cap : Nat) (hR : Kd.R k41 41 W W1.heap.size (fun _ => True) (.slice A l0.length cap) l0) (hB : Below W1.heap.size W1 W) =>
      delR_calls 74 #[.pointer (some ⟨pb, 0, none⟩), .pointer (some ⟨pi, 0, none⟩)] (fun x => inR l1 x != a2) W1.heap.size W1 A cap l0 W e74 hR hB hB.size
        (fun x W2 _ hB2 => part1_calls x W2 pb pi A1 c1 l1 a2 ((hB2.cell (World.block_lt_of_cell? W1 _ h1)).trans h1) ((hB2.cell (World.block_lt_of_cell? W1 _ h2)).trans h2) (Kd.C_below hC hB2) hs)
    have hfil : (l0.filter fun t => inR l1 t == a2) = l0.filter fun x => !(inR l1 x != a2) := by
      congr 1
      funext x
      cases inR l1 x <;> cases a2 <;> rfl
    rw [hfil]
    generalize (l0.filter fun x => !(inR l1 x != a2)) = res at hdel ⊢
    have HDEL := Aside0.mk hdel
    have HCLONE := Aside0.mk hclone
    have HR0 := Aside0.mk hr0
    have HR1 := Aside0.mk hr1
    have HB := Aside0.mk (Below.refl w.heap.size w)
    clear hdel hclone hr0 hr1 hfil h hcl hs hl
    go_enter Try.func49, Try.ntmps49
    have HS1 : Aside0 (((w.alloc (.cells #[.slice A1 l1.length c1] 26)).alloc (.cells #[.bool a2] 4)).cell? ⟨w.heap.size, 0, none⟩ = some (.slice A1 l1.length c1)) := ⟨cell?_alloc_old ((blk_cell (blk_new w _) 0).trans rfl) _⟩
    have HS2 : Aside0 (((w.alloc (.cells #[.slice A1 l1.length c1] 26)).alloc (.cells #[.bool a2] 4)).cell? ⟨w.heap.size + 1, 0, none⟩ = some (.bool a2)) := ⟨by rw [← alloc_size1 w (.cells #[.slice A1 l1.length c1] 26)]; exact (blk_cell (blk_new _ _) 0).trans rfl⟩
    go_wp2_with (first | (go_at_call 62; refine (HCLONE.out _ (Kd.C_alloc (Kd.C_alloc HR0.out _) _)).mono ?_; rintro e w' ⟨v1, rfl, hRc, hbb⟩; obtain ⟨Ac, cc, ec⟩ := Kd.R_slice hRc; subst ec; have HRC := Aside0.mk hRc; have HB1 := Aside0.mk hbb; clear hRc hbb) | (go_at_call 70; refine (HDEL.out _ _ _ _ HS1.out HS2.out (Kd.C_alloc (Kd.C_alloc HR1.out _) _) Ac cc HRC.out HB1.out).mono ?_; rintro e w' ⟨⟨v2, rfl, hRd⟩, hbb, _⟩; have HRD := Aside0.mk hRd; have HB2 := Aside0.mk hbb; clear hRd hbb))
    go_ret
    refine ⟨_, rfl, Kd.R_lower HRD.out ?_, below_step (below_alloc (below_alloc HB.out _) _) HB2.out⟩
    rw [alloc_size1, alloc_size1]
    omega
  · cases h
end Go.Proofs.Ytdjamphmndbmjaa.M

/- slices.Grow of nil and slices.Concat of two, at []api.Triple. By hand. -/
namespace Go.Proofs.Ytdjamphmndbmjaa.M
open Go.RowKit Go.Proofs.YtdjamphmndbmjaaW.PrintWords Go.Proofs.YtdjamphmndbmjaaW.PrintLast Go.Proofs.YtdjamphmndbmjaaW.PrintMore
set_option linter.unusedVariables false
set_option linter.unusedSimpArgs false

theorem append_event {P : Program} {ops : Array Oper} {rest : List Oper} {o : Oper} {a : Act} {Q : Exit → Act → World → Prop} {W w1 : World} (hgd : o.guard = none) (s x : Operand) (t t' : TypeId)
    (ho : o.op = .call { callee := .builtin .append, args := #[s, x], argTypes := #[t, t'] }) (vs vx v : Value) (hs : a.eval s = vs) (hx : a.eval x = vx) (hr : (Builtin.append_ #[t, t'] o.type #[vs, vx]).run P W = .ok v w1)
    (h : wpList P ops Q rest (a.put o.dst v) w1) : wpList P ops Q (o :: rest) a W := by
  refine wpList_plain hgd fun K hK => ?_
  unfold Oper.wp execOp
  simp only [ho, resolve, invoke, builtin, Sem.run_bind, Sem.run_pure, Result.andThen_ok, List.map_toArray, List.map_cons, List.map_nil, hs, hx, hr]
  exact hK _ _ h
theorem R_of_empty {w : World} {base g m c : Nat} {xs : List Value} (h : w.ownsRow base 41 9 (.slice (some ⟨g, 0, none⟩) m c) m xs) : Kd.R k41 41 w base (fun _ => True) (.slice (some ⟨g, 0, none⟩) 0 c) ([] : List S41) := by
  rcases h.2 with ⟨hv, _⟩ | ⟨g', cap, cur, hv, hb, hh, hnc, hcm, hcs, htk⟩
  · cases hv
  · injection hv with ha hn hc
    injection ha with ha
    injection ha with hg
    subst hg; subst hc
    exact ⟨fun _ _ => trivial, [], ⟨rfl, .inr ⟨g, c, cur, rfl, hb, hh, Nat.zero_le _, hcm, hcs, by simp⟩⟩, Reps.none _ _⟩
theorem zeros_one : ∀ j : Nat, Value.oneCell' ((Value.agg #[(.int .i64 0), (.string ⟨#[]⟩), (.string ⟨#[]⟩), (.int .i64 0), (.string ⟨#[]⟩), (.string ⟨#[]⟩), (.int .i64 0), (.string ⟨#[]⟩), (.string ⟨#[]⟩)]).cells[j]!) = true := by
  intro j
  rcases j with _ | _ | _ | _ | _ | _ | _ | _ | _ | j <;> rfl
set_option maxHeartbeats 4000000 in
set_option maxRecDepth 100000 in
theorem grow_calls (m : Nat) (w : World) (hm : m * 120 ≤ 140737488355328) :
    Calls Try.prog 100 #[.slice none 0 0, .int .i64 m] w fun e w' => (∃ v, e = .returned v ∧ Kd.R k41 41 w' w.heap.size (fun _ => True) v ([] : List S41)) ∧ Below w.heap.size w w' := by
  have h0 : ¬ (m : Int) < 0 := by omega
  rcases Nat.eq_zero_or_pos m with hz | hp
  · subst hz
    go_enter Try.func100, Try.ntmps100
    go_wp2
    go_ret
    exact ⟨⟨_, rfl, Kd.R_nil _ _ _ _ _⟩, Below.refl _ _⟩
  · have hpz : (m : Int) > 0 := by omega
    obtain ⟨i, hi, hz⟩ := Option.map_eq_some_iff.1 xinfoT
    have hz0 := congrArg Prod.fst hz
    have hz1 := congrArg (fun q => q.2.1) hz
    have hz2 := congrArg (fun q => q.2.2) hz
    obtain ⟨v', w', hrun, hown, hg, hat⟩ := run_append_zeros (P := Try.prog) w w.heap.size 26 3 26 41 i _ 9 120 Try.underlying26 Try.underlying3 hi hz0 hz1 hz2 rfl (by decide) (by decide) (.slice none 0 0) 0 [] ⟨rfl, .inl ⟨rfl, rfl⟩⟩ .i64 m (by
      intro u hu
      simp only [Builtin.zeroCells, Array.toList_map, List.mem_map] at hu
      obtain ⟨q, _, rfl⟩ := hu
      exact zeros_one _) (by omega) (Nat.le_refl _)
    obtain ⟨g, c, rfl⟩ : ∃ g c, v' = .slice (some ⟨g, 0, none⟩) m c := by
      rcases hown.2 with ⟨hv, h0⟩ | ⟨g', cap, cur, hv, _⟩
      · omega
      · exact ⟨g', cap, by rw [hv]; simp⟩
    have HRUN := Aside0.mk hrun
    rw [Nat.zero_add] at hown
    have HO := Aside0.mk (R_of_empty hown)
    have HB := Aside0.mk (Below.grown (Below.refl w.heap.size w) hg (Nat.le_refl _) (by simp [Value.ownBlock]))
    clear hrun hown hg hat hz hz0 hz1 hz2 hi
    go_enter Try.func100, Try.ntmps100
    go_wp2_with ((with_reducible refine gate_builtin (b := .append) (xs := #[.tmp 20, .tmp 21]) rfl ?_); at_builtin; refine append_event rfl (.tmp 20) (.tmp 21) 26 3 rfl (.slice none 0 0) (.int .i64 m) _ rfl rfl HRUN.out ?_)
    go_ret
    exact ⟨⟨_, rfl, HO.out⟩, HB.out⟩

set_option maxHeartbeats 8000000 in
set_option maxRecDepth 100000 in
theorem concat_calls (g0 : Nat) (A0 A1 : Option Addr) (c0 c1 : Nat) (l0 l1 : List S41) (w : World) (h0 : w.cell? ⟨g0, 0, none⟩ = some (.slice A0 l0.length c0)) (h1 : w.cell? ⟨g0, 1, none⟩ = some (.slice A1 l1.length c1))
    (hr0 : Kd.C k41 w A0 l0.length l0) (hr1 : Kd.C k41 w A1 l1.length l1) (hc0 : l0.length ≤ c0) (hc1 : l1.length ≤ c1) (hm : (l0.length + l1.length) * 120 ≤ 140737488355328) :
    Calls Try.prog 87 #[.slice (some ⟨g0, 0, none⟩) 2 2] w fun e w' => (∃ v, e = .returned v ∧ Kd.R k41 41 w' w.heap.size (fun _ => True) v (l0 ++ l1)) ∧ Below w.heap.size w w' := by
  have HR0 := Aside0.mk hr0
  have HR1 := Aside0.mk hr1
  have hgl : g0 < w.heap.size := World.block_lt_of_cell? w _ h0
  have H0 := Aside0.mk h0
  have H1 := Aside0.mk h1
  have HL := Aside0.mk hm
  have hgrow := grow_calls (l0.length + l1.length) w hm
  have hs1 : ((l0.length : Nat) : Int) ≤ 9223372036854775807 := by omega
  have hs2 : ((l0.length + l1.length : Nat) : Int) ≤ 9223372036854775807 := by omega
  have HGROW := Aside0.mk hgrow
  clear hr0 hr1 h0 h1 hm hgrow
  go_enter Try.func87, Try.ntmps87
  go_wp2
  go_loopg [3, 5, 11] 2 (fun gg s3 s5 s11 wr => wr = w ∧ ((s11 = .int .i64 0 ∧ s3 = .int .i64 0 ∧ gg = 2) ∨ (s11 = .int .i64 1 ∧ s3 = .int .i64 (l0.length : Nat) ∧ gg = 1) ∨ (s11 = .int .i64 2 ∧ s3 = .int .i64 (l0.length + l1.length : Nat) ∧ gg = 0)))
  case atStart => exact ⟨rfl, .inl ⟨rfl, rfl, rfl⟩⟩
  case round =>
    obtain ⟨hw, hrel⟩ := hrel
    subst hw
    rcases hrel with ⟨rfl, rfl, rfl⟩ | ⟨rfl, rfl, rfl⟩ | ⟨rfl, rfl, rfl⟩
    · have h0 := H0.out
      go_wp2
      go_roundg 1
      case measure => omega
      case rel => exact ⟨rfl, .inr (.inl ⟨by go_num, by go_num, rfl⟩)⟩
    · have h1 := H1.out
      go_wp2
      go_roundg 0
      case measure => omega
      case rel => exact ⟨rfl, .inr (.inr ⟨by go_num, by go_num, rfl⟩)⟩
    · go_wp2_with (go_at_call 100; refine HGROW.out.mono ?_; rintro e w' ⟨⟨v, rfl, hv⟩, hb⟩; have HV := Aside0.mk hv; have HB := Aside0.mk hb; clear hv hb)
      obtain ⟨w0, hw0⟩ : ∃ w0, w0 = wr := ⟨_, rfl⟩
      subst hw0
      go_loopg [6, 8, 27] 2 (fun gg s6 s8 s27 w1 => Aside0 (Below w0.heap.size w0 w1) ∧ ((s27 = .int .i64 0 ∧ gg = 2 ∧ Aside0 (Kd.R k41 41 w1 w0.heap.size (fun _ => True) s6 ([] : List S41))) ∨ (s27 = .int .i64 1 ∧ gg = 1 ∧ Aside0 (Kd.R k41 41 w1 w0.heap.size (fun _ => True) s6 l0)) ∨ (s27 = .int .i64 2 ∧ gg = 0 ∧ Aside0 (Kd.R k41 41 w1 w0.heap.size (fun _ => True) s6 (l0 ++ l1)))))
      case atStart => exact ⟨HB, .inl ⟨rfl, rfl, HV⟩⟩
      case round =>
        obtain ⟨HB1, hrel⟩ := hrel
        rcases hrel with ⟨rfl, rfl, HS⟩ | ⟨rfl, rfl, HS⟩ | ⟨rfl, rfl, HS⟩
        · have h0 := (HB1.out.cell (World.block_lt_of_cell? _ _ H0.out)).trans H0.out
          obtain ⟨As, cs, es⟩ := Kd.R_slice HS.out
          subst es
          go_wp2_with ((with_reducible refine gate_builtin (b := .append) (xs := #[.tmp 31, .tmp 32]) rfl ?_); at_builtin; refine Kd.R_append_rows k41 (w0 := w0) w0.heap.size rfl (.tmp 31) (.tmp 32) 26 41 _ 120 rfl Try.underlying26 xinfoT rfl (by decide) (by omega) (.slice As 0 cs) ([] : List S41) l0 _ _ _ (fun _ => True) (fun _ => False) rfl rfl ?aO ?aR (fun _ _ h => h) (fun _ h => h.elim) ?aF ?aB ?aS ?aL ?_; (case aR => exact Kd.C_below HR0.out HB1.out); (case aB => exact HB1.out); (case aF => exact (fun _ _ => trivial)); (case aO => exact HS.out); (case aS => exact HB1.out.size); (case aL => have := HL.out; simp; omega); intro v1 w1 ho hb hg hat; have HO1 := Aside0.mk ho; have HB2 := Aside0.mk hb; clear ho hb hg hat)
          go_roundg 1
          case measure => omega
          case rel => exact ⟨HB2, .inr (.inl ⟨by go_num, rfl, by simpa using HO1⟩)⟩
        · have h1 := (HB1.out.cell (World.block_lt_of_cell? _ _ H1.out)).trans H1.out
          obtain ⟨As, cs, es⟩ := Kd.R_slice HS.out
          subst es
          go_wp2_with ((with_reducible refine gate_builtin (b := .append) (xs := #[.tmp 31, .tmp 32]) rfl ?_); at_builtin; refine Kd.R_append_rows k41 (w0 := w0) w0.heap.size rfl (.tmp 31) (.tmp 32) 26 41 _ 120 rfl Try.underlying26 xinfoT rfl (by decide) (by omega) (.slice As l0.length cs) l0 l1 _ _ _ (fun _ => True) (fun _ => False) rfl rfl ?aO ?aR (fun _ _ h => h) (fun _ h => h.elim) ?aF ?aB ?aS ?aL ?_; (case aR => exact Kd.C_below HR1.out HB1.out); (case aB => exact HB1.out); (case aF => exact (fun _ _ => trivial)); (case aO => exact HS.out); (case aS => exact HB1.out.size); (case aL => have := HL.out; simp; omega); intro v1 w1 ho hb hg hat; have HO1 := Aside0.mk ho; have HB2 := Aside0.mk hb; clear ho hb hg hat)
          go_roundg 0
          case measure => omega
          case rel => exact ⟨HB2, .inr (.inr ⟨by go_num, rfl, HO1⟩)⟩
        · obtain ⟨As, cs, es⟩ := Kd.R_slice HS.out
          subst es
          go_wp2
          go_ret
          have hs := HS.out
          rw [List.length_append] at hs
          exact ⟨⟨_, rfl, hs⟩, HB1.out⟩
end Go.Proofs.Ytdjamphmndbmjaa.M

/-
  DERIVED: THE SHELF's CONTRACTS AT THIS DUMP, IN PLAIN WORDS (tools/lay-plain.mjs out of 'YtdjamphmndbmjaaXsortS.lean', which tools/lay-shelf.mjs wrote): THE SAME DECLARATIONS UNDER THE SAME NAMES: 'import', 'namespace', 'open', 'def', 'theorem' AND NOTHING ELSE: no command of the shelf's: FOR A HAND-IN. Each laying: the table of numbers ('.._ren') and one theorem, a field a fact of the dump's own or the kernel's comparison; each contract: ONE APPLICATION.
-/
namespace Go.Proofs
open Go.Shelf
def Try.sortR_ren : Go.Shelf.Ren := ⟨fun | 6 => 88 | 15 => 102 | 14 => 101 | 28 => 117 | 29 => 118 | 20 => 109 | 21 => 110 | 22 => 111 | 23 => 112 | 24 => 113 | 25 => 114 | 26 => 115 | 27 => 116 | 46 => 125 | 47 => 126 | 48 => 127 | 49 => 128 | 50 => 129 | 57 => 140 | n => n, fun | 22 => 26 | 24 => 41 | 25 => 95 | 3 => 3 | 39 => 160 | 0 => 0 | 53 => 138 | 55 => 191 | 4 => 4 | 46 => 184 | 45 => 183 | 50 => 128 | 5 => 5 | 9 => 9 | 66 => 206 | 70 => 210 | 76 => 223 | 77 => 224 | n => n, fun | n => n⟩
theorem Try.sortR : Go.Proofs.SlLaysF0.n6 Try.prog Try.sortR_ren := {
  mixed := by kernel_rfl
  f6 := ⟨Try.f88.name, by decide, Try.func88.trans (congrArg some (by kernel_rfl))⟩
  f14 := ⟨Try.f101.name, by decide, Try.func101.trans (congrArg some (by kernel_rfl))⟩
  f15 := Try.func102.trans (congrArg some (by kernel_rfl))
  f20 := ⟨Try.f109.name, by decide, Try.func109.trans (congrArg some (by kernel_rfl))⟩
  f21 := ⟨Try.f110.name, by decide, Try.func110.trans (congrArg some (by kernel_rfl))⟩
  f22 := ⟨Try.f111.name, by decide, Try.func111.trans (congrArg some (by kernel_rfl))⟩
  f23 := ⟨Try.f112.name, by decide, Try.func112.trans (congrArg some (by kernel_rfl))⟩
  f24 := ⟨Try.f113.name, by decide, Try.func113.trans (congrArg some (by kernel_rfl))⟩
  f25 := ⟨Try.f114.name, by decide, Try.func114.trans (congrArg some (by kernel_rfl))⟩
  f26 := ⟨Try.f115.name, by decide, Try.func115.trans (congrArg some (by kernel_rfl))⟩
  f27 := ⟨Try.f116.name, by decide, Try.func116.trans (congrArg some (by kernel_rfl))⟩
  f28 := Try.func117.trans (congrArg some (by kernel_rfl))
  f29 := Try.func118.trans (congrArg some (by kernel_rfl))
  f46 := ⟨Try.f125.name, by decide, Try.func125.trans (congrArg some (by kernel_rfl))⟩
  f47 := Try.func126.trans (congrArg some (by kernel_rfl))
  f48 := Try.func127.trans (congrArg some (by kernel_rfl))
  f49 := ⟨Try.f128.name, by decide, Try.func128.trans (congrArg some (by kernel_rfl))⟩
  f50 := ⟨Try.f129.name, by decide, Try.func129.trans (congrArg some (by kernel_rfl))⟩
  f57 := ⟨Try.f140.name, by decide, Try.func140.trans (congrArg some (by kernel_rfl))⟩
  t0 := Try.underlying0
  a0 := Try.isAgg0
  z0 := Try.sizeOf0
  v0 := Try.zeroValue0
  t3 := Try.underlying3
  a3 := Try.isAgg3
  z3 := Try.sizeOf3
  v3 := Try.zeroValue3
  t4 := Try.underlying4
  a4 := Try.isAgg4
  z4 := Try.sizeOf4
  v4 := Try.zeroValue4
  t5 := Try.underlying5
  a5 := Try.isAgg5
  z5 := Try.sizeOf5
  v5 := Try.zeroValue5
  t9 := Try.underlying9
  a9 := Try.isAgg9
  z9 := Try.sizeOf9
  v9 := Try.zeroValue9
  t22 := Try.underlying26
  a22 := Try.isAgg26
  z22 := Try.sizeOf26
  v22 := Try.zeroValue26
  t25 := Try.underlying95
  a25 := Try.isAgg95
  z25 := Try.sizeOf95
  v25 := Try.zeroValue95
  t39 := Try.underlying160
  a39 := Try.isAgg160
  z39 := Try.sizeOf160
  v39 := Try.zeroValue160
  t45 := Try.underlying183
  a45 := Try.isAgg183
  z45 := Try.sizeOf183
  v45 := Try.zeroValue183
  t46 := Try.underlying184
  a46 := Try.isAgg184
  z46 := Try.sizeOf184
  v46 := Try.zeroValue184
  t50 := Try.underlying128
  a50 := Try.isAgg128
  z50 := Try.sizeOf128
  v50 := Try.zeroValue128
  t53 := Try.underlying138
  a53 := Try.isAgg138
  z53 := Try.sizeOf138
  v53 := Try.zeroValue138
  t55 := Try.underlying191
  a55 := Try.isAgg191
  z55 := Try.sizeOf191
  v55 := Try.zeroValue191
  t66 := Try.underlying206
  a66 := Try.isAgg206
  z66 := Try.sizeOf206
  v66 := Try.zeroValue206
  t70 := Try.underlying210
  a70 := Try.isAgg210
  z70 := Try.sizeOf210
  v70 := Try.zeroValue210
  t76 := Try.underlying223
  a76 := Try.isAgg223
  z76 := Try.sizeOf223
  v76 := Try.zeroValue223
  t77 := Try.underlying224
  a77 := Try.isAgg224
  z77 := Try.sizeOf224
  v77 := Try.zeroValue224 }
end Go.Proofs

/- slices.SortFunc at []api.Triple under triple.Compare: the shelf's contract, turned to the words of rows of the call's own. -/
namespace Go.Proofs.Ytdjamphmndbmjaa.M
open Go.RowKit Go.Proofs.YtdjamphmndbmjaaW.PrintWords Go.Proofs.YtdjamphmndbmjaaW.PrintLast Go.Proofs.YtdjamphmndbmjaaW.PrintMore
set_option linter.unusedVariables false
set_option linter.unusedSimpArgs false

open Go.Sort Go.Shelf Go.Lib
instance : Inhabited S41 := ⟨z41⟩
/-- The triples of a list, sorted. -/
def sortL (l : List S41) : List S41 := l.mergeSort fun x y => !(ltOf cmpR) y x
theorem swoR : SWO (ltOf cmpR) where
  irrefl x := by unfold ltOf; rw [(lawR.zero x x).2 rfl]; rfl
  trans x y z h1 h2 := by
    unfold ltOf at *
    rw [decide_eq_true_eq] at *
    exact lawR.trans x y z h1 h2
  ntrans x y z h1 h2 := by
    unfold ltOf at *
    rw [decide_eq_false_iff_not] at *
    intro h3
    have a1 := lawR.anti x y; have a2 := lawR.anti y z; have a3 := lawR.anti x z
    rcases Int.lt_trichotomy (cmpR x y) 0 with h | h | h
    · exact h1 h
    · rw [(lawR.zero x y).1 h] at h3
      exact h2 h3
    · have := lawR.trans y x z (by omega) h3
      exact h2 this
theorem totR (x y : S41) (h1 : ltOf cmpR x y = false) (h2 : ltOf cmpR y x = false) : x = y := by
  unfold ltOf at *
  rw [decide_eq_false_iff_not] at *
  have := lawR.anti x y
  exact (lawR.zero x y).1 (by omega)
theorem encR_len (x : S41) : (encR x).length = 9 := rfl
theorem encR_one (x : S41) : ∀ v ∈ encR x, v.oneCell' = true := by
  intro q hq
  simp only [encR, List.mem_cons, List.not_mem_nil, or_false] at hq
  rcases hq with rfl | rfl | rfl | rfl | rfl | rfl | rfl | rfl | rfl <;> rfl
theorem layR (blk off size : Nat) (w : World) : CmpLays Try.prog 46 #[] encR 9 cmpR blk off size w := fun _ _ _ _ x y => compareR_grown x y _

theorem flat_seg (d : Array S41) (j : Nat) (hj : j < d.size) : ((flatK encR 9 d).toList.drop (j * 9)).take 9 = encR d[j]! := by
  have hs : (flatK encR 9 d).size = d.size * 9 := by simp
  apply List.ext_getElem
  · simp [hs, encR_len]; omega
  · intro t h1 h2
    rw [encR_len] at h2
    have ht : j * 9 + t < d.size * 9 := by omega
    have hg := get_flatK encR 9 d (j * 9 + t) ht
    rw [show (j * 9 + t) / 9 = j by omega, show (j * 9 + t) % 9 = t by omega] at hg
    rw [getElem!_pos (flatK encR 9 d) (j * 9 + t) (by rw [hs]; exact ht), getElem!_pos (encR d[j]!) t (by rw [encR_len]; exact h2)] at hg
    rw [List.getElem_take, List.getElem_drop, ← hg]
    rfl
theorem flat_reps {w : World} {base : Nat} {ok : Nat → Prop} (l : List S41) : Reps (Kd.M k41 w base ok) 9 l (flatK encR 9 l.toArray).toList := by
  refine ⟨by simp, fun j p hj => ?_⟩
  have hlt : j < l.length := by
    rcases Nat.lt_or_ge j l.length with h | h
    · exact h
    · rw [List.getElem?_eq_none h] at hj; cases hj
  have := flat_seg l.toArray j (by simpa using hlt)
  rw [this]
  have hp : l.toArray[j]! = p := by
    rw [getElem!_pos l.toArray j (by simpa using hlt)]
    simp [List.getElem?_eq_getElem hlt] at hj
    simpa using hj
  rw [hp]
  exact k41_mkM _ _ _ p

theorem flat_at (l : List S41) (j c : Nat) (hj : j < l.length) (hc : c < 9) : (flatK encR 9 l.toArray)[j * 9 + c]! = (encR l[j])[c]! := by
  rw [get_flatK encR 9 l.toArray (j * 9 + c) (by simp; omega), show (j * 9 + c) / 9 = j by omega, show (j * 9 + c) % 9 = c by omega, getElem!_pos l.toArray j (by simpa using hj)]
  simp
theorem holdsR {w : World} {base gb n cap : Nat} {l : List S41} (h : Kd.R k41 41 w base (fun _ => True) (.slice (some ⟨gb, 0, none⟩) n cap) l) : HoldsK encR 9 w gb 0 l.toArray := by
  obtain ⟨cur, hcur, _, _⟩ := own_block h
  intro t ht
  have ht' : t < l.length * 9 := by simpa using ht
  rw [Nat.zero_add]
  refine ⟨?_, blk_frozen hcur _⟩
  have hj : t / 9 < l.length := by omega
  have hc : t % 9 < 9 := Nat.mod_lt _ (by decide)
  have e : t = t / 9 * 9 + t % 9 := by omega
  rw [e, flat_at l (t / 9) (t % 9) hj hc]
  obtain ⟨h0, h1, h2, h3, h4, h5, h6, h7, h8⟩ := own_cells h (t / 9) hj
  generalize t % 9 = c at hc ⊢
  rcases c with _ | _ | _ | _ | _ | _ | _ | _ | _ | c
  · exact h0
  · exact h1
  · exact h2
  · exact h3
  · exact h4
  · exact h5
  · exact h6
  · exact h7
  · exact h8
  · omega
theorem sortL_length (l : List S41) : (sortL l).length = l.length := List.length_mergeSort _
theorem setMany_all (F G : Array Value) (h : G.size = F.size) : setMany F 0 G.toList = G := by
  refine ext_get! (by simp [h]) fun t ht => ?_
  have ht' : t < F.size := by simpa using ht
  rw [get_setMany _ _ _ t ht', if_pos ⟨Nat.zero_le _, by simp; omega⟩, Nat.sub_zero]
  rw [getElem!_pos G.toList t (by simp; omega), getElem!_pos G t (by omega)]
  simp
/-- The row, sorted, in the world that the sort leaves. -/
theorem sorted_own {w : World} {base gb n cap : Nat} {l l' : List S41} (h : Kd.R k41 41 w base (fun _ => True) (.slice (some ⟨gb, 0, none⟩) n cap) l) (hl : l'.length = l.length) (m : Nat) (os : Array Obj) :
    Kd.R k41 41 (sortWorldK encR 9 w gb 0 m l'.toArray os) base (fun _ => True) (.slice (some ⟨gb, 0, none⟩) n cap) l' ∧ Below base w (sortWorldK encR 9 w gb 0 m l'.toArray os) ∧ w.heap.size ≤ (sortWorldK encR 9 w gb 0 m l'.toArray os).heap.size := by
  have hbase : base ≤ gb := Kd.R_base h gb rfl
  have hlt : gb < w.heap.size := Kd.R_lt h gb rfl
  have hH := holdsR h
  have hw : sortWorldK encR 9 w gb 0 m l'.toArray os = grow (((Sort.ahead w m)).setCells gb 0 (flatK encR 9 l'.toArray).toList) os := by
    unfold sortWorldK putRowK
    have h1 : putRow id (Sort.ahead w m) gb 0 (flatK encR 9 l.toArray) = Sort.ahead w m := putRow_self id (Sort.ahead w m) gb 0 _ hH
    have h2 := setCells_putRow (Sort.ahead w m) gb 0 (flatK encR 9 l'.toArray).toList 0 (flatK encR 9 l.toArray) (by simp [hl])
    rw [h1, setMany_all _ _ (by simp [hl])] at h2
    rw [← h2]
  rw [hw]
  obtain ⟨h0, inner, ⟨hm, hown⟩, hr⟩ := h
  rcases hown with ⟨hv, _⟩ | ⟨g', cap', cur, hv, hb, hh, hnc, hcm, hcs, htk⟩
  · cases hv
  · injection hv with ha hn hc
    injection ha with ha
    injection ha with hg
    subst hg; subst hc
    have hlen : (flatK encR 9 l'.toArray).toList.length = l'.length * 9 := by simp
    obtain ⟨cur', h1, h2, h3⟩ := setCells_row (flatK encR 9 l'.toArray).toList 0 (Sort.ahead w m) cur hh (by rw [hlen, hcs]; have : k41.sz = 9 := rfl; rw [this]; omega)
    obtain ⟨s1, s2, s3, s4⟩ := setCells_same gb (flatK encR 9 l'.toArray).toList 0 (Sort.ahead w m)
    have hgl : gb < ((Sort.ahead w m).setCells gb 0 (flatK encR 9 l'.toArray).toList).heap.size := by rw [s4]; exact hlt
    refine ⟨⟨h0, (flatK encR 9 l'.toArray).toList, ⟨by rw [hlen]; rfl, .inr ⟨gb, cap, cur', by rw [hn, hl], hb, ?_, by omega, hcm, by rw [h2, hcs], ?_⟩⟩, flat_reps l'⟩, ?_, ?_⟩
    · show (_ ++ os)[gb]? = _
      rw [Array.getElem?_append_left hgl]
      exact h1
    · rw [h3, List.take_zero, List.nil_append, List.take_append_of_le_length (by rw [hlen]; exact Nat.le_refl _)]
      exact List.take_of_length_le (by rw [hlen]; exact Nat.le_refl _)
    · refine ⟨s1, s2, s3, ?_, fun k hk => ?_⟩
      · show _ ≤ (_ ++ os).size
        rw [Array.size_append, s4]
        exact Nat.le_add_right _ _
      · show (_ ++ os)[k]? = _
        rw [Array.getElem?_append_left (by omega)]
        exact setCells_far _ _ k (by omega)
    · show _ ≤ (_ ++ os).size
      rw [Array.size_append, s4]
      exact Nat.le_add_right _ _
theorem srt_calls (base : Nat) (A : Option Addr) (cap : Nat) (l : List S41) (w : World) (hr : Kd.R k41 41 w base (fun _ => True) (.slice A l.length cap) l) (hl : l.length < 4611686018427387904) :
    Calls Try.prog 88 #[.slice A l.length cap, .func (.func 46) #[] #[]] w fun e w' =>
      e = .returned (.tuple #[]) ∧ Kd.R k41 41 w' base (fun _ => True) (.slice A l.length cap) (sortL l) ∧ Below base w w' ∧ w.heap.size ≤ w'.heap.size := by
  rcases Nat.eq_zero_or_pos l.length with h0 | hp
  · obtain rfl := List.eq_nil_of_length_eq_zero h0
    have hcon := AnyF.slices_SortFunc_none (P := Try.prog) (ρ := Try.sortR_ren) { Try.sortR with } A cap (.func (.func 46) #[] #[]) w
    refine Calls.mono hcon ?_
    rintro e w' ⟨rfl, rfl⟩
    exact ⟨rfl, by unfold sortL; rw [List.mergeSort_nil]; exact hr, Below.refl _ _, Nat.le_refl _⟩
  · obtain ⟨gb, cap', hv, _⟩ := Kd.R_form hr hp
    injection hv with ha _ hc
    subst ha; subst hc
    have eg : ∀ args w, (callFunc 46 args).run Try.prog w = .ok (.enter 46 args) w := enters_of Try.func46 (by kernel_rfl) rfl
    have hcon := AnyQ.slices_SortFunc_total Try.sortR 9 Try.isAgg41 Try.sizeOf41 encR encR_len encR_one cmpR swoR 46 #[] gb 0 cap l.toArray w eg (layR gb 0 l.toArray.size w) (holdsR hr) (Kd.R_lt hr gb rfl) (by simpa using hl) totR
    rw [List.size_toArray] at hcon
    refine Calls.mono hcon ?_
    rintro e w' ⟨rfl, n, os, rfl⟩
    exact ⟨rfl, sorted_own hr (sortL_length l) n os⟩
end Go.Proofs.Ytdjamphmndbmjaa.M

/- set.Union: of two lists the triples, sorted, each once. By hand. -/
namespace Go.Proofs.Ytdjamphmndbmjaa.M
open Go.RowKit Go.Proofs.YtdjamphmndbmjaaW.PrintWords Go.Proofs.YtdjamphmndbmjaaW.PrintLast Go.Proofs.YtdjamphmndbmjaaW.PrintMore
set_option linter.unusedVariables false
set_option linter.unusedSimpArgs false

/-- What both have together, sorted, each once. -/
def unionR (a b : List S41) : List S41 := uniq (sortL (a ++ b))
def set_Union.f (l0 : List S41) (l1 : List S41) : Option (List S41) := if (l0.length + l1.length) * 120 ≤ 140737488355328 then some (unionR l0 l1) else none
set_option maxHeartbeats 4000000 in
set_option maxRecDepth 100000 in
theorem set_Union.calls (A0 : Option Addr) (c0 : Nat) (l0 : List S41) (A1 : Option Addr) (c1 : Nat) (l1 : List S41) (r : List S41) (w : World) (hr0 : Kd.C k41 w A0 l0.length l0) (hc0 : l0.length ≤ c0) (hr1 : Kd.C k41 w A1 l1.length l1) (hc1 : l1.length ≤ c1) (h : set_Union.f l0 l1 = some r) :
    Calls Try.prog 60 #[.slice A0 l0.length c0, .slice A1 l1.length c1] w fun e w' => ∃ v0_ : Value, e = .returned (v0_) ∧ Kd.R k41 41 w' w.heap.size (fun _ => True) v0_ r ∧ Below w.heap.size w w' := by
  unfold set_Union.f at h
  split at h
  · rename_i hm
    obtain rfl := Option.some.inj h
    clear h
    have hcat := fun (W : World) (g0 : Nat) (h0 : W.cell? ⟨g0, 0, none⟩ = some (.slice A0 l0.length c0)) (h1 : W.cell? ⟨g0, 1, none⟩ = some (.slice A1 l1.length c1)) (hC0 : Kd.C k41 W A0 l0.length l0) (hC1 : Kd.C k41 W A1 l1.length l1) => concat_calls g0 A0 A1 c0 c1 l0 l1 W h0 h1 hC0 hC1 hc0 hc1 hm
    have HCAT := Aside0.mk hcat
    have hll : (l0 ++ l1).length < 4611686018427387904 := by rw [List.length_append]; omega
    have hsrt := fun (base : Nat) (A : Option Addr) (cap : Nat) (W : World) (hR : Kd.R k41 41 W base (fun _ => True) (.slice A (l0 ++ l1).length cap) (l0 ++ l1)) => srt_calls base A cap (l0 ++ l1) W hR hll
    have hcmp := fun (base : Nat) (A : Option Addr) (cap : Nat) (W : World) (hR : Kd.R k41 41 W base (fun _ => True) (.slice A (sortL (l0 ++ l1)).length cap) (sortL (l0 ++ l1))) (hb : base ≤ W.heap.size) => cmpt_calls base A cap (sortL (l0 ++ l1)) W hR hb
    unfold unionR
    rw [sortL_length] at hcmp
    generalize hn : (l0 ++ l1).length = n at hsrt hcmp
    have HN := Aside0.mk hn
    clear hn
    generalize hsl : sortL (l0 ++ l1) = sl at hsrt hcmp ⊢
    have HSRT := Aside0.mk hsrt
    have HCMP := Aside0.mk hcmp
    have HR0 := Aside0.mk hr0
    have HR1 := Aside0.mk hr1
    have HB := Aside0.mk (Below.refl w.heap.size w)
    clear hcat hsrt hcmp hr0 hr1 hll hsl
    go_enter Try.func60, Try.ntmps60
    go_wp2_with (first | (go_at_call 87; refine (HCAT.out _ _ ?h0 ?h1 (Kd.C_alloc HR0.out _) (Kd.C_alloc HR1.out _)).mono ?_; (case h0 => exact (blk_cell (blk_new w _) 0).trans rfl); (case h1 => exact (blk_cell (blk_new w _) 1).trans rfl); rintro e w' ⟨⟨v, rfl, hv⟩, hb⟩; obtain ⟨A, c, ev⟩ := Kd.R_slice hv; rw [HN.out] at ev; subst ev; have HV1 := Aside0.mk hv; have HB1 := Aside0.mk hb; clear hv hb) | (go_at_call 88; refine (HSRT.out _ _ _ _ HV1.out).mono ?_; rintro e w' ⟨rfl, hv, hb, hsz⟩; have HV2 := Aside0.mk hv; have HB2 := Aside0.mk (And.intro hb hsz); clear hv hb hsz) | (go_at_call 89; refine (HCMP.out _ _ _ _ HV2.out ?hbs).mono ?_; (case hbs => exact Nat.le_trans HB1.out.size HB2.out.2); rintro e w' ⟨⟨v, rfl, hv⟩, hb, hsz⟩; have HV3 := Aside0.mk hv; have HB3 := Aside0.mk (And.intro hb hsz); clear hv hb hsz))
    go_ret
    refine ⟨_, rfl, Kd.R_lower HV3.out ?_, ?_⟩
    · rw [alloc_size1]; omega
    · exact (below_step (below_alloc HB.out _) HB1.out).trans ((HB2.out.1.trans HB3.out.1).mono (by rw [alloc_size1]; omega))
  · cases h
end Go.Proofs.Ytdjamphmndbmjaa.M

/- Package set by hand: Right, Has, Join, Less, Both; stratasame.Triples. Contracts in plain words, results as rows that are read. -/
namespace Go.Proofs.Ytdjamphmndbmjaa.M
open Go.RowKit Go.Proofs.YtdjamphmndbmjaaW.PrintWords Go.Proofs.YtdjamphmndbmjaaW.PrintLast Go.Proofs.YtdjamphmndbmjaaW.PrintMore
set_option linter.unusedVariables false
set_option linter.unusedSimpArgs false

theorem sorted_calls (A : Option Addr) (c : Nat) (l : List S41) (w : World) (hC : Kd.C k41 w A l.length l) (hc : l.length ≤ c) :
    Calls Try.prog 19 #[.slice A l.length c] w fun e w' => e = .returned (errW (sortedR l)) ∧ Below w.heap.size w w' := pSorted.calls A c l _ w hC hc rfl
theorem checkR_calls (x : S41) (w : World) :
    Calls Try.prog 43 #[.agg #[.int .i64 x.f0.f0, .string x.f0.f1, .string x.f0.f2, .int .i64 x.f1.f0, .string x.f1.f1, .string x.f1.f2, .int .i64 x.f2.f0, .string x.f2.f1, .string x.f2.f2]] w fun e w' => e = .returned (errW (chkR x)) ∧ Below w.heap.size w w' := pCheckR.calls _ _ _ _ _ _ _ _ _ _ w rfl
/-- What is wrong with one or two sets. -/
def right2 (a b : List S41) : Option Int := match sortedR a with | some e => some e | none => sortedR b
theorem right2_none {a b : List S41} : right2 a b = none ↔ sortedR a = none ∧ sortedR b = none := by
  unfold right2
  cases h : sortedR a <;> simp
set_option maxHeartbeats 4000000 in
set_option maxRecDepth 100000 in
theorem right2_calls (g0 : Nat) (A0 A1 : Option Addr) (c0 c1 : Nat) (l0 l1 : List S41) (w : World) (h0 : w.cell? ⟨g0, 0, none⟩ = some (.slice A0 l0.length c0)) (h1 : w.cell? ⟨g0, 1, none⟩ = some (.slice A1 l1.length c1))
    (hr0 : Kd.C k41 w A0 l0.length l0) (hr1 : Kd.C k41 w A1 l1.length l1) (hc0 : l0.length ≤ c0) (hc1 : l1.length ≤ c1) :
    Calls Try.prog 47 #[.slice (some ⟨g0, 0, none⟩) 2 2] w fun e w' => e = .returned (errW (right2 l0 l1)) ∧ Below w.heap.size w w' := by
  have HR0 := Aside0.mk hr0
  have HR1 := Aside0.mk hr1
  have H0 := Aside0.mk h0
  have H1 := Aside0.mk h1
  have hS0 := fun W (hC : Kd.C k41 W A0 l0.length l0) => sorted_calls A0 c0 l0 W hC hc0
  have hS1 := fun W (hC : Kd.C k41 W A1 l1.length l1) => sorted_calls A1 c1 l1 W hC hc1
  have HS0 := Aside0.mk hS0
  have HS1 := Aside0.mk hS1
  clear hr0 hr1 h0 h1 hS0 hS1
  go_enter Try.func47, Try.ntmps47
  go_wp2
  go_loopg [4, 5, 8] 2 (fun gg _ _ s8 wr => Aside0 (Below w.heap.size w wr) ∧ ((s8 = .int .i64 0 ∧ gg = 2) ∨ (s8 = .int .i64 1 ∧ gg = 1 ∧ Aside0 (sortedR l0 = none)) ∨ (s8 = .int .i64 2 ∧ gg = 0 ∧ Aside0 (right2 l0 l1 = none))))
  case atStart => exact ⟨⟨Below.refl _ _⟩, .inl ⟨rfl, rfl⟩⟩
  case round =>
    obtain ⟨HB, hrel⟩ := hrel
    rcases hrel with ⟨rfl, rfl⟩ | ⟨rfl, rfl, HN⟩ | ⟨rfl, rfl, HN⟩
    · have h0 := (HB.out.cell (World.block_lt_of_cell? _ _ H0.out)).trans H0.out
      have hS := HS0.out wr (Kd.C_below HR0.out HB.out)
      obtain ⟨r, hr⟩ : ∃ r, sortedR l0 = r := ⟨_, rfl⟩
      rw [hr] at hS
      have HRR := Aside0.mk hr
      clear hr
      cases r with
      | none =>
        rw [errW_none] at hS
        go_wp2_with (go_at_call 19; refine hS.mono ?_; rintro e w' ⟨rfl, hb⟩; have HB1 := Aside0.mk hb; clear hb)
        go_roundg 1
        case measure => omega
        case rel => exact ⟨⟨below_step HB.out HB1.out⟩, .inr (.inl ⟨by go_num, rfl, HRR⟩)⟩
      | some n =>
        rw [errW_some] at hS
        go_wp2_with (go_at_call 19; refine hS.mono ?_; rintro e w' ⟨rfl, hb⟩; have HB1 := Aside0.mk hb; clear hb)
        go_ret
        refine ⟨?_, below_step HB.out HB1.out⟩
        unfold right2
        rw [HRR.out]
        rfl
    · have h1 := (HB.out.cell (World.block_lt_of_cell? _ _ H1.out)).trans H1.out
      have hS := HS1.out wr (Kd.C_below HR1.out HB.out)
      obtain ⟨r, hr⟩ : ∃ r, sortedR l1 = r := ⟨_, rfl⟩
      rw [hr] at hS
      have HRR := Aside0.mk hr
      clear hr
      cases r with
      | none =>
        rw [errW_none] at hS
        go_wp2_with (go_at_call 19; refine hS.mono ?_; rintro e w' ⟨rfl, hb⟩; have HB1 := Aside0.mk hb; clear hb)
        go_roundg 0
        case measure => omega
        case rel => exact ⟨⟨below_step HB.out HB1.out⟩, .inr (.inr ⟨by go_num, rfl, ⟨right2_none.2 ⟨HN.out, HRR.out⟩⟩⟩)⟩
      | some n =>
        rw [errW_some] at hS
        go_wp2_with (go_at_call 19; refine hS.mono ?_; rintro e w' ⟨rfl, hb⟩; have HB1 := Aside0.mk hb; clear hb)
        go_ret
        refine ⟨?_, below_step HB.out HB1.out⟩
        unfold right2
        rw [HN.out]
        show _ = Ending.returned (errW (sortedR l1))
        rw [HRR.out]
        rfl
    · go_wp2
      go_ret
      exact ⟨by rw [HN.out]; rfl, HB.out⟩
set_option maxHeartbeats 4000000 in
set_option maxRecDepth 100000 in
theorem right1_calls (g0 : Nat) (A0 : Option Addr) (c0 : Nat) (l0 : List S41) (w : World) (h0 : w.cell? ⟨g0, 0, none⟩ = some (.slice A0 l0.length c0))
    (hr0 : Kd.C k41 w A0 l0.length l0) (hc0 : l0.length ≤ c0) :
    Calls Try.prog 47 #[.slice (some ⟨g0, 0, none⟩) 1 1] w fun e w' => e = .returned (errW (sortedR l0)) ∧ Below w.heap.size w w' := by
  have HR0 := Aside0.mk hr0
  have H0 := Aside0.mk h0
  have hS0 := fun W (hC : Kd.C k41 W A0 l0.length l0) => sorted_calls A0 c0 l0 W hC hc0
  have HS0 := Aside0.mk hS0
  clear hr0 h0 hS0
  go_enter Try.func47, Try.ntmps47
  go_wp2
  go_loopg [4, 5, 8] 1 (fun gg _ _ s8 wr => Aside0 (Below w.heap.size w wr) ∧ ((s8 = .int .i64 0 ∧ gg = 1) ∨ (s8 = .int .i64 1 ∧ gg = 0 ∧ Aside0 (sortedR l0 = none))))
  case atStart => exact ⟨⟨Below.refl _ _⟩, .inl ⟨rfl, rfl⟩⟩
  case round =>
    obtain ⟨HB, hrel⟩ := hrel
    rcases hrel with ⟨rfl, rfl⟩ | ⟨rfl, rfl, HN⟩
    · have h0 := (HB.out.cell (World.block_lt_of_cell? _ _ H0.out)).trans H0.out
      have hS := HS0.out wr (Kd.C_below HR0.out HB.out)
      obtain ⟨r, hr⟩ : ∃ r, sortedR l0 = r := ⟨_, rfl⟩
      rw [hr] at hS
      have HRR := Aside0.mk hr
      clear hr
      cases r with
      | none =>
        rw [errW_none] at hS
        go_wp2_with (go_at_call 19; refine hS.mono ?_; rintro e w' ⟨rfl, hb⟩; have HB1 := Aside0.mk hb; clear hb)
        go_roundg 0
        case measure => omega
        case rel => exact ⟨⟨below_step HB.out HB1.out⟩, .inr ⟨by go_num, rfl, HRR⟩⟩
      | some n =>
        rw [errW_some] at hS
        go_wp2_with (go_at_call 19; refine hS.mono ?_; rintro e w' ⟨rfl, hb⟩; have HB1 := Aside0.mk hb; clear hb)
        go_ret
        refine ⟨?_, below_step HB.out HB1.out⟩
        rw [HRR.out]
        rfl
    · go_wp2
      go_ret
      exact ⟨by rw [HN.out]; rfl, HB.out⟩
end Go.Proofs.Ytdjamphmndbmjaa.M

/- Package set by hand: Join, Less, Both, Has. -/
namespace Go.Proofs.Ytdjamphmndbmjaa.M
open Go.RowKit Go.Proofs.YtdjamphmndbmjaaW.PrintWords Go.Proofs.YtdjamphmndbmjaaW.PrintLast Go.Proofs.YtdjamphmndbmjaaW.PrintMore
set_option linter.unusedVariables false
set_option linter.unusedSimpArgs false

/-- A result that is a row to be read. -/
def Row (w : World) (v : Value) (l : List S41) : Prop := ∃ A c, v = .slice A l.length c ∧ Kd.C k41 w A l.length l ∧ l.length ≤ c
theorem Row.below {w w' : World} {v : Value} {l : List S41} (h : Row w v l) (hb : Below w.heap.size w w') : Row w' v l := by
  obtain ⟨A, c, e, h1, h2⟩ := h
  exact ⟨A, c, e, Kd.C_below h1 hb, h2⟩
theorem Row.nil (w : World) : Row w (.slice none 0 0) [] := ⟨none, 0, rfl, ⟨rfl, by simp, fun h => absurd h (Nat.lt_irrefl 0)⟩, Nat.le_refl _⟩
theorem Row.of_R {w : World} {base : Nat} {ok : Nat → Prop} {v : Value} {l : List S41} (h : Kd.R k41 41 w base ok v l) : Row w v l := by
  obtain ⟨A, c, e, h1, h2⟩ := Kd.R_reads h
  exact ⟨A, c, e, h2, h1⟩
/-- What of a list is, or is not, in a set. -/
def partR (a b : List S41) (is : Bool) : List S41 := a.filter fun t => inR b t == is
theorem part_calls (A0 : Option Addr) (c0 : Nat) (l0 : List S41) (A1 : Option Addr) (c1 : Nat) (l1 : List S41) (is : Bool) (w : World) (hr0 : Kd.C k41 w A0 l0.length l0) (hc0 : l0.length ≤ c0) (hr1 : Kd.C k41 w A1 l1.length l1) (hc1 : l1.length ≤ c1) (hl : l0.length < 1172812402961) (hs : sortedR l1 = none) :
    Calls Try.prog 49 #[.slice A0 l0.length c0, .slice A1 l1.length c1, .bool is] w fun e w' => ∃ v, e = .returned v ∧ Row w' v (partR l0 l1 is) ∧ Below w.heap.size w w' :=
  (set_Part.calls A0 c0 l0 A1 c1 l1 is (partR l0 l1 is) w hr0 hc0 hr1 hc1 (by unfold set_Part.f partR; rw [if_pos ⟨hl, hs⟩])).mono fun _ _ ⟨v, he, hR, hb⟩ => ⟨v, he, Row.of_R hR, hb⟩
theorem union_calls (A0 : Option Addr) (c0 : Nat) (l0 : List S41) (A1 : Option Addr) (c1 : Nat) (l1 : List S41) (w : World) (hr0 : Kd.C k41 w A0 l0.length l0) (hc0 : l0.length ≤ c0) (hr1 : Kd.C k41 w A1 l1.length l1) (hc1 : l1.length ≤ c1) (hl : (l0.length + l1.length) * 120 ≤ 140737488355328) :
    Calls Try.prog 60 #[.slice A0 l0.length c0, .slice A1 l1.length c1] w fun e w' => ∃ v, e = .returned v ∧ Row w' v (unionR l0 l1) ∧ Below w.heap.size w w' :=
  (set_Union.calls A0 c0 l0 A1 c1 l1 (unionR l0 l1) w hr0 hc0 hr1 hc1 (by unfold set_Union.f; rw [if_pos hl])).mono fun _ _ ⟨v, he, hR, hb⟩ => ⟨v, he, Row.of_R hR, hb⟩
theorem sortedR_len {l : List S41} (h : sortedR l = none) : l.length ≤ 200 := (sortedR_none h).1
def joinR (a b : List S41) : List S41 × Option Int := match right2 a b with | some e => ([], some e) | none => if (unionR a b).length > 200 then ([], some 4) else (unionR a b, none)
def bothR (a b : List S41) (is : Bool) : List S41 × Option Int := match right2 a b with | some e => ([], some e) | none => (partR a b is, none)
def hasR (l : List S41) (x : S41) : Bool × Option Int := match sortedR l with | some e => (false, some e) | none => match chkR x with | some e => (false, some e) | none => (inR l x, none)
theorem cells2 (w : World) (A0 A1 : Option Addr) (c0 c1 n0 n1 : Nat) (T : Nat) : (w.alloc (.cells #[.slice A0 n0 c0, .slice A1 n1 c1] T)).cell? ⟨w.heap.size, 0, none⟩ = some (.slice A0 n0 c0) ∧ (w.alloc (.cells #[.slice A0 n0 c0, .slice A1 n1 c1] T)).cell? ⟨w.heap.size, 1, none⟩ = some (.slice A1 n1 c1) := ⟨(blk_cell (blk_new w _) 0).trans rfl, (blk_cell (blk_new w _) 1).trans rfl⟩
set_option maxHeartbeats 4000000 in
set_option maxRecDepth 100000 in
theorem join_calls (A0 A1 : Option Addr) (c0 c1 : Nat) (l0 l1 : List S41) (w : World) (hr0 : Kd.C k41 w A0 l0.length l0) (hc0 : l0.length ≤ c0) (hr1 : Kd.C k41 w A1 l1.length l1) (hc1 : l1.length ≤ c1) :
    Calls Try.prog 28 #[.slice A0 l0.length c0, .slice A1 l1.length c1] w fun e w' => ∃ v, e = .returned (.tuple #[v, errW (joinR l0 l1).2]) ∧ Row w' v (joinR l0 l1).1 ∧ Below w.heap.size w w' := by
  have HR0 := Aside0.mk hr0
  have HR1 := Aside0.mk hr1
  have HB := Aside0.mk (Below.refl w.heap.size w)
  have hright := fun W g0 h0 h1 hC0 hC1 => right2_calls g0 A0 A1 c0 c1 l0 l1 W h0 h1 hC0 hC1 hc0 hc1
  obtain ⟨r, hr⟩ : ∃ r, right2 l0 l1 = r := ⟨_, rfl⟩
  rw [hr] at hright
  cases r with
  | some n =>
    have hj : joinR l0 l1 = ([], some n) := by unfold joinR; rw [hr]
    rw [hj]
    have HRT := Aside0.mk hright
    clear hr0 hr1 hright hr hj
    go_enter Try.func28, Try.ntmps28
    go_wp2_with (go_at_call 47; refine (HRT.out _ _ (cells2 w A0 A1 c0 c1 _ _ _).1 (cells2 w A0 A1 c0 c1 _ _ _).2 (Kd.C_alloc HR0.out _) (Kd.C_alloc HR1.out _)).mono ?_; rintro e w' ⟨he, hb⟩; rw [errW_some] at he; subst he; have HB1 := Aside0.mk hb; clear hb)
    go_ret2
    exact ⟨_, rfl, Row.nil _, below_step (below_alloc HB.out _) HB1.out⟩
  | none =>
    obtain ⟨hs0, hs1⟩ := right2_none.1 hr
    have hl0 := sortedR_len hs0
    have hl1 := sortedR_len hs1
    have hun := fun W hC0 hC1 => union_calls A0 c0 l0 A1 c1 l1 W hC0 hc0 hC1 hc1 (by omega)
    have hj : joinR l0 l1 = if (unionR l0 l1).length > 200 then ([], some 4) else (unionR l0 l1, none) := by unfold joinR; rw [hr]
    rw [hj]
    generalize unionR l0 l1 = u at hun ⊢
    have HRT := Aside0.mk hright
    have HUN := Aside0.mk hun
    clear hr0 hr1 hright hr hj hun hs0 hs1 hl0 hl1
    by_cases hu : u.length > 200
    · have huz : (u.length : Int) > 200 := by omega
      rw [if_pos hu]
      go_enter Try.func28, Try.ntmps28
      go_wp2_with (first | (go_at_call 47; refine (HRT.out _ _ (cells2 w A0 A1 c0 c1 _ _ _).1 (cells2 w A0 A1 c0 c1 _ _ _).2 (Kd.C_alloc HR0.out _) (Kd.C_alloc HR1.out _)).mono ?_; rintro e w' ⟨he, hb⟩; rw [errW_none] at he; subst he; have HB1 := Aside0.mk (below_step (below_alloc HB.out _) hb); clear hb) | (go_at_call 60; refine (HUN.out _ (Kd.C_below HR0.out HB1.out) (Kd.C_below HR1.out HB1.out)).mono ?_; rintro e w' ⟨v, rfl, hv, hb⟩; obtain ⟨Au, cu, rfl, hCu, hcu⟩ := hv; have HB2 := Aside0.mk (below_step HB1.out hb); clear hb hCu hcu))
      go_ret2
      exact ⟨_, rfl, Row.nil _, HB2.out⟩
    · have huz : ¬ (u.length : Int) > 200 := by omega
      rw [if_neg hu]
      go_enter Try.func28, Try.ntmps28
      go_wp2_with (first | (go_at_call 47; refine (HRT.out _ _ (cells2 w A0 A1 c0 c1 _ _ _).1 (cells2 w A0 A1 c0 c1 _ _ _).2 (Kd.C_alloc HR0.out _) (Kd.C_alloc HR1.out _)).mono ?_; rintro e w' ⟨he, hb⟩; rw [errW_none] at he; subst he; have HB1 := Aside0.mk (below_step (below_alloc HB.out _) hb); clear hb) | (go_at_call 60; refine (HUN.out _ (Kd.C_below HR0.out HB1.out) (Kd.C_below HR1.out HB1.out)).mono ?_; rintro e w' ⟨v, rfl, hv, hb⟩; obtain ⟨Au, cu, rfl, hCu, hcu⟩ := hv; have HB2 := Aside0.mk (below_step HB1.out hb); have HU := Aside0.mk (And.intro hCu hcu); clear hb hCu hcu))
      go_ret2
      exact ⟨_, rfl, ⟨_, _, rfl, HU.out.1, HU.out.2⟩, HB2.out⟩
set_option maxHeartbeats 4000000 in
set_option maxRecDepth 100000 in
theorem less_calls (A0 A1 : Option Addr) (c0 c1 : Nat) (l0 l1 : List S41) (w : World) (hr0 : Kd.C k41 w A0 l0.length l0) (hc0 : l0.length ≤ c0) (hr1 : Kd.C k41 w A1 l1.length l1) (hc1 : l1.length ≤ c1) :
    Calls Try.prog 29 #[.slice A0 l0.length c0, .slice A1 l1.length c1] w fun e w' => ∃ v, e = .returned (.tuple #[v, errW (bothR l0 l1 false).2]) ∧ Row w' v (bothR l0 l1 false).1 ∧ Below w.heap.size w w' := by
  have HR0 := Aside0.mk hr0
  have HR1 := Aside0.mk hr1
  have HB := Aside0.mk (Below.refl w.heap.size w)
  have hright := fun W g0 h0 h1 hC0 hC1 => right2_calls g0 A0 A1 c0 c1 l0 l1 W h0 h1 hC0 hC1 hc0 hc1
  obtain ⟨r, hr⟩ : ∃ r, right2 l0 l1 = r := ⟨_, rfl⟩
  rw [hr] at hright
  cases r with
  | some n =>
    have hj : bothR l0 l1 false = ([], some n) := by unfold bothR; rw [hr]
    rw [hj]
    have HRT := Aside0.mk hright
    clear hr0 hr1 hright hr hj
    go_enter Try.func29, Try.ntmps29
    go_wp2_with (go_at_call 47; refine (HRT.out _ _ (cells2 w A0 A1 c0 c1 _ _ _).1 (cells2 w A0 A1 c0 c1 _ _ _).2 (Kd.C_alloc HR0.out _) (Kd.C_alloc HR1.out _)).mono ?_; rintro e w' ⟨he, hb⟩; rw [errW_some] at he; subst he; have HB1 := Aside0.mk hb; clear hb)
    go_ret2
    exact ⟨_, rfl, Row.nil _, below_step (below_alloc HB.out _) HB1.out⟩
  | none =>
    obtain ⟨hs0, hs1⟩ := right2_none.1 hr
    have hl0 := sortedR_len hs0
    have hun := fun W hC0 hC1 => part_calls A0 c0 l0 A1 c1 l1 false W hC0 hc0 hC1 hc1 (by omega) hs1
    have hj : bothR l0 l1 false = (partR l0 l1 false, none) := by unfold bothR; rw [hr]
    rw [hj]
    generalize partR l0 l1 false = u at hun ⊢
    have HRT := Aside0.mk hright
    have HUN := Aside0.mk hun
    clear hr0 hr1 hright hr hj hun hs0 hs1 hl0
    go_enter Try.func29, Try.ntmps29
    go_wp2_with (first | (go_at_call 47; refine (HRT.out _ _ (cells2 w A0 A1 c0 c1 _ _ _).1 (cells2 w A0 A1 c0 c1 _ _ _).2 (Kd.C_alloc HR0.out _) (Kd.C_alloc HR1.out _)).mono ?_; rintro e w' ⟨he, hb⟩; rw [errW_none] at he; subst he; have HB1 := Aside0.mk (below_step (below_alloc HB.out _) hb); clear hb) | (go_at_call 49; refine (HUN.out _ (Kd.C_below HR0.out HB1.out) (Kd.C_below HR1.out HB1.out)).mono ?_; rintro e w' ⟨v, rfl, hv, hb⟩; obtain ⟨Au, cu, rfl, hCu, hcu⟩ := hv; have HB2 := Aside0.mk (below_step HB1.out hb); have HU := Aside0.mk (And.intro hCu hcu); clear hb hCu hcu))
    go_ret2
    exact ⟨_, rfl, ⟨_, _, rfl, HU.out.1, HU.out.2⟩, HB2.out⟩
end Go.Proofs.Ytdjamphmndbmjaa.M

/- match.Of, Match, Count: by hand (printed by wip/gen_of.py). -/
namespace Go.Proofs.Ytdjamphmndbmjaa.M
open Go.RowKit Go.Proofs.YtdjamphmndbmjaaW.PrintWords Go.Proofs.YtdjamphmndbmjaaW.PrintLast Go.Proofs.YtdjamphmndbmjaaW.PrintMore
set_option linter.unusedVariables false
set_option linter.unusedSimpArgs false

set_option maxHeartbeats 4000000 in
set_option maxRecDepth 100000 in
theorem of1_calls (x : S41) (p : S51) (W : World) (pb : Nat) (hp : ∀ (c : Nat) (v : Value), (#[.string p.f0.f0, .int .i64 p.f0.f1.f0, .string p.f0.f1.f1, .string p.f0.f1.f2, .string p.f1.f0, .int .i64 p.f1.f1.f0, .string p.f1.f1.f1, .string p.f1.f1.f2, .string p.f2.f0, .int .i64 p.f2.f1.f0, .string p.f2.f1.f1, .string p.f2.f1.f2] : Array Value)[c]? = some v → W.cell? ⟨pb, c, none⟩ = some v) :
    Calls Try.prog 71 #[aggR x, .pointer (some ⟨pb, 0, none⟩)] W fun e w' => e = .returned (.bool (!fitsP x p)) ∧ Below W.heap.size W w' := by
  have hf := fun W' => fits_calls x p W'
  have HB := Aside0.mk (Below.refl W.heap.size W)
  have c0 := fun (o : Obj) => cell?_alloc_old' (hp 0 (.string p.f0.f0) rfl) o
  have c1 := fun (o : Obj) => cell?_alloc_old' (hp 1 (.int .i64 p.f0.f1.f0) rfl) o
  have c2 := fun (o : Obj) => cell?_alloc_old' (hp 2 (.string p.f0.f1.f1) rfl) o
  have c3 := fun (o : Obj) => cell?_alloc_old' (hp 3 (.string p.f0.f1.f2) rfl) o
  have c4 := fun (o : Obj) => cell?_alloc_old' (hp 4 (.string p.f1.f0) rfl) o
  have c5 := fun (o : Obj) => cell?_alloc_old' (hp 5 (.int .i64 p.f1.f1.f0) rfl) o
  have c6 := fun (o : Obj) => cell?_alloc_old' (hp 6 (.string p.f1.f1.f1) rfl) o
  have c7 := fun (o : Obj) => cell?_alloc_old' (hp 7 (.string p.f1.f1.f2) rfl) o
  have c8 := fun (o : Obj) => cell?_alloc_old' (hp 8 (.string p.f2.f0) rfl) o
  have c9 := fun (o : Obj) => cell?_alloc_old' (hp 9 (.int .i64 p.f2.f1.f0) rfl) o
  have c10 := fun (o : Obj) => cell?_alloc_old' (hp 10 (.string p.f2.f1.f1) rfl) o
  have c11 := fun (o : Obj) => cell?_alloc_old' (hp 11 (.string p.f2.f1.f2) rfl) o
  generalize fitsP x p = r at hf ⊢
  have HF := Aside0.mk hf
  clear hf hp
  unfold aggR
  cases r <;>
  · go_enter Try.func71, Try.ntmps71
    go_wp2_with (go_at_call 72; refine (HF.out _).mono ?_; rintro e w' ⟨rfl, hb⟩; have HB1 := Aside0.mk (below_step (below_alloc HB.out _) hb); clear hb)
    repeat (go_quiet (fail); try go_wp2)
    go_ret
    exact ⟨rfl, HB1.out⟩
/-- Those of a list that fit. -/
def matchR (l : List S41) (p : S51) : List S41 := l.filter fun x => fitsP x p
set_option maxHeartbeats 4000000 in
set_option maxRecDepth 100000 in
theorem of_calls (A0 : Option Addr) (c0 : Nat) (l0 : List S41) (p : S51) (w : World) (hr0 : Kd.C k41 w A0 l0.length l0) (hc0 : l0.length ≤ c0) (hl : l0.length < 1172812402961) :
    Calls Try.prog 45 #[.slice A0 l0.length c0, .agg #[.string p.f0.f0, .int .i64 p.f0.f1.f0, .string p.f0.f1.f1, .string p.f0.f1.f2, .string p.f1.f0, .int .i64 p.f1.f1.f0, .string p.f1.f1.f1, .string p.f1.f1.f2, .string p.f2.f0, .int .i64 p.f2.f1.f0, .string p.f2.f1.f1, .string p.f2.f1.f2]] w fun e w' => ∃ v, e = .returned v ∧ Row w' v (matchR l0 p) ∧ Below w.heap.size w w' := by
  have e74 : ∀ args w, (callFunc 71 args).run Try.prog w = .ok (.enter 71 args) w := enters_of Try.func71 (by kernel_rfl) rfl
  have hclone := fun W (hC : Kd.C k41 W A0 l0.length l0) => clone_T.calls A0 c0 l0 l0 W hC hc0 (by unfold clone_T.f; rw [if_pos hl])
  have hdel := fun (W1 W : World) (pb : Nat) (hp : ∀ (c : Nat) (v : Value), (#[.string p.f0.f0, .int .i64 p.f0.f1.f0, .string p.f0.f1.f1, .string p.f0.f1.f2, .string p.f1.f0, .int .i64 p.f1.f1.f0, .string p.f1.f1.f1, .string p.f1.f1.f2, .string p.f2.f0, .int .i64 p.f2.f1.f0, .string p.f2.f1.f1, .string p.f2.f1.f2] : Array Value)[c]? = some v → W1.cell? ⟨pb, c, none⟩ = some v) (A : Option Addr) (cap : Nat) (hR : Kd.R k41 41 W W1.heap.size (fun _ => True) (.slice A l0.length cap) l0) (hB : Below W1.heap.size W1 W) =>
    delR_calls 71 #[.pointer (some ⟨pb, 0, none⟩)] (fun x => !fitsP x p) W1.heap.size W1 A cap l0 W e74 hR hB hB.size (fun x W2 _ hB2 => of1_calls x p W2 pb (fun c v h => (hB2.cell (World.block_lt_of_cell? W1 _ (hp c v h))).trans (hp c v h)))
  have hfil : matchR l0 p = l0.filter fun x => !!fitsP x p := by unfold matchR; congr 1; funext x; rw [Bool.not_not]
  rw [hfil]
  generalize (l0.filter fun x => !!fitsP x p) = res at hdel ⊢
  have HDEL := Aside0.mk hdel; have HCLONE := Aside0.mk hclone; have HR0 := Aside0.mk hr0; have HB := Aside0.mk (below_alloc (Below.refl w.heap.size w) (.cells #[.string p.f0.f0, .int .i64 p.f0.f1.f0, .string p.f0.f1.f1, .string p.f0.f1.f2, .string p.f1.f0, .int .i64 p.f1.f1.f0, .string p.f1.f1.f1, .string p.f1.f1.f2, .string p.f2.f0, .int .i64 p.f2.f1.f0, .string p.f2.f1.f1, .string p.f2.f1.f2] 51))
  have HP : Aside0 (∀ (c : Nat) (v : Value), (#[.string p.f0.f0, .int .i64 p.f0.f1.f0, .string p.f0.f1.f1, .string p.f0.f1.f2, .string p.f1.f0, .int .i64 p.f1.f1.f0, .string p.f1.f1.f1, .string p.f1.f1.f2, .string p.f2.f0, .int .i64 p.f2.f1.f0, .string p.f2.f1.f1, .string p.f2.f1.f2] : Array Value)[c]? = some v → (w.alloc (.cells #[.string p.f0.f0, .int .i64 p.f0.f1.f0, .string p.f0.f1.f1, .string p.f0.f1.f2, .string p.f1.f0, .int .i64 p.f1.f1.f0, .string p.f1.f1.f1, .string p.f1.f1.f2, .string p.f2.f0, .int .i64 p.f2.f1.f0, .string p.f2.f1.f1, .string p.f2.f1.f2] 51)).cell? ⟨w.heap.size, c, none⟩ = some v) := ⟨fun c v h => (blk_cell (blk_new w _) c).trans h⟩
  clear hdel hclone hr0 hfil hl
  go_enter Try.func45, Try.ntmps45
  go_wp2_with (first | (go_at_call 62; refine (HCLONE.out _ (Kd.C_alloc HR0.out _)).mono ?_; rintro e w' ⟨v1, rfl, hRc, hbb⟩; obtain ⟨Ac, cc, ec⟩ := Kd.R_slice hRc; subst ec; have HRC := Aside0.mk hRc; have HB1 := Aside0.mk hbb; clear hRc hbb) | (go_at_call 70; refine (HDEL.out _ _ _ HP.out Ac cc HRC.out HB1.out).mono ?_; rintro e w' ⟨⟨v2, rfl, hRd⟩, hbb, _⟩; have HRD := Aside0.mk hRd; have HB2 := Aside0.mk hbb; clear hRd hbb))
  go_ret
  exact ⟨_, rfl, Row.of_R HRD.out, below_step HB.out HB2.out⟩
def matchM (l : List S41) (p : S51) : List S41 × Option Int := match sortedR l with | some e => ([], some e) | none => match varsErr p with | some e => ([], some e) | none => (matchR l p, none)
set_option maxHeartbeats 4000000 in
set_option maxRecDepth 100000 in
theorem match_calls (A0 : Option Addr) (c0 : Nat) (l0 : List S41) (p : S51) (w : World) (hr0 : Kd.C k41 w A0 l0.length l0) (hc0 : l0.length ≤ c0) (hs : ∀ s : ByteArray, s = p.f0.f0 ∨ s = p.f1.f0 ∨ s = p.f2.f0 → s.size ≤ 9223372036854775807) :
    Calls Try.prog 18 #[.slice A0 l0.length c0, .agg #[.string p.f0.f0, .int .i64 p.f0.f1.f0, .string p.f0.f1.f1, .string p.f0.f1.f2, .string p.f1.f0, .int .i64 p.f1.f1.f0, .string p.f1.f1.f1, .string p.f1.f1.f2, .string p.f2.f0, .int .i64 p.f2.f1.f0, .string p.f2.f1.f1, .string p.f2.f1.f2]] w fun e w' => ∃ v, e = .returned (.tuple #[v, errW (matchM l0 p).2]) ∧ Row w' v (matchM l0 p).1 ∧ Below w.heap.size w w' := by
  have HR0 := Aside0.mk hr0; have HB := Aside0.mk (below_alloc (Below.refl w.heap.size w) (.cells #[.string p.f0.f0, .int .i64 p.f0.f1.f0, .string p.f0.f1.f1, .string p.f0.f1.f2, .string p.f1.f0, .int .i64 p.f1.f1.f0, .string p.f1.f1.f1, .string p.f1.f1.f2, .string p.f2.f0, .int .i64 p.f2.f1.f0, .string p.f2.f1.f1, .string p.f2.f1.f2] 51))
  have HC0 : Aside0 (∀ W, Below (w.heap.size + 1) (w.alloc (.cells #[.string p.f0.f0, .int .i64 p.f0.f1.f0, .string p.f0.f1.f1, .string p.f0.f1.f2, .string p.f1.f0, .int .i64 p.f1.f1.f0, .string p.f1.f1.f1, .string p.f1.f1.f2, .string p.f2.f0, .int .i64 p.f2.f1.f0, .string p.f2.f1.f1, .string p.f2.f1.f2] 51)) W → W.cell? ⟨w.heap.size, 0, none⟩ = some (.string p.f0.f0)) := ⟨fun W h => (h.cell (p := ⟨w.heap.size, 0, none⟩) (Nat.lt_succ_self _)).trans ((blk_cell (blk_new w _) 0).trans rfl)⟩
  have HC1 : Aside0 (∀ W, Below (w.heap.size + 1) (w.alloc (.cells #[.string p.f0.f0, .int .i64 p.f0.f1.f0, .string p.f0.f1.f1, .string p.f0.f1.f2, .string p.f1.f0, .int .i64 p.f1.f1.f0, .string p.f1.f1.f1, .string p.f1.f1.f2, .string p.f2.f0, .int .i64 p.f2.f1.f0, .string p.f2.f1.f1, .string p.f2.f1.f2] 51)) W → W.cell? ⟨w.heap.size, 1, none⟩ = some (.int .i64 p.f0.f1.f0)) := ⟨fun W h => (h.cell (p := ⟨w.heap.size, 1, none⟩) (Nat.lt_succ_self _)).trans ((blk_cell (blk_new w _) 1).trans rfl)⟩
  have HC2 : Aside0 (∀ W, Below (w.heap.size + 1) (w.alloc (.cells #[.string p.f0.f0, .int .i64 p.f0.f1.f0, .string p.f0.f1.f1, .string p.f0.f1.f2, .string p.f1.f0, .int .i64 p.f1.f1.f0, .string p.f1.f1.f1, .string p.f1.f1.f2, .string p.f2.f0, .int .i64 p.f2.f1.f0, .string p.f2.f1.f1, .string p.f2.f1.f2] 51)) W → W.cell? ⟨w.heap.size, 2, none⟩ = some (.string p.f0.f1.f1)) := ⟨fun W h => (h.cell (p := ⟨w.heap.size, 2, none⟩) (Nat.lt_succ_self _)).trans ((blk_cell (blk_new w _) 2).trans rfl)⟩
  have HC3 : Aside0 (∀ W, Below (w.heap.size + 1) (w.alloc (.cells #[.string p.f0.f0, .int .i64 p.f0.f1.f0, .string p.f0.f1.f1, .string p.f0.f1.f2, .string p.f1.f0, .int .i64 p.f1.f1.f0, .string p.f1.f1.f1, .string p.f1.f1.f2, .string p.f2.f0, .int .i64 p.f2.f1.f0, .string p.f2.f1.f1, .string p.f2.f1.f2] 51)) W → W.cell? ⟨w.heap.size, 3, none⟩ = some (.string p.f0.f1.f2)) := ⟨fun W h => (h.cell (p := ⟨w.heap.size, 3, none⟩) (Nat.lt_succ_self _)).trans ((blk_cell (blk_new w _) 3).trans rfl)⟩
  have HC4 : Aside0 (∀ W, Below (w.heap.size + 1) (w.alloc (.cells #[.string p.f0.f0, .int .i64 p.f0.f1.f0, .string p.f0.f1.f1, .string p.f0.f1.f2, .string p.f1.f0, .int .i64 p.f1.f1.f0, .string p.f1.f1.f1, .string p.f1.f1.f2, .string p.f2.f0, .int .i64 p.f2.f1.f0, .string p.f2.f1.f1, .string p.f2.f1.f2] 51)) W → W.cell? ⟨w.heap.size, 4, none⟩ = some (.string p.f1.f0)) := ⟨fun W h => (h.cell (p := ⟨w.heap.size, 4, none⟩) (Nat.lt_succ_self _)).trans ((blk_cell (blk_new w _) 4).trans rfl)⟩
  have HC5 : Aside0 (∀ W, Below (w.heap.size + 1) (w.alloc (.cells #[.string p.f0.f0, .int .i64 p.f0.f1.f0, .string p.f0.f1.f1, .string p.f0.f1.f2, .string p.f1.f0, .int .i64 p.f1.f1.f0, .string p.f1.f1.f1, .string p.f1.f1.f2, .string p.f2.f0, .int .i64 p.f2.f1.f0, .string p.f2.f1.f1, .string p.f2.f1.f2] 51)) W → W.cell? ⟨w.heap.size, 5, none⟩ = some (.int .i64 p.f1.f1.f0)) := ⟨fun W h => (h.cell (p := ⟨w.heap.size, 5, none⟩) (Nat.lt_succ_self _)).trans ((blk_cell (blk_new w _) 5).trans rfl)⟩
  have HC6 : Aside0 (∀ W, Below (w.heap.size + 1) (w.alloc (.cells #[.string p.f0.f0, .int .i64 p.f0.f1.f0, .string p.f0.f1.f1, .string p.f0.f1.f2, .string p.f1.f0, .int .i64 p.f1.f1.f0, .string p.f1.f1.f1, .string p.f1.f1.f2, .string p.f2.f0, .int .i64 p.f2.f1.f0, .string p.f2.f1.f1, .string p.f2.f1.f2] 51)) W → W.cell? ⟨w.heap.size, 6, none⟩ = some (.string p.f1.f1.f1)) := ⟨fun W h => (h.cell (p := ⟨w.heap.size, 6, none⟩) (Nat.lt_succ_self _)).trans ((blk_cell (blk_new w _) 6).trans rfl)⟩
  have HC7 : Aside0 (∀ W, Below (w.heap.size + 1) (w.alloc (.cells #[.string p.f0.f0, .int .i64 p.f0.f1.f0, .string p.f0.f1.f1, .string p.f0.f1.f2, .string p.f1.f0, .int .i64 p.f1.f1.f0, .string p.f1.f1.f1, .string p.f1.f1.f2, .string p.f2.f0, .int .i64 p.f2.f1.f0, .string p.f2.f1.f1, .string p.f2.f1.f2] 51)) W → W.cell? ⟨w.heap.size, 7, none⟩ = some (.string p.f1.f1.f2)) := ⟨fun W h => (h.cell (p := ⟨w.heap.size, 7, none⟩) (Nat.lt_succ_self _)).trans ((blk_cell (blk_new w _) 7).trans rfl)⟩
  have HC8 : Aside0 (∀ W, Below (w.heap.size + 1) (w.alloc (.cells #[.string p.f0.f0, .int .i64 p.f0.f1.f0, .string p.f0.f1.f1, .string p.f0.f1.f2, .string p.f1.f0, .int .i64 p.f1.f1.f0, .string p.f1.f1.f1, .string p.f1.f1.f2, .string p.f2.f0, .int .i64 p.f2.f1.f0, .string p.f2.f1.f1, .string p.f2.f1.f2] 51)) W → W.cell? ⟨w.heap.size, 8, none⟩ = some (.string p.f2.f0)) := ⟨fun W h => (h.cell (p := ⟨w.heap.size, 8, none⟩) (Nat.lt_succ_self _)).trans ((blk_cell (blk_new w _) 8).trans rfl)⟩
  have HC9 : Aside0 (∀ W, Below (w.heap.size + 1) (w.alloc (.cells #[.string p.f0.f0, .int .i64 p.f0.f1.f0, .string p.f0.f1.f1, .string p.f0.f1.f2, .string p.f1.f0, .int .i64 p.f1.f1.f0, .string p.f1.f1.f1, .string p.f1.f1.f2, .string p.f2.f0, .int .i64 p.f2.f1.f0, .string p.f2.f1.f1, .string p.f2.f1.f2] 51)) W → W.cell? ⟨w.heap.size, 9, none⟩ = some (.int .i64 p.f2.f1.f0)) := ⟨fun W h => (h.cell (p := ⟨w.heap.size, 9, none⟩) (Nat.lt_succ_self _)).trans ((blk_cell (blk_new w _) 9).trans rfl)⟩
  have HC10 : Aside0 (∀ W, Below (w.heap.size + 1) (w.alloc (.cells #[.string p.f0.f0, .int .i64 p.f0.f1.f0, .string p.f0.f1.f1, .string p.f0.f1.f2, .string p.f1.f0, .int .i64 p.f1.f1.f0, .string p.f1.f1.f1, .string p.f1.f1.f2, .string p.f2.f0, .int .i64 p.f2.f1.f0, .string p.f2.f1.f1, .string p.f2.f1.f2] 51)) W → W.cell? ⟨w.heap.size, 10, none⟩ = some (.string p.f2.f1.f1)) := ⟨fun W h => (h.cell (p := ⟨w.heap.size, 10, none⟩) (Nat.lt_succ_self _)).trans ((blk_cell (blk_new w _) 10).trans rfl)⟩
  have HC11 : Aside0 (∀ W, Below (w.heap.size + 1) (w.alloc (.cells #[.string p.f0.f0, .int .i64 p.f0.f1.f0, .string p.f0.f1.f1, .string p.f0.f1.f2, .string p.f1.f0, .int .i64 p.f1.f1.f0, .string p.f1.f1.f1, .string p.f1.f1.f2, .string p.f2.f0, .int .i64 p.f2.f1.f0, .string p.f2.f1.f1, .string p.f2.f1.f2] 51)) W → W.cell? ⟨w.heap.size, 11, none⟩ = some (.string p.f2.f1.f2)) := ⟨fun W h => (h.cell (p := ⟨w.heap.size, 11, none⟩) (Nat.lt_succ_self _)).trans ((blk_cell (blk_new w _) 11).trans rfl)⟩
  have hS := fun W (hC : Kd.C k41 W A0 l0.length l0) => sorted_calls A0 c0 l0 W hC hc0
  have hV := fun W => vars_calls p W hs
  unfold aggP at hV
  obtain ⟨r, hr⟩ : ∃ r, sortedR l0 = r := ⟨_, rfl⟩
  rw [hr] at hS
  have HS := Aside0.mk hS
  cases r with
  | some n =>
    rw [show matchM l0 p = ([], some n) from by unfold matchM; rw [hr]]
    clear hS hV hr hr0
    go_enter Try.func18, Try.ntmps18
    go_wp2_with (go_at_call 19; refine (HS.out _ (Kd.C_alloc HR0.out _)).mono ?_; rintro e w' ⟨he, hb⟩; rw [errW_some] at he; subst he; have hW : Below (w.heap.size + 1) (w.alloc _) w' := hb.mono (by rw [alloc_size1]; exact Nat.le_refl _); have c0 := HC0.out _ hW; have c1 := HC1.out _ hW; have c2 := HC2.out _ hW; have c3 := HC3.out _ hW; have c4 := HC4.out _ hW; have c5 := HC5.out _ hW; have c6 := HC6.out _ hW; have c7 := HC7.out _ hW; have c8 := HC8.out _ hW; have c9 := HC9.out _ hW; have c10 := HC10.out _ hW; have c11 := HC11.out _ hW; have HW1 := Aside0.mk hW; have HB1 := Aside0.mk (below_step HB.out hb); clear hb hW)
    go_ret2
    exact ⟨_, rfl, Row.nil _, HB1.out⟩
  | none =>
    obtain ⟨q, hq⟩ : ∃ q, varsErr p = q := ⟨_, rfl⟩
    rw [hq] at hV
    have HV := Aside0.mk hV
    cases q with
    | some n =>
      rw [show matchM l0 p = ([], some n) from by unfold matchM; rw [hr, hq]]
      clear hS hV hr hq hr0
      go_enter Try.func18, Try.ntmps18
      go_wp2_with (first | (go_at_call 19; refine (HS.out _ (Kd.C_alloc HR0.out _)).mono ?_; rintro e w' ⟨he, hb⟩; rw [errW_none] at he; subst he; have hW : Below (w.heap.size + 1) (w.alloc _) w' := hb.mono (by rw [alloc_size1]; exact Nat.le_refl _); have c0 := HC0.out _ hW; have c1 := HC1.out _ hW; have c2 := HC2.out _ hW; have c3 := HC3.out _ hW; have c4 := HC4.out _ hW; have c5 := HC5.out _ hW; have c6 := HC6.out _ hW; have c7 := HC7.out _ hW; have c8 := HC8.out _ hW; have c9 := HC9.out _ hW; have c10 := HC10.out _ hW; have c11 := HC11.out _ hW; have HW1 := Aside0.mk hW; have HB1 := Aside0.mk (below_step HB.out hb); clear hb hW) | (go_at_call 44; refine (HV.out _).mono ?_; rintro e w' ⟨⟨v, he⟩, hb⟩; rw [errW_some] at he; subst he; have hW : Below (w.heap.size + 1) (w.alloc _) w' := HW1.out.trans (hb.mono (by have := HW1.out.size; rw [alloc_size1] at this; exact this)); clear c0 c1 c2 c3 c4 c5 c6 c7 c8 c9 c10 c11; have c0 := HC0.out _ hW; have c1 := HC1.out _ hW; have c2 := HC2.out _ hW; have c3 := HC3.out _ hW; have c4 := HC4.out _ hW; have c5 := HC5.out _ hW; have c6 := HC6.out _ hW; have c7 := HC7.out _ hW; have c8 := HC8.out _ hW; have c9 := HC9.out _ hW; have c10 := HC10.out _ hW; have c11 := HC11.out _ hW; have HB2 := Aside0.mk (below_step HB1.out hb); clear hb hW))
      go_ret2
      exact ⟨_, rfl, Row.nil _, HB2.out⟩
    | none =>
      rw [show matchM l0 p = (matchR l0 p, none) from by unfold matchM; rw [hr, hq]]
      have hO := fun W hC => of_calls A0 c0 l0 p W hC hc0 (by have := sortedR_len hr; omega)
      generalize matchR l0 p = u at hO ⊢
      have HO := Aside0.mk hO
      clear hS hV hr hq hr0 hO
      go_enter Try.func18, Try.ntmps18
      go_wp2_with (first | (go_at_call 19; refine (HS.out _ (Kd.C_alloc HR0.out _)).mono ?_; rintro e w' ⟨he, hb⟩; rw [errW_none] at he; subst he; have hW : Below (w.heap.size + 1) (w.alloc _) w' := hb.mono (by rw [alloc_size1]; exact Nat.le_refl _); have c0 := HC0.out _ hW; have c1 := HC1.out _ hW; have c2 := HC2.out _ hW; have c3 := HC3.out _ hW; have c4 := HC4.out _ hW; have c5 := HC5.out _ hW; have c6 := HC6.out _ hW; have c7 := HC7.out _ hW; have c8 := HC8.out _ hW; have c9 := HC9.out _ hW; have c10 := HC10.out _ hW; have c11 := HC11.out _ hW; have HW1 := Aside0.mk hW; have HB1 := Aside0.mk (below_step HB.out hb); clear hb hW) | (go_at_call 44; refine (HV.out _).mono ?_; rintro e w' ⟨⟨v, he⟩, hb⟩; rw [errW_none] at he; subst he; have hW : Below (w.heap.size + 1) (w.alloc _) w' := HW1.out.trans (hb.mono (by have := HW1.out.size; rw [alloc_size1] at this; exact this)); clear c0 c1 c2 c3 c4 c5 c6 c7 c8 c9 c10 c11; have c0 := HC0.out _ hW; have c1 := HC1.out _ hW; have c2 := HC2.out _ hW; have c3 := HC3.out _ hW; have c4 := HC4.out _ hW; have c5 := HC5.out _ hW; have c6 := HC6.out _ hW; have c7 := HC7.out _ hW; have c8 := HC8.out _ hW; have c9 := HC9.out _ hW; have c10 := HC10.out _ hW; have c11 := HC11.out _ hW; have HB2 := Aside0.mk (below_step HB1.out hb); clear hb hW) | (go_at_call 45; refine (HO.out _ (Kd.C_below HR0.out HB2.out)).mono ?_; rintro e w' ⟨v2, rfl, hv, hb⟩; obtain ⟨Au, cu, rfl, hCu, hcu⟩ := hv; have HB3 := Aside0.mk (below_step HB2.out hb); have HU := Aside0.mk (And.intro hCu hcu); clear hb hCu hcu))
      go_ret2
      exact ⟨_, rfl, ⟨_, _, rfl, HU.out.1, HU.out.2⟩, HB3.out⟩
end Go.Proofs.Ytdjamphmndbmjaa.M

/- Package set by hand: Both, Has; stratasame.Triples. -/
namespace Go.Proofs.Ytdjamphmndbmjaa.M
open Go.RowKit Go.Proofs.YtdjamphmndbmjaaW.PrintWords Go.Proofs.YtdjamphmndbmjaaW.PrintLast Go.Proofs.YtdjamphmndbmjaaW.PrintMore
set_option linter.unusedVariables false
set_option linter.unusedSimpArgs false

set_option maxHeartbeats 4000000 in
set_option maxRecDepth 100000 in
theorem both_calls (A0 A1 : Option Addr) (c0 c1 : Nat) (l0 l1 : List S41) (w : World) (hr0 : Kd.C k41 w A0 l0.length l0) (hc0 : l0.length ≤ c0) (hr1 : Kd.C k41 w A1 l1.length l1) (hc1 : l1.length ≤ c1) :
    Calls Try.prog 23 #[.slice A0 l0.length c0, .slice A1 l1.length c1] w fun e w' => ∃ v, e = .returned (.tuple #[v, errW (bothR l0 l1 true).2]) ∧ Row w' v (bothR l0 l1 true).1 ∧ Below w.heap.size w w' := by
  have HR0 := Aside0.mk hr0
  have HR1 := Aside0.mk hr1
  have HB := Aside0.mk (Below.refl w.heap.size w)
  have hright := fun W g0 h0 h1 hC0 hC1 => right2_calls g0 A0 A1 c0 c1 l0 l1 W h0 h1 hC0 hC1 hc0 hc1
  obtain ⟨r, hr⟩ : ∃ r, right2 l0 l1 = r := ⟨_, rfl⟩
  rw [hr] at hright
  cases r with
  | some n =>
    have hj : bothR l0 l1 true = ([], some n) := by unfold bothR; rw [hr]
    rw [hj]
    have HRT := Aside0.mk hright
    clear hr0 hr1 hright hr hj
    go_enter Try.func23, Try.ntmps23
    go_wp2_with (go_at_call 47; refine (HRT.out _ _ (cells2 w A0 A1 c0 c1 _ _ _).1 (cells2 w A0 A1 c0 c1 _ _ _).2 (Kd.C_alloc HR0.out _) (Kd.C_alloc HR1.out _)).mono ?_; rintro e w' ⟨he, hb⟩; rw [errW_some] at he; subst he; have HB1 := Aside0.mk hb; clear hb)
    go_ret2
    exact ⟨_, rfl, Row.nil _, below_step (below_alloc HB.out _) HB1.out⟩
  | none =>
    obtain ⟨hs0, hs1⟩ := right2_none.1 hr
    have hl0 := sortedR_len hs0
    have hun := fun W hC0 hC1 => part_calls A0 c0 l0 A1 c1 l1 true W hC0 hc0 hC1 hc1 (by omega) hs1
    have hj : bothR l0 l1 true = (partR l0 l1 true, none) := by unfold bothR; rw [hr]
    rw [hj]
    generalize partR l0 l1 true = u at hun ⊢
    have HRT := Aside0.mk hright
    have HUN := Aside0.mk hun
    clear hr0 hr1 hright hr hj hun hs0 hs1 hl0
    go_enter Try.func23, Try.ntmps23
    go_wp2_with (first | (go_at_call 47; refine (HRT.out _ _ (cells2 w A0 A1 c0 c1 _ _ _).1 (cells2 w A0 A1 c0 c1 _ _ _).2 (Kd.C_alloc HR0.out _) (Kd.C_alloc HR1.out _)).mono ?_; rintro e w' ⟨he, hb⟩; rw [errW_none] at he; subst he; have HB1 := Aside0.mk (below_step (below_alloc HB.out _) hb); clear hb) | (go_at_call 49; refine (HUN.out _ (Kd.C_below HR0.out HB1.out) (Kd.C_below HR1.out HB1.out)).mono ?_; rintro e w' ⟨v, rfl, hv, hb⟩; obtain ⟨Au, cu, rfl, hCu, hcu⟩ := hv; have HB2 := Aside0.mk (below_step HB1.out hb); have HU := Aside0.mk (And.intro hCu hcu); clear hb hCu hcu))
    go_ret2
    exact ⟨_, rfl, ⟨_, _, rfl, HU.out.1, HU.out.2⟩, HB2.out⟩
theorem cells1 (w : World) (A0 : Option Addr) (c0 n0 : Nat) (T : Nat) : (w.alloc (.cells #[.slice A0 n0 c0] T)).cell? ⟨w.heap.size, 0, none⟩ = some (.slice A0 n0 c0) := (blk_cell (blk_new w _) 0).trans rfl
theorem cells1b (w : World) (o : Obj) (A0 : Option Addr) (c0 n0 : Nat) (T : Nat) : ((w.alloc o).alloc (.cells #[.slice A0 n0 c0] T)).cell? ⟨w.heap.size + 1, 0, none⟩ = some (.slice A0 n0 c0) := by rw [← alloc_size1 w o]; exact cells1 _ _ _ _ _
set_option maxHeartbeats 4000000 in
set_option maxRecDepth 100000 in
theorem has_calls (A0 : Option Addr) (c0 : Nat) (l0 : List S41) (x : S41) (w : World) (hr0 : Kd.C k41 w A0 l0.length l0) (hc0 : l0.length ≤ c0) :
    Calls Try.prog 22 #[.slice A0 l0.length c0, .agg #[.int .i64 x.f0.f0, .string x.f0.f1, .string x.f0.f2, .int .i64 x.f1.f0, .string x.f1.f1, .string x.f1.f2, .int .i64 x.f2.f0, .string x.f2.f1, .string x.f2.f2]] w fun e w' => e = .returned (.tuple #[.bool (hasR l0 x).1, errW (hasR l0 x).2]) ∧ Below w.heap.size w w' := by
  have HR0 := Aside0.mk hr0
  have HB := Aside0.mk (below_alloc (Below.refl w.heap.size w) (.cells (celR x) 41))
  have hright := fun W g0 h0 hC0 => right1_calls g0 A0 c0 l0 W h0 hC0 hc0
  have hchk := fun W => checkR_calls x W
  obtain ⟨r, hr⟩ : ∃ r, sortedR l0 = r := ⟨_, rfl⟩
  rw [hr] at hright
  have hbx := fun (W : World) (hW : Below (w.heap.size + 1) (w.alloc (.cells (celR x) 41)) W) (c : Nat) (v : Value) (h : (celR x)[c]? = some v) => (Below.cell hW (p := ⟨w.heap.size, c, none⟩) (Nat.lt_succ_self _)).trans ((blk_cell (blk_new w (.cells (celR x) 41)) c).trans h)
  have HBX := Aside0.mk hbx
  clear hbx
  cases r with
  | some n =>
    have hj : hasR l0 x = (false, some n) := by unfold hasR; rw [hr]
    rw [hj]
    have HRT := Aside0.mk hright
    clear hr0 hright hr hj hchk
    go_enter Try.func22, Try.ntmps22
    go_wp2_with (go_at_call 47; refine (HRT.out _ _ (cells1b w _ A0 c0 _ _) (Kd.C_alloc (Kd.C_alloc HR0.out _) _)).mono ?_; rintro e w' ⟨he, hb⟩; rw [errW_some] at he; subst he; have HB1 := Aside0.mk (below_step (below_alloc HB.out _) hb); clear hb)
    go_ret2
    exact ⟨rfl, HB1.out⟩
  | none =>
    obtain ⟨q, hq⟩ : ∃ q, chkR x = q := ⟨_, rfl⟩
    rw [hq] at hchk
    cases q with
    | some n =>
      have hj : hasR l0 x = (false, some n) := by unfold hasR; rw [hr, hq]
      rw [hj]
      have HRT := Aside0.mk hright
      have HCK := Aside0.mk hchk
      clear hr0 hright hr hj hchk hq
      go_enter Try.func22, Try.ntmps22
      go_wp2_with (first | (go_at_call 47; refine (HRT.out _ _ (cells1b w _ A0 c0 _ _) (Kd.C_alloc (Kd.C_alloc HR0.out _) _)).mono ?_; rintro e w' ⟨he, hb⟩; rw [errW_none] at he; subst he; have HB1 := Aside0.mk (below_step (below_alloc HB.out _) hb); have hW := (Below.alloc (Below.refl (w.heap.size + 1) (w.alloc (.cells (celR x) 41))) (by rw [alloc_size1]; exact Nat.le_refl _) _).trans (hb.mono (by rw [alloc_size1, alloc_size1]; omega)); have HW := Aside0.mk hW; have b0 := HBX.out _ hW 0 (.int .i64 x.f0.f0) rfl; have b1 := HBX.out _ hW 1 (.string x.f0.f1) rfl; have b2 := HBX.out _ hW 2 (.string x.f0.f2) rfl; have b3 := HBX.out _ hW 3 (.int .i64 x.f1.f0) rfl; have b4 := HBX.out _ hW 4 (.string x.f1.f1) rfl; have b5 := HBX.out _ hW 5 (.string x.f1.f2) rfl; have b6 := HBX.out _ hW 6 (.int .i64 x.f2.f0) rfl; have b7 := HBX.out _ hW 7 (.string x.f2.f1) rfl; have b8 := HBX.out _ hW 8 (.string x.f2.f2) rfl; clear hb hW) | (go_at_call 43; refine (HCK.out _).mono ?_; rintro e w' ⟨he, hb⟩; rw [errW_some] at he; subst he; have HB2 := Aside0.mk (below_step HB1.out hb); clear hb))
      go_ret2
      exact ⟨rfl, HB2.out⟩
    | none =>
      have hj : hasR l0 x = (inR l0 x, none) := by unfold hasR; rw [hr, hq]
      rw [hj]
      have hin := fun W hC => inR_calls A0 c0 l0 x W hC hr
      generalize inR l0 x = b at hin ⊢
      have HRT := Aside0.mk hright
      have HCK := Aside0.mk hchk
      have HIN := Aside0.mk hin
      clear hr0 hright hr hj hchk hq hin
      go_enter Try.func22, Try.ntmps22
      go_wp2_with (first | (go_at_call 47; refine (HRT.out _ _ (cells1b w _ A0 c0 _ _) (Kd.C_alloc (Kd.C_alloc HR0.out _) _)).mono ?_; rintro e w' ⟨he, hb⟩; rw [errW_none] at he; subst he; have HB1 := Aside0.mk (below_step (below_alloc HB.out _) hb); have hW := (Below.alloc (Below.refl (w.heap.size + 1) (w.alloc (.cells (celR x) 41))) (by rw [alloc_size1]; exact Nat.le_refl _) _).trans (hb.mono (by rw [alloc_size1, alloc_size1]; omega)); have HW := Aside0.mk hW; have b0 := HBX.out _ hW 0 (.int .i64 x.f0.f0) rfl; have b1 := HBX.out _ hW 1 (.string x.f0.f1) rfl; have b2 := HBX.out _ hW 2 (.string x.f0.f2) rfl; have b3 := HBX.out _ hW 3 (.int .i64 x.f1.f0) rfl; have b4 := HBX.out _ hW 4 (.string x.f1.f1) rfl; have b5 := HBX.out _ hW 5 (.string x.f1.f2) rfl; have b6 := HBX.out _ hW 6 (.int .i64 x.f2.f0) rfl; have b7 := HBX.out _ hW 7 (.string x.f2.f1) rfl; have b8 := HBX.out _ hW 8 (.string x.f2.f2) rfl; clear hb hW) | (go_at_call 43; refine (HCK.out _).mono ?_; rintro e w' ⟨he, hb⟩; rw [errW_none] at he; subst he; have HB2 := Aside0.mk (below_step HB1.out hb); have hW := HW.out.trans (hb.mono (by have := HW.out.size; rw [alloc_size1] at this; exact this)); have b0 := HBX.out _ hW 0 (.int .i64 x.f0.f0) rfl; have b1 := HBX.out _ hW 1 (.string x.f0.f1) rfl; have b2 := HBX.out _ hW 2 (.string x.f0.f2) rfl; have b3 := HBX.out _ hW 3 (.int .i64 x.f1.f0) rfl; have b4 := HBX.out _ hW 4 (.string x.f1.f1) rfl; have b5 := HBX.out _ hW 5 (.string x.f1.f2) rfl; have b6 := HBX.out _ hW 6 (.int .i64 x.f2.f0) rfl; have b7 := HBX.out _ hW 7 (.string x.f2.f1) rfl; have b8 := HBX.out _ hW 8 (.string x.f2.f2) rfl; clear hb hW) | (go_at_call 48; refine (HIN.out _ (Kd.C_below HR0.out HB2.out)).mono ?_; rintro e w' ⟨rfl, hb⟩; have HB3 := Aside0.mk (below_step HB2.out hb); clear hb))
      go_ret2
      exact ⟨rfl, HB3.out⟩
end Go.Proofs.Ytdjamphmndbmjaa.M

/- stratasame.Triples by hand. -/
namespace Go.Proofs.Ytdjamphmndbmjaa.M
open Go.RowKit Go.Proofs.YtdjamphmndbmjaaW.PrintWords Go.Proofs.YtdjamphmndbmjaaW.PrintLast Go.Proofs.YtdjamphmndbmjaaW.PrintMore
set_option linter.unusedVariables false
set_option linter.unusedSimpArgs false

attribute [local go_sem high] eqTR
set_option maxHeartbeats 4000000 in
set_option maxRecDepth 100000 in
theorem same_calls (A0 A1 : Option Addr) (c0 c1 : Nat) (l0 l1 : List S41) (w : World) (hr0 : Kd.C k41 w A0 l0.length l0) (hr1 : Kd.C k41 w A1 l1.length l1) :
    Calls Try.prog 20 #[.slice A0 l0.length c0, .slice A1 l1.length c1] w fun e w' => e = .returned (.bool (decide (l0 = l1))) ∧ ∃ q, w' = w.drewN q := by
  have hbig : l0.length ≤ 9223372036854775807 := by have := hr0.2.1; simpa [maxLen] using this
  have hu41 := Try.underlying41
  by_cases hlen : l0.length = l1.length
  · have HR0 := Aside0.mk hr0
    have HR1 := Aside0.mk hr1
    have hlz : ((l0.length : Int) != (l1.length : Int)) = false := by rw [hlen]; simp
    have hlz2 : (l0.length == l1.length) = true := by simpa using hlen
    obtain ⟨n, hn⟩ : ∃ n, l0.length = n := ⟨_, rfl⟩
    have hn1 : l1.length = n := by omega
    rw [hn, hn1] at hlz hlz2
    have HN := Aside0.mk hn
    have HN1 := Aside0.mk hn1
    rw [hn] at hbig
    rw [hn, hn1]
    clear hr0 hr1 hlen hn hn1
    go_enter Try.func20, Try.ntmps20
    go_wp2
    repeat (go_quiet (fail); try go_wp2)
    go_loopg [5] n (fun gg s5 wr => ∃ i : Nat, i ≤ n ∧ n - i ≤ gg ∧ s5 = .int .i64 i ∧ Aside0 (l0.take i = l1.take i) ∧ ∃ q, wr = w.drewN q)
    case atStart => exact ⟨0, by omega, by omega, rfl, ⟨rfl⟩, by first | exact ⟨0, rfl⟩ | exact ⟨_, rfl⟩⟩
    case round =>
      obtain ⟨i, hin, hgg, rfl, HT, q, rfl⟩ := hrel
      by_cases hlt : i < n
      · have hltz : (i : Int) < (n : Int) := by omega
        have h0l : i < l0.length := by rw [HN.out]; exact hlt
        have h1l : i < l1.length := by rw [HN1.out]; exact hlt
        obtain ⟨ad0, e0, a0, a1, a2, a3, a4, a5, a6, a7, a8⟩ := at_T41 HR0.out (i : Int) (by omega) (by omega)
        obtain ⟨ad1, e1, b0, b1, b2, b3, b4, b5, b6, b7, b8⟩ := at_T41 HR1.out (i : Int) (by omega) (by omega)
        subst e0; subst e1
        rw [rd_T41_at l0 i h0l, Int.toNat_natCast] at a0 a1 a2 a3 a4 a5 a6 a7 a8
        rw [rd_T41_at l1 i h1l, Int.toNat_natCast] at b0 b1 b2 b3 b4 b5 b6 b7 b8
        have ht0 := take_one l0 i h0l
        have ht1 := take_one l1 i h1l
        have hd : ∀ h : l0 = l1, l0[i] = l1[i] := fun h => by subst h; rfl
        obtain ⟨x, hx⟩ : ∃ x, l0[i] = x := ⟨_, rfl⟩
        obtain ⟨y, hy⟩ : ∃ y, l1[i] = y := ⟨_, rfl⟩
        rw [hx] at a0 a1 a2 a3 a4 a5 a6 a7 a8 ht0 hd
        rw [hy] at b0 b1 b2 b3 b4 b5 b6 b7 b8 ht1 hd
        have HT0 := Aside0.mk ht0
        have HT1 := Aside0.mk ht1
        have HD := Aside0.mk hd
        have heq := eqE_decide x y
        clear ht0 ht1 hd hx hy h0l h1l
        by_cases hxy : x = y
        · rw [decide_eq_true hxy] at heq
          have HXY := Aside0.mk hxy
          clear hxy
          go_wp2
          repeat (go_quiet (fail); try go_wp2)
          go_roundg (n - (i + 1))
          case measure => omega
          case rel => exact ⟨i + 1, by omega, Nat.le_refl _, by go_num, ⟨by rw [HT0.out, HT1.out, HT.out, HXY.out]⟩, _, rfl⟩
        · rw [decide_eq_false hxy] at heq
          have HXY := Aside0.mk hxy
          clear hxy
          go_wp2
          repeat (go_quiet (fail); try go_wp2)
          go_ret
          exact ⟨by rw [decide_eq_false (fun h => HXY.out (HD.out h))]; rfl, _, World.drewN_drewN _ _ _⟩
      · have hltz : ¬ (i : Int) < (n : Int) := by omega
        obtain rfl : i = n := by omega
        go_wp2
        go_ret
        have ht := HT.out
        rw [List.take_of_length_le (by rw [HN.out]; exact Nat.le_refl _), List.take_of_length_le (by rw [HN1.out]; exact Nat.le_refl _)] at ht
        exact ⟨by rw [decide_eq_true ht]; rfl, _, rfl⟩
  · have hne : ¬ l0 = l1 := fun h => hlen (by rw [h])
    rw [decide_eq_false hne]
    have hlz : ((l0.length : Int) != (l1.length : Int)) = true := by rw [bne_iff_ne]; omega
    have hlz2 : (l0.length == l1.length) = false := by simpa using hlen
    clear hr0 hr1 hne
    go_enter Try.func20, Try.ntmps20
    go_wp2
    repeat (go_quiet (fail); try go_wp2)
    go_ret
    exact ⟨rfl, by first | exact ⟨0, rfl⟩ | exact ⟨_, rfl⟩⟩
end Go.Proofs.Ytdjamphmndbmjaa.M

/- Sets in plain words: what strict lists that have the same are, what the union and the parts have. No program in sight. -/
namespace Go.Proofs.Ytdjamphmndbmjaa.M
open Go.RowKit Go.Proofs.YtdjamphmndbmjaaW.PrintWords Go.Proofs.YtdjamphmndbmjaaW.PrintLast Go.Proofs.YtdjamphmndbmjaaW.PrintMore
set_option linter.unusedVariables false
set_option linter.unusedSimpArgs false

open Go.Lib
def Strict (l : List S41) : Prop := l.Pairwise fun a b => cmpR a b < 0
theorem cmp_irrefl (x : S41) : ¬ cmpR x x < 0 := by rw [(lawR.zero x x).2 rfl]; omega
theorem Strict.nodup {l : List S41} (h : Strict l) : l.Nodup := h.imp fun {a b} hab he => by subst he; exact cmp_irrefl _ hab
theorem strict_ext {l l' : List S41} (h : Strict l) (h' : Strict l') (hm : ∀ x, x ∈ l ↔ x ∈ l') : l = l' := by
  have hp : l.Perm l' := (List.perm_ext_iff_of_nodup h.nodup h'.nodup).2 hm
  exact hp.eq_of_pairwise (le := fun a b => cmpR a b < 0) (fun a b _ _ h1 h2 => absurd (lawR.trans a b a h1 h2) (cmp_irrefl a)) h h'
theorem sortedR_iff {l : List S41} : sortedR l = none ↔ l.length ≤ 200 ∧ (∀ x ∈ l, chkR x = none) ∧ Strict l := by
  refine ⟨fun h => sortedR_none h, fun ⟨h1, h2, h3⟩ => ?_⟩
  unfold sortedR
  rw [if_neg (by omega)]
  have : ∀ (l : List S41) (p : Option S41), (∀ x ∈ l, chkR x = none) → Strict l → (∀ q, p = some q → ∀ x ∈ l, cmpR q x < 0) → sortedFrom p l = none := by
    intro l
    induction l with
    | nil => intro p _ _ _; cases p <;> rfl
    | cons t l ih =>
      intro p hc hs hp
      have ht := hc t List.mem_cons_self
      have hrec := ih (some t) (fun x hx => hc x (List.mem_cons_of_mem _ hx)) (List.Pairwise.of_cons hs) (fun q hq x hx => by injection hq with hq; subst hq; exact List.rel_of_pairwise_cons hs hx)
      unfold sortedFrom
      rw [ht]
      cases p with
      | none => simpa using hrec
      | some q =>
        have := hp q rfl t List.mem_cons_self
        simp only
        rw [if_neg (by simp; omega)]
        exact hrec
  exact this l none h2 h3 (fun q hq => by cases hq)
theorem inR_iff {l : List S41} {x : S41} : inR l x = true ↔ x ∈ l := by
  unfold inR
  rw [List.any_eq_true]
  constructor
  · rintro ⟨y, hy, he⟩
    rw [← of_decide_eq_true he]; exact hy
  · exact fun h => ⟨x, h, decide_eq_true rfl⟩
theorem mem_partR {a b : List S41} {is : Bool} {x : S41} : x ∈ partR a b is ↔ x ∈ a ∧ (x ∈ b ↔ is = true) := by
  unfold partR
  rw [List.mem_filter, beq_iff_eq, ← inR_iff (l := b)]
  cases inR b x <;> cases is <;> simp
theorem strict_partR {a b : List S41} {is : Bool} (h : Strict a) : Strict (partR a b is) := List.Pairwise.filter _ h
/-! the union -/
theorem mem_uniqFrom {p : S41} {l : List S41} {x : S41} : x ∈ uniqFrom p l → x ∈ l := by
  induction l generalizing p with
  | nil => intro h; cases h
  | cons y l ih =>
    unfold uniqFrom
    split
    · exact fun h => List.mem_cons_of_mem _ (ih h)
    · intro h
      rcases List.mem_cons.1 h with h | h
      · rw [h]; exact List.mem_cons_self
      · exact List.mem_cons_of_mem _ (ih h)
theorem uniqFrom_mem {p : S41} {l : List S41} {x : S41} : x ∈ l → x = p ∨ x ∈ uniqFrom p l := by
  induction l generalizing p with
  | nil => intro h; cases h
  | cons y l ih =>
    intro h
    unfold uniqFrom
    split
    · rename_i e
      rcases List.mem_cons.1 h with h | h
      · exact .inl (h.trans e)
      · exact ih h
    · rcases List.mem_cons.1 h with h | h
      · exact .inr (by rw [h]; exact List.mem_cons_self)
      · rcases ih (p := y) h with h | h
        · exact .inr (by rw [h]; exact List.mem_cons_self)
        · exact .inr (List.mem_cons_of_mem _ h)
theorem mem_uniq {l : List S41} {x : S41} : x ∈ uniq l ↔ x ∈ l := by
  cases l with
  | nil => exact Iff.rfl
  | cons y l =>
    unfold uniq
    rw [List.mem_cons, List.mem_cons]
    constructor
    · rintro (h | h)
      · exact .inl h
      · exact .inr (mem_uniqFrom h)
    · rintro (h | h)
      · exact .inl h
      · exact uniqFrom_mem h
theorem strict_uniqFrom {p : S41} {l : List S41} (h : (p :: l).Pairwise fun a b => cmpR a b ≤ 0) : (∀ x ∈ uniqFrom p l, cmpR p x < 0) ∧ Strict (uniqFrom p l) := by
  induction l generalizing p with
  | nil => exact ⟨fun x hx => (by cases hx), List.Pairwise.nil⟩
  | cons y l ih =>
    have hpy : cmpR p y ≤ 0 := List.rel_of_pairwise_cons h List.mem_cons_self
    have hy : (y :: l).Pairwise fun a b => cmpR a b ≤ 0 := List.Pairwise.of_cons h
    unfold uniqFrom
    split
    · rename_i e; subst e
      exact ih hy
    · rename_i e
      have hlt : cmpR p y < 0 := by
        rcases Int.lt_or_eq_of_le hpy with h | h
        · exact h
        · exact absurd ((lawR.zero p y).1 h).symm e
      obtain ⟨h1, h2⟩ := ih hy
      refine ⟨fun x hx => ?_, List.Pairwise.cons h1 h2⟩
      rcases List.mem_cons.1 hx with hx | hx
      · rw [hx]; exact hlt
      · exact lawR.trans p y x hlt (h1 x hx)
theorem sortL_sorted (l : List S41) : (sortL l).Pairwise fun a b => cmpR a b ≤ 0 := by
  have h := List.pairwise_mergeSort (le := fun x y => !(ltOf cmpR) y x) (fun a b c => by
      unfold ltOf
      simp only [Bool.not_eq_true', decide_eq_false_iff_not]
      intro h1 h2 h3
      exact absurd h3 (by have := swoR.ntrans c b a; unfold ltOf at this; simp only [decide_eq_false_iff_not] at this; exact this h2 h1)) (fun a b => by
      unfold ltOf
      rw [Bool.or_eq_true, Bool.not_eq_true', Bool.not_eq_true', decide_eq_false_iff_not, decide_eq_false_iff_not]
      have := lawR.anti a b
      omega) l
  refine h.imp fun {a b} hab => ?_
  unfold ltOf at hab
  simp only [Bool.not_eq_true', decide_eq_false_iff_not] at hab
  have := lawR.anti a b
  omega
theorem strict_unionR (a b : List S41) : Strict (unionR a b) := by
  unfold unionR
  have h := sortL_sorted (a ++ b)
  generalize sortL (a ++ b) = l at h
  cases l with
  | nil => exact List.Pairwise.nil
  | cons x l =>
    obtain ⟨h1, h2⟩ := strict_uniqFrom h
    exact List.Pairwise.cons h1 h2
theorem mem_unionR {a b : List S41} {x : S41} : x ∈ unionR a b ↔ x ∈ a ∨ x ∈ b := by
  unfold unionR
  rw [mem_uniq]
  unfold sortL
  rw [List.mem_mergeSort, List.mem_append]
theorem unionR_comm (a b : List S41) : unionR a b = unionR b a := strict_ext (strict_unionR _ _) (strict_unionR _ _) fun x => by rw [mem_unionR, mem_unionR, Or.comm]
theorem chk_unionR {a b : List S41} (ha : ∀ x ∈ a, chkR x = none) (hb : ∀ x ∈ b, chkR x = none) : ∀ x ∈ unionR a b, chkR x = none := fun x hx => by
  rcases mem_unionR.1 hx with h | h
  · exact ha x h
  · exact hb x h
theorem sorted_unionR {a b : List S41} (ha : sortedR a = none) (hb : sortedR b = none) (hl : (unionR a b).length ≤ 200) : sortedR (unionR a b) = none :=
  sortedR_iff.2 ⟨hl, chk_unionR (sortedR_iff.1 ha).2.1 (sortedR_iff.1 hb).2.1, strict_unionR _ _⟩
theorem sorted_partR {a b : List S41} {is : Bool} (ha : sortedR a = none) : sortedR (partR a b is) = none := by
  obtain ⟨h1, h2, h3⟩ := sortedR_iff.1 ha
  exact sortedR_iff.2 ⟨Nat.le_trans (List.length_filter_le _ _) h1, fun x hx => h2 x ((List.mem_filter.1 hx).1), strict_partR h3⟩
theorem part_lengths (a b : List S41) : (partR a b false).length + (partR a b true).length = a.length := by
  unfold partR
  induction a with
  | nil => rfl
  | cons x a ih =>
    rw [List.filter_cons, List.filter_cons]
    cases h : inR b x
    · rw [if_pos (by rfl), if_neg (by decide)]; simp only [List.length_cons]; omega
    · rw [if_neg (by decide), if_pos (by rfl)]; simp only [List.length_cons]; omega
theorem strict_perm {l l' : List S41} (h : l.Nodup) (h' : l'.Nodup) (hm : ∀ x, x ∈ l ↔ x ∈ l') : l.length = l'.length := ((List.perm_ext_iff_of_nodup h h').2 hm).length_eq
theorem union_length {a b : List S41} (ha : Strict a) (hb : Strict b) : (unionR a b).length = a.length + (partR b a false).length := by
  rw [← List.length_append]
  refine strict_perm (strict_unionR a b).nodup ?_ fun x => ?_
  · rw [List.nodup_append]
    refine ⟨ha.nodup, (strict_partR hb).nodup, fun x hx y hy he => ?_⟩
    subst he
    have := (mem_partR.1 hy).2.1 hx
    cases this
  · rw [mem_unionR, List.mem_append, mem_partR]
    by_cases h : x ∈ a <;> simp [h]
theorem union_lengths {a b : List S41} (ha : Strict a) (hb : Strict b) : (unionR a b).length = (partR a b false).length + (partR b a false).length + (partR a b true).length := by
  rw [union_length ha hb]
  have := part_lengths a b
  omega
theorem union_parts {a b : List S41} (ha : Strict a) : unionR (partR a b false) (partR a b true) = a := strict_ext (strict_unionR _ _) ha fun x => by
  rw [mem_unionR, mem_partR, mem_partR]
  by_cases h : x ∈ b <;> simp [h]
theorem union_more {a b : List S41} : unionR a (partR b a false) = unionR a b := strict_ext (strict_unionR _ _) (strict_unionR _ _) fun x => by
  rw [mem_unionR, mem_unionR, mem_partR]
  by_cases h : x ∈ a <;> simp [h]
theorem in_union {a b : List S41} {x : S41} : inR (unionR a b) x = (inR a x || inR b x) := by
  rw [Bool.eq_iff_iff, Bool.or_eq_true, inR_iff, inR_iff, inR_iff, mem_unionR]
theorem in_both {a b : List S41} {x : S41} : inR (partR a b true) x = (inR a x && inR b x) := by
  rw [Bool.eq_iff_iff, Bool.and_eq_true, inR_iff, inR_iff, inR_iff, mem_partR]
  simp
end Go.Proofs.Ytdjamphmndbmjaa.M

/- What the walks of several laws share: the triple of the facts, the rows it lies in. -/
namespace Go.Proofs.Ytdjamphmndbmjaa.M
open Go.RowKit Go.Proofs.YtdjamphmndbmjaaW.PrintWords Go.Proofs.YtdjamphmndbmjaaW.PrintLast Go.Proofs.YtdjamphmndbmjaaW.PrintMore
set_option linter.unusedVariables false
set_option linter.unusedSimpArgs false

/-- The triple of the laws' facts. -/
def xabc : S41 := ⟨⟨1, ⟨#[97]⟩, ⟨#[]⟩⟩, ⟨1, ⟨#[98]⟩, ⟨#[]⟩⟩, ⟨1, ⟨#[99]⟩, ⟨#[]⟩⟩⟩
theorem chk_xabc : chkR xabc = none := by decide +kernel
theorem sorted_one {x : S41} (h : chkR x = none) : sortedR [x] = none := sortedR_iff.2 ⟨by simp, fun y hy => by rw [List.mem_singleton.1 hy]; exact h, List.pairwise_singleton _ _⟩
theorem sorted_nil : sortedR ([] : List S41) = none := rfl
theorem row_one (w : World) (x : S41) : Kd.C k41 (w.alloc (.cells (celR x) 41)) (some ⟨w.heap.size, 0, none⟩) 1 [x] := by
  refine ⟨rfl, by simp, fun _ => ⟨_, rfl, fun j p hj => ?_⟩⟩
  have hj0 : j = 0 := by
    rcases j with _ | j
    · rfl
    · simp at hj
  subst hj0
  obtain rfl : x = p := by simpa using hj
  refine ⟨(celR x).toList, rfl, k41_mk _ x, fun i u hi => ?_⟩
  have ha : Addr.add ⟨w.heap.size, 0, none⟩ (0 * 9 + i) = ⟨w.heap.size, i, none⟩ := by simp [Addr.add]; intro h; exact h.symm
  have e9 : k41.sz = 9 := rfl
  rw [e9, ha]
  exact (blk_cell (blk_new w _) i).trans (by rw [← hi]; simp)
theorem row_three (w : World) (o1 o2 : Obj) : Kd.C k41 (((w.alloc o1).alloc o2).alloc (.cells (celR xabc) 41)) (some ⟨w.heap.size + 1 + 1, 0, none⟩) 1 [xabc] := by
  have h := row_one ((w.alloc o1).alloc o2) xabc
  rw [alloc_size1, alloc_size1] at h
  exact h
theorem C_none (w : World) : Kd.C k41 w none 0 ([] : List S41) := ⟨rfl, by simp, fun h => absurd h (Nat.lt_irrefl 0)⟩
theorem cell_keep {W0 W W' : World} {p : Addr} {v : Value} (h : Below W0.heap.size W0 W) (hb : Below W.heap.size W W') (hc : W0.cell? p = some v) : W'.cell? p = some v := by
  have h1 : W.cell? p = some v := (h.cell (World.block_lt_of_cell? W0 _ hc)).trans hc
  exact (hb.cell (World.block_lt_of_cell? W _ h1)).trans h1
theorem one_cells {w : World} {A : Option Addr} {x : S41} (h : Kd.C k41 w A 1 [x]) : ∃ ad, A = some ad ∧ w.cell? ad = some (.int .i64 x.f0.f0) ∧ w.cell? ⟨ad.block, ad.off + 1, none⟩ = some (.string x.f0.f1) ∧ w.cell? ⟨ad.block, ad.off + 2, none⟩ = some (.string x.f0.f2) ∧ w.cell? ⟨ad.block, ad.off + 3, none⟩ = some (.int .i64 x.f1.f0) ∧ w.cell? ⟨ad.block, ad.off + 4, none⟩ = some (.string x.f1.f1) ∧ w.cell? ⟨ad.block, ad.off + 5, none⟩ = some (.string x.f1.f2) ∧ w.cell? ⟨ad.block, ad.off + 6, none⟩ = some (.int .i64 x.f2.f0) ∧ w.cell? ⟨ad.block, ad.off + 7, none⟩ = some (.string x.f2.f1) ∧ w.cell? ⟨ad.block, ad.off + 8, none⟩ = some (.string x.f2.f2) := by
  obtain ⟨ad, e, hc⟩ := at_T41 h 0 (by omega) (by omega)
  have ea : ad.add ((0 : Int).toNat * 9) = ad := by simp [Addr.add]
  rw [ea] at hc
  exact ⟨ad, e, hc⟩
theorem right2_turn {a b : List S41} {n : Int} (h : right2 a b = some n) : ∃ n', right2 b a = some n' := by
  cases h' : right2 b a with
  | some n' => exact ⟨n', rfl⟩
  | none => rw [right2_none.2 (And.symm (right2_none.1 h'))] at h; cases h
theorem strict_one (x : S41) : Strict [x] := List.pairwise_singleton _ _
theorem join_xabc : joinR [xabc] [] = ([xabc], none) := by
  have hr : right2 [xabc] [] = none := right2_none.2 ⟨sorted_one chk_xabc, sorted_nil⟩
  have hu : unionR [xabc] [] = [xabc] := strict_ext (strict_unionR _ _) (strict_one _) fun x => by rw [mem_unionR]; simp
  unfold joinR
  rw [hr]
  simp only [hu]
  rfl
theorem join_ok {u l0 l1 : List S41} (h : joinR l0 l1 = (u, none)) (A0 A1 : Option Addr) (c0 c1 : Nat) (w : World) (hr0 : Kd.C k41 w A0 l0.length l0) (hc0 : l0.length ≤ c0) (hr1 : Kd.C k41 w A1 l1.length l1) (hc1 : l1.length ≤ c1) :
    Calls Try.prog 28 #[.slice A0 l0.length c0, .slice A1 l1.length c1] w fun e w' => ∃ v, e = .returned (.tuple #[v, .nilIface]) ∧ Row w' v u ∧ Below w.heap.size w w' := by
  have hc := join_calls A0 A1 c0 c1 l0 l1 w hr0 hc0 hr1 hc1
  rw [h] at hc
  exact hc
theorem join_err {u l0 l1 : List S41} {n : Int} (h : joinR l0 l1 = (u, some n)) (A0 A1 : Option Addr) (c0 c1 : Nat) (w : World) (hr0 : Kd.C k41 w A0 l0.length l0) (hc0 : l0.length ≤ c0) (hr1 : Kd.C k41 w A1 l1.length l1) (hc1 : l1.length ≤ c1) :
    Calls Try.prog 28 #[.slice A0 l0.length c0, .slice A1 l1.length c1] w fun e w' => ∃ v, e = .returned (.tuple #[v, .iface 23 (.int .i64 n)]) ∧ Row w' v u ∧ Below w.heap.size w w' := by
  have hc := join_calls A0 A1 c0 c1 l0 l1 w hr0 hc0 hr1 hc1
  rw [h] at hc
  exact hc
theorem less_ok {u l0 l1 : List S41} (h : bothR l0 l1 false = (u, none)) (A0 A1 : Option Addr) (c0 c1 : Nat) (w : World) (hr0 : Kd.C k41 w A0 l0.length l0) (hc0 : l0.length ≤ c0) (hr1 : Kd.C k41 w A1 l1.length l1) (hc1 : l1.length ≤ c1) :
    Calls Try.prog 29 #[.slice A0 l0.length c0, .slice A1 l1.length c1] w fun e w' => ∃ v, e = .returned (.tuple #[v, .nilIface]) ∧ Row w' v u ∧ Below w.heap.size w w' := by
  have hc := less_calls A0 A1 c0 c1 l0 l1 w hr0 hc0 hr1 hc1
  rw [h] at hc
  exact hc
theorem less_err {u l0 l1 : List S41} {n : Int} (h : bothR l0 l1 false = (u, some n)) (A0 A1 : Option Addr) (c0 c1 : Nat) (w : World) (hr0 : Kd.C k41 w A0 l0.length l0) (hc0 : l0.length ≤ c0) (hr1 : Kd.C k41 w A1 l1.length l1) (hc1 : l1.length ≤ c1) :
    Calls Try.prog 29 #[.slice A0 l0.length c0, .slice A1 l1.length c1] w fun e w' => ∃ v, e = .returned (.tuple #[v, .iface 23 (.int .i64 n)]) ∧ Row w' v u ∧ Below w.heap.size w w' := by
  have hc := less_calls A0 A1 c0 c1 l0 l1 w hr0 hc0 hr1 hc1
  rw [h] at hc
  exact hc
theorem both_ok {u l0 l1 : List S41} (h : bothR l0 l1 true = (u, none)) (A0 A1 : Option Addr) (c0 c1 : Nat) (w : World) (hr0 : Kd.C k41 w A0 l0.length l0) (hc0 : l0.length ≤ c0) (hr1 : Kd.C k41 w A1 l1.length l1) (hc1 : l1.length ≤ c1) :
    Calls Try.prog 23 #[.slice A0 l0.length c0, .slice A1 l1.length c1] w fun e w' => ∃ v, e = .returned (.tuple #[v, .nilIface]) ∧ Row w' v u ∧ Below w.heap.size w w' := by
  have hc := both_calls A0 A1 c0 c1 l0 l1 w hr0 hc0 hr1 hc1
  rw [h] at hc
  exact hc
theorem both_err {u l0 l1 : List S41} {n : Int} (h : bothR l0 l1 true = (u, some n)) (A0 A1 : Option Addr) (c0 c1 : Nat) (w : World) (hr0 : Kd.C k41 w A0 l0.length l0) (hc0 : l0.length ≤ c0) (hr1 : Kd.C k41 w A1 l1.length l1) (hc1 : l1.length ≤ c1) :
    Calls Try.prog 23 #[.slice A0 l0.length c0, .slice A1 l1.length c1] w fun e w' => ∃ v, e = .returned (.tuple #[v, .iface 23 (.int .i64 n)]) ∧ Row w' v u ∧ Below w.heap.size w w' := by
  have hc := both_calls A0 A1 c0 c1 l0 l1 w hr0 hc0 hr1 hc1
  rw [h] at hc
  exact hc
theorem has_ok {x : S41} {l0 : List S41} {b : Bool} (h : hasR l0 x = (b, none)) (A0 : Option Addr) (c0 : Nat) (w : World) (hr0 : Kd.C k41 w A0 l0.length l0) (hc0 : l0.length ≤ c0) :
    Calls Try.prog 22 #[.slice A0 l0.length c0, .agg #[.int .i64 x.f0.f0, .string x.f0.f1, .string x.f0.f2, .int .i64 x.f1.f0, .string x.f1.f1, .string x.f1.f2, .int .i64 x.f2.f0, .string x.f2.f1, .string x.f2.f2]] w fun e w' => e = .returned (.tuple #[.bool b, .nilIface]) ∧ Below w.heap.size w w' := by
  have hc := has_calls A0 c0 l0 x w hr0 hc0
  rw [h] at hc
  exact hc
theorem has_err {x : S41} {l0 : List S41} {b : Bool} {n : Int} (h : hasR l0 x = (b, some n)) (A0 : Option Addr) (c0 : Nat) (w : World) (hr0 : Kd.C k41 w A0 l0.length l0) (hc0 : l0.length ≤ c0) :
    Calls Try.prog 22 #[.slice A0 l0.length c0, .agg #[.int .i64 x.f0.f0, .string x.f0.f1, .string x.f0.f2, .int .i64 x.f1.f0, .string x.f1.f1, .string x.f1.f2, .int .i64 x.f2.f0, .string x.f2.f1, .string x.f2.f2]] w fun e w' => e = .returned (.tuple #[.bool b, .iface 23 (.int .i64 n)]) ∧ Below w.heap.size w w' := by
  have hc := has_calls A0 c0 l0 x w hr0 hc0
  rw [h] at hc
  exact hc
theorem same_true {l0 l1 : List S41} (h : l0 = l1) (A0 A1 : Option Addr) (c0 c1 : Nat) (w : World) (hr0 : Kd.C k41 w A0 l0.length l0) (hr1 : Kd.C k41 w A1 l1.length l1) :
    Calls Try.prog 20 #[.slice A0 l0.length c0, .slice A1 l1.length c1] w fun e w' => e = .returned (.bool true) ∧ Below w.heap.size w w' := by
  have hc := same_calls A0 A1 c0 c1 l0 l1 w hr0 hr1
  rw [decide_eq_true h] at hc
  exact hc.mono fun _ _ ⟨he, q, hq⟩ => ⟨he, by rw [hq]; exact pw_below_drewN (Below.refl _ _) q⟩
theorem same_false {l0 l1 : List S41} (h : ¬ l0 = l1) (A0 A1 : Option Addr) (c0 c1 : Nat) (w : World) (hr0 : Kd.C k41 w A0 l0.length l0) (hr1 : Kd.C k41 w A1 l1.length l1) :
    Calls Try.prog 20 #[.slice A0 l0.length c0, .slice A1 l1.length c1] w fun e w' => e = .returned (.bool false) ∧ Below w.heap.size w w' := by
  have hc := same_calls A0 A1 c0 c1 l0 l1 w hr0 hr1
  rw [decide_eq_false h] at hc
  exact hc.mono fun _ _ ⟨he, q, hq⟩ => ⟨he, by rw [hq]; exact pw_below_drewN (Below.refl _ _) q⟩
end Go.Proofs.Ytdjamphmndbmjaa.M

/- What MatchParts says, in plain words: a pattern of three variables, one that is a triple, one with a term more. -/
namespace Go.Proofs.Ytdjamphmndbmjaa.M
open Go.RowKit Go.Proofs.YtdjamphmndbmjaaW.PrintWords Go.Proofs.YtdjamphmndbmjaaW.PrintLast Go.Proofs.YtdjamphmndbmjaaW.PrintMore
set_option linter.unusedVariables false
set_option linter.unusedSimpArgs false

def pAll : S51 := ⟨⟨⟨#[97]⟩, ⟨0, ⟨#[]⟩, ⟨#[]⟩⟩⟩, ⟨⟨#[98]⟩, ⟨0, ⟨#[]⟩, ⟨#[]⟩⟩⟩, ⟨⟨#[99]⟩, ⟨0, ⟨#[]⟩, ⟨#[]⟩⟩⟩⟩
def pJust (t : S41) : S51 := ⟨⟨⟨#[]⟩, t.f0⟩, ⟨⟨#[]⟩, t.f1⟩, ⟨⟨#[]⟩, t.f2⟩⟩
theorem vars_all : varsErr pAll = none := by decide +kernel
theorem fits_all (x : S41) : fitsP x pAll = true := by
  have a0 : ((⟨#[97]⟩ : ByteArray).toList == []) = false := by decide +kernel
  have b0 : ((⟨#[98]⟩ : ByteArray).toList == []) = false := by decide +kernel
  have c0 : ((⟨#[99]⟩ : ByteArray).toList == []) = false := by decide +kernel
  have ab : ((⟨#[97]⟩ : ByteArray).toList == (⟨#[98]⟩ : ByteArray).toList) = false := by decide +kernel
  have ac : ((⟨#[97]⟩ : ByteArray).toList == (⟨#[99]⟩ : ByteArray).toList) = false := by decide +kernel
  have bc : ((⟨#[98]⟩ : ByteArray).toList == (⟨#[99]⟩ : ByteArray).toList) = false := by decide +kernel
  unfold fitsP ok1 ok2 pAll
  simp only [a0, b0, c0, ab, ac, bc, Bool.false_and, Bool.and_false, Bool.not_false, Bool.and_self, Bool.true_and]
theorem match_all {l : List S41} (h : sortedR l = none) : matchM l pAll = (l, none) := by
  unfold matchM
  rw [h, vars_all]
  simp only
  unfold matchR
  rw [List.filter_eq_self.2 (fun x _ => fits_all x)]
theorem match_bad {l : List S41} {n : Int} (p : S51) (h : sortedR l = some n) : matchM l p = ([], some n) := by
  unfold matchM
  rw [h]
theorem slot_term (t : S35) : slotErr ⟨⟨#[]⟩, t⟩ = chkT t := by unfold slotErr; exact if_pos (show (⟨#[]⟩ : ByteArray).size = 0 from rfl)
theorem chkR_terms {t : S41} (h : chkR t = none) : chkT t.f0 = none ∧ chkT t.f1 = none ∧ chkT t.f2 = none := by
  unfold chkR at h
  cases h0 : chkT t.f0 with
  | some e => rw [h0] at h; cases h
  | none =>
    cases h1 : chkT t.f1 with
    | some e => rw [h0, h1] at h; cases h
    | none =>
      cases h2 : chkT t.f2 with
      | some e => rw [h0, h1, h2] at h; cases h
      | none => exact ⟨rfl, rfl, rfl⟩
theorem vars_just {t : S41} (h : chkR t = none) : varsErr (pJust t) = none := by
  obtain ⟨h0, h1, h2⟩ := chkR_terms h
  unfold varsErr pJust
  simp only [slot_term, h0, h1, h2]
theorem nilS : ((⟨#[]⟩ : ByteArray).toList == []) = true := by decide +kernel
theorem fits_just (x t : S41) : fitsP x (pJust t) = decide (x = t) := by
  unfold fitsP ok1 ok2 pJust
  simp only [nilS, Bool.not_true, Bool.false_and, Bool.not_false, Bool.and_true, Bool.true_and]
  obtain ⟨a, b, c⟩ := x
  obtain ⟨d, e, f⟩ := t
  rw [Bool.eq_iff_iff]
  simp only [Bool.and_eq_true, Bool.not_eq_true', decide_eq_false_iff_not, decide_eq_true_iff, Classical.not_not, S41.mk.injEq, ne_eq]
  constructor
  · rintro ⟨⟨rfl, rfl⟩, rfl⟩; exact ⟨rfl, rfl, rfl⟩
  · rintro ⟨rfl, rfl, rfl⟩; exact ⟨⟨rfl, rfl⟩, rfl⟩
theorem filter_one {l : List S41} (h : l.Nodup) (t : S41) : (l.filter fun x => decide (x = t)).length = if inR l t = true then 1 else 0 := by
  induction l with
  | nil => rfl
  | cons y l ih =>
    have hn := List.nodup_cons.1 h
    have ih := ih hn.2
    rw [List.filter_cons]
    by_cases e : y = t
    · subst e
      rw [if_pos (decide_eq_true rfl)]
      have h0 : ¬ inR l y = true := fun hh => hn.1 (inR_iff.1 hh)
      rw [if_neg h0] at ih
      rw [List.length_cons, ih, if_pos (inR_iff.2 List.mem_cons_self)]
    · rw [if_neg (by simpa using e), ih]
      have : inR (y :: l) t = inR l t := by
        unfold inR
        rw [List.any_cons, decide_eq_false e, Bool.false_or]
      rw [this]
theorem just_length {l : List S41} (h : sortedR l = none) (t : S41) : (matchR l (pJust t)).length = if inR l t = true then 1 else 0 := by
  unfold matchR
  rw [show (fun x => fitsP x (pJust t)) = (fun x => decide (x = t)) from funext fun x => fits_just x t]
  exact filter_one (sortedR_iff.1 h).2.2.nodup t
theorem match_good {l : List S41} {p : S51} (h : sortedR l = none) (hv : varsErr p = none) : matchM l p = (matchR l p, none) := by
  unfold matchM
  rw [h, hv]
theorem match_vars {l : List S41} {p : S51} {n : Int} (h : sortedR l = none) (hv : varsErr p = some n) : matchM l p = ([], some n) := by
  unfold matchM
  rw [h, hv]
theorem sorted_matchR {l : List S41} (p : S51) (h : sortedR l = none) : sortedR (matchR l p) = none := by
  obtain ⟨h1, h2, h3⟩ := sortedR_iff.1 h
  exact sortedR_iff.2 ⟨Nat.le_trans (List.length_filter_le _ _) h1, fun x hx => h2 x ((List.mem_filter.1 hx).1), List.Pairwise.filter _ h3⟩
theorem part_match (l : List S41) (p : S51) : partR (matchR l p) l true = matchR l p := by
  unfold partR
  refine List.filter_eq_self.2 fun x hx => ?_
  rw [inR_iff.2 (List.mem_filter.1 hx).1]
  rfl
theorem both_of {a b u : List S41} (ha : sortedR a = none) (hb : sortedR b = none) (h : partR a b true = u) : bothR a b true = (u, none) := by
  unfold bothR
  rw [right2_none.2 ⟨ha, hb⟩, ← h]
/-- The pattern with one term more. -/
def pMore (p : S51) (x : S35) : S51 := ⟨⟨⟨#[]⟩, x⟩, p.f1, p.f2⟩
theorem vars_more {p : S51} {x : S35} (h : varsErr p = none) (hx : chkT x = none) : varsErr (pMore p x) = none := by
  unfold varsErr at h ⊢
  unfold pMore
  simp only [slot_term, hx]
  cases h0 : slotErr p.f0 with
  | some e => rw [h0] at h; cases h
  | none => rw [h0] at h; exact h
theorem match_xabc : matchM [xabc] pAll = ([xabc], none) := match_all (sorted_one chk_xabc)
end Go.Proofs.Ytdjamphmndbmjaa.M

/- match.Count, and the contracts of MatchParts' callees by outcome (printed by wip/gen_mp1.py). -/
namespace Go.Proofs.Ytdjamphmndbmjaa.M
open Go.RowKit Go.Proofs.YtdjamphmndbmjaaW.PrintWords Go.Proofs.YtdjamphmndbmjaaW.PrintLast Go.Proofs.YtdjamphmndbmjaaW.PrintMore
set_option linter.unusedVariables false
set_option linter.unusedSimpArgs false

theorem sorted_ok {l0 : List S41} (h : sortedR l0 = none) (A0 : Option Addr) (c0 : Nat) (w : World) (hr0 : Kd.C k41 w A0 l0.length l0) (hc0 : l0.length ≤ c0) :
    Calls Try.prog 19 #[.slice A0 l0.length c0] w fun e w' => e = .returned .nilIface ∧ Below w.heap.size w w' := by
  have hc := sorted_calls A0 c0 l0 w hr0 hc0
  rw [h] at hc
  exact hc
theorem sorted_err {l0 : List S41} {n : Int} (h : sortedR l0 = some n) (A0 : Option Addr) (c0 : Nat) (w : World) (hr0 : Kd.C k41 w A0 l0.length l0) (hc0 : l0.length ≤ c0) :
    Calls Try.prog 19 #[.slice A0 l0.length c0] w fun e w' => e = .returned (.iface 23 (.int .i64 n)) ∧ Below w.heap.size w w' := by
  have hc := sorted_calls A0 c0 l0 w hr0 hc0
  rw [h] at hc
  exact hc
theorem match_ok {u l0 : List S41} {p : S51} (h : matchM l0 p = (u, none)) (A0 : Option Addr) (c0 : Nat) (w : World) (hr0 : Kd.C k41 w A0 l0.length l0) (hc0 : l0.length ≤ c0) (hs : ∀ s : ByteArray, s = p.f0.f0 ∨ s = p.f1.f0 ∨ s = p.f2.f0 → s.size ≤ 9223372036854775807) :
    Calls Try.prog 18 #[.slice A0 l0.length c0, .agg #[.string p.f0.f0, .int .i64 p.f0.f1.f0, .string p.f0.f1.f1, .string p.f0.f1.f2, .string p.f1.f0, .int .i64 p.f1.f1.f0, .string p.f1.f1.f1, .string p.f1.f1.f2, .string p.f2.f0, .int .i64 p.f2.f1.f0, .string p.f2.f1.f1, .string p.f2.f1.f2]] w fun e w' => ∃ v, e = .returned (.tuple #[v, .nilIface]) ∧ Row w' v u ∧ Below w.heap.size w w' := by
  have hc := match_calls A0 c0 l0 p w hr0 hc0 hs
  rw [h] at hc
  exact hc
theorem match_err {u l0 : List S41} {p : S51} {n : Int} (h : matchM l0 p = (u, some n)) (A0 : Option Addr) (c0 : Nat) (w : World) (hr0 : Kd.C k41 w A0 l0.length l0) (hc0 : l0.length ≤ c0) (hs : ∀ s : ByteArray, s = p.f0.f0 ∨ s = p.f1.f0 ∨ s = p.f2.f0 → s.size ≤ 9223372036854775807) :
    Calls Try.prog 18 #[.slice A0 l0.length c0, .agg #[.string p.f0.f0, .int .i64 p.f0.f1.f0, .string p.f0.f1.f1, .string p.f0.f1.f2, .string p.f1.f0, .int .i64 p.f1.f1.f0, .string p.f1.f1.f1, .string p.f1.f1.f2, .string p.f2.f0, .int .i64 p.f2.f1.f0, .string p.f2.f1.f1, .string p.f2.f1.f2]] w fun e w' => ∃ v, e = .returned (.tuple #[v, .iface 23 (.int .i64 n)]) ∧ Row w' v u ∧ Below w.heap.size w w' := by
  have hc := match_calls A0 c0 l0 p w hr0 hc0 hs
  rw [h] at hc
  exact hc
set_option maxHeartbeats 4000000 in
set_option maxRecDepth 100000 in
theorem count_any (A0 : Option Addr) (c0 : Nat) (l0 : List S41) (p : S51) (w : World) (hr0 : Kd.C k41 w A0 l0.length l0) (hc0 : l0.length ≤ c0) (hs : ∀ s : ByteArray, s = p.f0.f0 ∨ s = p.f1.f0 ∨ s = p.f2.f0 → s.size ≤ 9223372036854775807) (u : List S41) (E : Value) (hE : ∀ W, Kd.C k41 W A0 l0.length l0 → Calls Try.prog 18 #[.slice A0 l0.length c0, .agg #[.string p.f0.f0, .int .i64 p.f0.f1.f0, .string p.f0.f1.f1, .string p.f0.f1.f2, .string p.f1.f0, .int .i64 p.f1.f1.f0, .string p.f1.f1.f1, .string p.f1.f1.f2, .string p.f2.f0, .int .i64 p.f2.f1.f0, .string p.f2.f1.f1, .string p.f2.f1.f2]] W fun e w' => ∃ v, e = .returned (.tuple #[v, E]) ∧ Row w' v u ∧ Below W.heap.size W w') :
    Calls Try.prog 21 #[.slice A0 l0.length c0, .agg #[.string p.f0.f0, .int .i64 p.f0.f1.f0, .string p.f0.f1.f1, .string p.f0.f1.f2, .string p.f1.f0, .int .i64 p.f1.f1.f0, .string p.f1.f1.f1, .string p.f1.f1.f2, .string p.f2.f0, .int .i64 p.f2.f1.f0, .string p.f2.f1.f1, .string p.f2.f1.f2]] w fun e w' => e = .returned (.tuple #[.int .i64 (u.length : Int), E]) ∧ Below w.heap.size w w' := by
  have HR0 := Aside0.mk hr0
  have HE := Aside0.mk hE
  have HB := Aside0.mk (Below.refl w.heap.size w)
  clear hr0 hE
  go_enter Try.func21, Try.ntmps21
  go_wp2_with (go_at_call 18; refine (HE.out _ (Kd.C_alloc HR0.out _)).mono ?_; rintro e w' ⟨v, rfl, hv, hb⟩; obtain ⟨Au, cu, rfl, hCu, hcu⟩ := hv; have HB1 := Aside0.mk (below_step (below_alloc HB.out _) hb); clear hb hCu hcu)
  repeat (go_quiet (fail); try go_wp2)
  go_ret2
  exact ⟨rfl, by repeat (first | exact HB1.out | refine below_alloc ?_ _ | refine pw_below_drewN ?_ _ | refine below_drew1 ?_)⟩
theorem count_ok {u l0 : List S41} {p : S51} (h : matchM l0 p = (u, none)) (A0 : Option Addr) (c0 : Nat) (w : World) (hr0 : Kd.C k41 w A0 l0.length l0) (hc0 : l0.length ≤ c0) (hs : ∀ s : ByteArray, s = p.f0.f0 ∨ s = p.f1.f0 ∨ s = p.f2.f0 → s.size ≤ 9223372036854775807) :
    Calls Try.prog 21 #[.slice A0 l0.length c0, .agg #[.string p.f0.f0, .int .i64 p.f0.f1.f0, .string p.f0.f1.f1, .string p.f0.f1.f2, .string p.f1.f0, .int .i64 p.f1.f1.f0, .string p.f1.f1.f1, .string p.f1.f1.f2, .string p.f2.f0, .int .i64 p.f2.f1.f0, .string p.f2.f1.f1, .string p.f2.f1.f2]] w fun e w' => e = .returned (.tuple #[.int .i64 (u.length : Int), .nilIface]) ∧ Below w.heap.size w w' :=
  count_any A0 c0 l0 p w hr0 hc0 hs u _ fun W hC => match_ok h A0 c0 W hC hc0 hs
theorem count_err {u l0 : List S41} {p : S51} {n : Int} (h : matchM l0 p = (u, some n)) (A0 : Option Addr) (c0 : Nat) (w : World) (hr0 : Kd.C k41 w A0 l0.length l0) (hc0 : l0.length ≤ c0) (hs : ∀ s : ByteArray, s = p.f0.f0 ∨ s = p.f1.f0 ∨ s = p.f2.f0 → s.size ≤ 9223372036854775807) :
    Calls Try.prog 21 #[.slice A0 l0.length c0, .agg #[.string p.f0.f0, .int .i64 p.f0.f1.f0, .string p.f0.f1.f1, .string p.f0.f1.f2, .string p.f1.f0, .int .i64 p.f1.f1.f0, .string p.f1.f1.f1, .string p.f1.f1.f2, .string p.f2.f0, .int .i64 p.f2.f1.f0, .string p.f2.f1.f1, .string p.f2.f1.f2]] w fun e w' => e = .returned (.tuple #[.int .i64 (u.length : Int), .iface 23 (.int .i64 n)]) ∧ Below w.heap.size w w' :=
  count_any A0 c0 l0 p w hr0 hc0 hs u _ fun W hC => match_err h A0 c0 W hC hc0 hs
theorem nil_str (P : ByteArray → Prop) (h : P ⟨#[]⟩) (s : ByteArray) (hs : s = ⟨#[]⟩ ∨ s = ⟨#[]⟩ ∨ s = ⟨#[]⟩) : P s := by rcases hs with rfl | rfl | rfl <;> exact h
theorem just_str (t : S41) : ∀ s : ByteArray, s = (pJust t).f0.f0 ∨ s = (pJust t).f1.f0 ∨ s = (pJust t).f2.f0 → s.size ≤ 9223372036854775807 := nil_str _ (by decide)
theorem all_str : ∀ s : ByteArray, s = pAll.f0.f0 ∨ s = pAll.f1.f0 ∨ s = pAll.f2.f0 → s.size ≤ 9223372036854775807 := by rintro s (rfl | rfl | rfl) <;> decide
/-- What Count and Has answer of one triple. -/
theorem just_case {l0 : List S41} (hs : sortedR l0 = none) (t : S41) : ∃ (nv : Int) (ev fv : Value) (isv : Bool),
    (∀ (A0 : Option Addr) (c0 : Nat) (w : World), Kd.C k41 w A0 l0.length l0 → l0.length ≤ c0 → Calls Try.prog 21 #[.slice A0 l0.length c0, .agg #[.string ⟨#[]⟩, .int .i64 t.f0.f0, .string t.f0.f1, .string t.f0.f2, .string ⟨#[]⟩, .int .i64 t.f1.f0, .string t.f1.f1, .string t.f1.f2, .string ⟨#[]⟩, .int .i64 t.f2.f0, .string t.f2.f1, .string t.f2.f2]] w fun e w' => e = .returned (.tuple #[.int .i64 nv, ev]) ∧ Below w.heap.size w w') ∧
    (∀ (A0 : Option Addr) (c0 : Nat) (w : World), Kd.C k41 w A0 l0.length l0 → l0.length ≤ c0 → Calls Try.prog 22 #[.slice A0 l0.length c0, .agg #[.int .i64 t.f0.f0, .string t.f0.f1, .string t.f0.f2, .int .i64 t.f1.f0, .string t.f1.f1, .string t.f1.f2, .int .i64 t.f2.f0, .string t.f2.f1, .string t.f2.f2]] w fun e w' => e = .returned (.tuple #[.bool isv, fv]) ∧ Below w.heap.size w w') ∧
    ((fv = .nilIface ∧ ev = .nilIface ∧ nv = 1 ∧ isv = true) ∨ (fv = .nilIface ∧ ev = .nilIface ∧ nv = 0 ∧ isv = false) ∨ (∃ n, fv = .iface 23 (.int .i64 n))) := by
  cases hc : chkR t with
  | some n =>
    have hh : hasR l0 t = (false, some n) := by unfold hasR; rw [hs, hc]
    cases hv : varsErr (pJust t) with
    | some m => exact ⟨_, _, _, _, fun A0 c0 w h1 h2 => count_err (match_vars hs hv) A0 c0 w h1 h2 (just_str t), fun A0 c0 w h1 h2 => has_err hh A0 c0 w h1 h2, .inr (.inr ⟨n, rfl⟩)⟩
    | none => exact ⟨_, _, _, _, fun A0 c0 w h1 h2 => count_ok (match_good hs hv) A0 c0 w h1 h2 (just_str t), fun A0 c0 w h1 h2 => has_err hh A0 c0 w h1 h2, .inr (.inr ⟨n, rfl⟩)⟩
  | none =>
    have hh : hasR l0 t = (inR l0 t, none) := by unfold hasR; rw [hs, hc]
    have hn := just_length hs t
    refine ⟨_, _, _, _, fun A0 c0 w h1 h2 => count_ok (match_good hs (vars_just hc)) A0 c0 w h1 h2 (just_str t), fun A0 c0 w h1 h2 => has_ok hh A0 c0 w h1 h2, ?_⟩
    rw [hn]
    cases hi : inR l0 t
    · exact .inr (.inl ⟨rfl, rfl, by simp, rfl⟩)
    · exact .inl ⟨rfl, rfl, by simp, rfl⟩
theorem more_str {p : S51} (hs : ∀ s : ByteArray, s = p.f0.f0 ∨ s = p.f1.f0 ∨ s = p.f2.f0 → s.size ≤ 9223372036854775807) (x : S35) : ∀ s : ByteArray, s = (pMore p x).f0.f0 ∨ s = (pMore p x).f1.f0 ∨ s = (pMore p x).f2.f0 → s.size ≤ 9223372036854775807 := by
  rintro s (rfl | rfl | rfl)
  · exact (show (⟨#[]⟩ : ByteArray).size ≤ 9223372036854775807 by decide)
  · exact hs _ (.inr (.inl rfl))
  · exact hs _ (.inr (.inr rfl))
theorem checkT_ok {t : S35} (h : chkT t = none) (w : World) : Calls Try.prog 24 #[.agg #[.int .i64 t.f0, .string t.f1, .string t.f2]] w fun e w' => e = .returned .nilIface ∧ Below w.heap.size w w' := by
  have hc := pCheckT.calls t.f0 t.f1 t.f2 none w (by unfold pCheckT.f; rw [← h])
  exact hc
theorem checkT_err {t : S35} {n : Int} (h : chkT t = some n) (w : World) : Calls Try.prog 24 #[.agg #[.int .i64 t.f0, .string t.f1, .string t.f2]] w fun e w' => e = .returned (.iface 23 (.int .i64 n)) ∧ Below w.heap.size w w' := by
  have hc := pCheckT.calls t.f0 t.f1 t.f2 (some n) w (by unfold pCheckT.f; rw [← h])
  exact hc
theorem row_five (w : World) (o1 o2 o3 o4 : Obj) : Kd.C k41 (((((w.alloc o1).alloc o2).alloc o3).alloc o4).alloc (.cells (celR xabc) 41)) (some ⟨w.heap.size + 1 + 1 + 1 + 1, 0, none⟩) 1 [xabc] := by
  have h := row_one ((((w.alloc o1).alloc o2).alloc o3).alloc o4) xabc
  rw [alloc_size1, alloc_size1, alloc_size1, alloc_size1] at h
  exact h
/-- A box's cells. -/
def Box (w : World) (b : Nat) (cs : Array Value) : Prop := ∀ (c : Nat) (v : Value), cs[c]? = some v → w.cell? ⟨b, c, none⟩ = some v
theorem Box.new (w : World) (cs : Array Value) (T : Nat) : Box (w.alloc (.cells cs T)) w.heap.size cs := fun c v h => (blk_cell (blk_new w _) c).trans h
theorem Box.keep {W0 W W' : World} {b : Nat} {cs : Array Value} (h : Below W0.heap.size W0 W) (hb : Below W.heap.size W W') (H : Box W0 b cs) : Box W' b cs := fun c v hc => cell_keep h hb (H c v hc)
end Go.Proofs.Ytdjamphmndbmjaa.M

/- The law MatchParts, walked by hand (printed by wip/gen_matchparts.py): which way it goes is known ahead of each branch. -/
namespace Go.Proofs.Ytdjamphmndbmjaa.M
open Go.RowKit Go.Proofs.YtdjamphmndbmjaaW.PrintWords Go.Proofs.YtdjamphmndbmjaaW.PrintLast Go.Proofs.YtdjamphmndbmjaaW.PrintMore
set_option linter.unusedVariables false
set_option linter.unusedSimpArgs false

attribute [local go_sem high] eqTR
set_option maxHeartbeats 16000000 in
set_option maxRecDepth 100000 in
theorem matchParts_walk (Al : Option Addr) (cl : Nat) (l : List S41) (p : S51) (t : S41) (w : World) (hr0 : Kd.C k41 w Al l.length l) (hc0 : l.length ≤ cl) (hs : ∀ s : ByteArray, s = p.f0.f0 ∨ s = p.f1.f0 ∨ s = p.f2.f0 → s.size ≤ 9223372036854775807) :
    Calls Try.prog 5 #[.slice Al l.length cl, .agg #[.string p.f0.f0, .int .i64 p.f0.f1.f0, .string p.f0.f1.f1, .string p.f0.f1.f2, .string p.f1.f0, .int .i64 p.f1.f1.f0, .string p.f1.f1.f1, .string p.f1.f1.f2, .string p.f2.f0, .int .i64 p.f2.f1.f0, .string p.f2.f1.f1, .string p.f2.f1.f2], .agg #[.int .i64 t.f0.f0, .string t.f0.f1, .string t.f0.f2, .int .i64 t.f1.f0, .string t.f1.f1, .string t.f1.f2, .int .i64 t.f2.f0, .string t.f2.f1, .string t.f2.f2]] w fun e w' => e = .returned (.bool true) ∧ Below w.heap.size w w' := by
  have HW := Aside0.mk (Below.refl w.heap.size w)
  have Hl := Aside0.mk hr0
  have HLl := Aside0.mk hc0
  have HS := Aside0.mk hs
  clear hr0 hc0 hs
  have Bp : Aside0 (Box (w.alloc (.cells #[.string p.f0.f0, .int .i64 p.f0.f1.f0, .string p.f0.f1.f1, .string p.f0.f1.f2, .string p.f1.f0, .int .i64 p.f1.f1.f0, .string p.f1.f1.f1, .string p.f1.f1.f2, .string p.f2.f0, .int .i64 p.f2.f1.f0, .string p.f2.f1.f1, .string p.f2.f1.f2] 51)) w.heap.size #[.string p.f0.f0, .int .i64 p.f0.f1.f0, .string p.f0.f1.f1, .string p.f0.f1.f2, .string p.f1.f0, .int .i64 p.f1.f1.f0, .string p.f1.f1.f1, .string p.f1.f1.f2, .string p.f2.f0, .int .i64 p.f2.f1.f0, .string p.f2.f1.f1, .string p.f2.f1.f2]) := ⟨Box.new _ _ _⟩
  have Bt : Aside0 (Box ((w.alloc (.cells #[.string p.f0.f0, .int .i64 p.f0.f1.f0, .string p.f0.f1.f1, .string p.f0.f1.f2, .string p.f1.f0, .int .i64 p.f1.f1.f0, .string p.f1.f1.f1, .string p.f1.f1.f2, .string p.f2.f0, .int .i64 p.f2.f1.f0, .string p.f2.f1.f1, .string p.f2.f1.f2] 51)).alloc (.cells #[.int .i64 t.f0.f0, .string t.f0.f1, .string t.f0.f2, .int .i64 t.f1.f0, .string t.f1.f1, .string t.f1.f2, .int .i64 t.f2.f0, .string t.f2.f1, .string t.f2.f2] 41)) (w.heap.size + 1) #[.int .i64 t.f0.f0, .string t.f0.f1, .string t.f0.f2, .int .i64 t.f1.f0, .string t.f1.f1, .string t.f1.f2, .int .i64 t.f2.f0, .string t.f2.f1, .string t.f2.f2]) := ⟨by have h := Box.new (w.alloc (.cells #[.string p.f0.f0, .int .i64 p.f0.f1.f0, .string p.f0.f1.f1, .string p.f0.f1.f2, .string p.f1.f0, .int .i64 p.f1.f1.f0, .string p.f1.f1.f1, .string p.f1.f1.f2, .string p.f2.f0, .int .i64 p.f2.f1.f0, .string p.f2.f1.f1, .string p.f2.f1.f2] 51)) #[.int .i64 t.f0.f0, .string t.f0.f1, .string t.f0.f2, .int .i64 t.f1.f0, .string t.f1.f1, .string t.f1.f2, .int .i64 t.f2.f0, .string t.f2.f1, .string t.f2.f2] 41; rw [alloc_size1] at h; exact h⟩
  have Ba : Aside0 (Box (((w.alloc (.cells #[.string p.f0.f0, .int .i64 p.f0.f1.f0, .string p.f0.f1.f1, .string p.f0.f1.f2, .string p.f1.f0, .int .i64 p.f1.f1.f0, .string p.f1.f1.f1, .string p.f1.f1.f2, .string p.f2.f0, .int .i64 p.f2.f1.f0, .string p.f2.f1.f1, .string p.f2.f1.f2] 51)).alloc (.cells #[.int .i64 t.f0.f0, .string t.f0.f1, .string t.f0.f2, .int .i64 t.f1.f0, .string t.f1.f1, .string t.f1.f2, .int .i64 t.f2.f0, .string t.f2.f1, .string t.f2.f2] 41)).alloc (.cells #[.string ⟨#[97]⟩, .int .i64 0, .string ⟨#[]⟩, .string ⟨#[]⟩, .string ⟨#[98]⟩, .int .i64 0, .string ⟨#[]⟩, .string ⟨#[]⟩, .string ⟨#[99]⟩, .int .i64 0, .string ⟨#[]⟩, .string ⟨#[]⟩] 51)) (w.heap.size + 1 + 1) #[.string ⟨#[97]⟩, .int .i64 0, .string ⟨#[]⟩, .string ⟨#[]⟩, .string ⟨#[98]⟩, .int .i64 0, .string ⟨#[]⟩, .string ⟨#[]⟩, .string ⟨#[99]⟩, .int .i64 0, .string ⟨#[]⟩, .string ⟨#[]⟩]) := ⟨by have h := Box.new ((w.alloc (.cells #[.string p.f0.f0, .int .i64 p.f0.f1.f0, .string p.f0.f1.f1, .string p.f0.f1.f2, .string p.f1.f0, .int .i64 p.f1.f1.f0, .string p.f1.f1.f1, .string p.f1.f1.f2, .string p.f2.f0, .int .i64 p.f2.f1.f0, .string p.f2.f1.f1, .string p.f2.f1.f2] 51)).alloc (.cells #[.int .i64 t.f0.f0, .string t.f0.f1, .string t.f0.f2, .int .i64 t.f1.f0, .string t.f1.f1, .string t.f1.f2, .int .i64 t.f2.f0, .string t.f2.f1, .string t.f2.f2] 41)) #[.string ⟨#[97]⟩, .int .i64 0, .string ⟨#[]⟩, .string ⟨#[]⟩, .string ⟨#[98]⟩, .int .i64 0, .string ⟨#[]⟩, .string ⟨#[]⟩, .string ⟨#[99]⟩, .int .i64 0, .string ⟨#[]⟩, .string ⟨#[]⟩] 51; rw [alloc_size1, alloc_size1] at h; exact h⟩
  have Bx : Aside0 (Box ((((w.alloc (.cells #[.string p.f0.f0, .int .i64 p.f0.f1.f0, .string p.f0.f1.f1, .string p.f0.f1.f2, .string p.f1.f0, .int .i64 p.f1.f1.f0, .string p.f1.f1.f1, .string p.f1.f1.f2, .string p.f2.f0, .int .i64 p.f2.f1.f0, .string p.f2.f1.f1, .string p.f2.f1.f2] 51)).alloc (.cells #[.int .i64 t.f0.f0, .string t.f0.f1, .string t.f0.f2, .int .i64 t.f1.f0, .string t.f1.f1, .string t.f1.f2, .int .i64 t.f2.f0, .string t.f2.f1, .string t.f2.f2] 41)).alloc (.cells #[.string ⟨#[97]⟩, .int .i64 0, .string ⟨#[]⟩, .string ⟨#[]⟩, .string ⟨#[98]⟩, .int .i64 0, .string ⟨#[]⟩, .string ⟨#[]⟩, .string ⟨#[99]⟩, .int .i64 0, .string ⟨#[]⟩, .string ⟨#[]⟩] 51)).alloc (.cells #[.int .i64 1, .string ⟨#[97]⟩, .string ⟨#[]⟩, .int .i64 1, .string ⟨#[98]⟩, .string ⟨#[]⟩, .int .i64 1, .string ⟨#[99]⟩, .string ⟨#[]⟩] 41)) (w.heap.size + 1 + 1 + 1) #[.int .i64 1, .string ⟨#[97]⟩, .string ⟨#[]⟩, .int .i64 1, .string ⟨#[98]⟩, .string ⟨#[]⟩, .int .i64 1, .string ⟨#[99]⟩, .string ⟨#[]⟩]) := ⟨by have h := Box.new (((w.alloc (.cells #[.string p.f0.f0, .int .i64 p.f0.f1.f0, .string p.f0.f1.f1, .string p.f0.f1.f2, .string p.f1.f0, .int .i64 p.f1.f1.f0, .string p.f1.f1.f1, .string p.f1.f1.f2, .string p.f2.f0, .int .i64 p.f2.f1.f0, .string p.f2.f1.f1, .string p.f2.f1.f2] 51)).alloc (.cells #[.int .i64 t.f0.f0, .string t.f0.f1, .string t.f0.f2, .int .i64 t.f1.f0, .string t.f1.f1, .string t.f1.f2, .int .i64 t.f2.f0, .string t.f2.f1, .string t.f2.f2] 41)).alloc (.cells #[.string ⟨#[97]⟩, .int .i64 0, .string ⟨#[]⟩, .string ⟨#[]⟩, .string ⟨#[98]⟩, .int .i64 0, .string ⟨#[]⟩, .string ⟨#[]⟩, .string ⟨#[99]⟩, .int .i64 0, .string ⟨#[]⟩, .string ⟨#[]⟩] 51)) #[.int .i64 1, .string ⟨#[97]⟩, .string ⟨#[]⟩, .int .i64 1, .string ⟨#[98]⟩, .string ⟨#[]⟩, .int .i64 1, .string ⟨#[99]⟩, .string ⟨#[]⟩] 41; rw [alloc_size1, alloc_size1, alloc_size1] at h; exact h⟩
  go_enter Try.func5, Try.ntmps5
  go_wp2_with (first | (go_at_call 18; refine stop_ ?_) | (go_at_call 19; refine stop_ ?_) | (go_at_call 20; refine stop_ ?_) | (go_at_call 21; refine stop_ ?_) | (go_at_call 22; refine stop_ ?_) | (go_at_call 23; refine stop_ ?_) | (go_at_call 24; refine stop_ ?_))
  repeat (go_quiet (fail); try (go_wp2_with (first | (go_at_call 18; refine stop_ ?_) | (go_at_call 19; refine stop_ ?_) | (go_at_call 20; refine stop_ ?_) | (go_at_call 21; refine stop_ ?_) | (go_at_call 22; refine stop_ ?_) | (go_at_call 23; refine stop_ ?_) | (go_at_call 24; refine stop_ ?_))))
  refine ⟨?_⟩
  refine Calls.mono (match_ok match_xabc (some ⟨w.heap.size + 1 + 1 + 1 + 1, 0, none⟩) 1 _ (row_five w _ _ _ _) (Nat.le_refl _) all_str) ?_
  rintro e w' ⟨v, rfl, hv, hb⟩
  replace Hl := Aside0.mk (Kd.C_below (Kd.C_below Hl.out (by repeat (first | exact Below.refl _ _ | refine below_alloc ?_ _ | refine pw_below_drewN ?_ _ | refine below_drew1 ?_))) hb)
  replace Bp := Aside0.mk (Box.keep (by repeat (first | exact Below.refl _ _ | refine below_alloc ?_ _ | refine pw_below_drewN ?_ _ | refine below_drew1 ?_)) hb Bp.out)
  replace Bt := Aside0.mk (Box.keep (by repeat (first | exact Below.refl _ _ | refine below_alloc ?_ _ | refine pw_below_drewN ?_ _ | refine below_drew1 ?_)) hb Bt.out)
  replace Ba := Aside0.mk (Box.keep (by repeat (first | exact Below.refl _ _ | refine below_alloc ?_ _ | refine pw_below_drewN ?_ _ | refine below_drew1 ?_)) hb Ba.out)
  replace Bx := Aside0.mk (Box.keep (by repeat (first | exact Below.refl _ _ | refine below_alloc ?_ _ | refine pw_below_drewN ?_ _ | refine below_drew1 ?_)) hb Bx.out)
  replace HW := Aside0.mk (below_step (below_step HW.out (by repeat (first | exact Below.refl _ _ | refine below_alloc ?_ _ | refine pw_below_drewN ?_ _ | refine below_drew1 ?_))) hb)
  obtain ⟨Af, cf, ev, hC, hL⟩ := hv
  subst ev
  have Hf := Aside0.mk hC
  have HLf := Aside0.mk hL
  clear hC hL
  clear hb
  have x0 := Bx.out 0 (.int .i64 1) rfl
  have x1 := Bx.out 1 (.string ⟨#[97]⟩) rfl
  have x2 := Bx.out 2 (.string ⟨#[]⟩) rfl
  have x3 := Bx.out 3 (.int .i64 1) rfl
  have x4 := Bx.out 4 (.string ⟨#[98]⟩) rfl
  have x5 := Bx.out 5 (.string ⟨#[]⟩) rfl
  have x6 := Bx.out 6 (.int .i64 1) rfl
  have x7 := Bx.out 7 (.string ⟨#[99]⟩) rfl
  have x8 := Bx.out 8 (.string ⟨#[]⟩) rfl
  obtain ⟨ad, e0, z0, z1, z2, z3, z4, z5, z6, z7, z8⟩ := one_cells Hf.out
  subst e0
  have y0 : w'.cell? ad = some (.int .i64 1) := z0
  have y1 : w'.cell? ⟨ad.block, ad.off + 1, none⟩ = some (.string ⟨#[97]⟩) := z1
  have y2 : w'.cell? ⟨ad.block, ad.off + 2, none⟩ = some (.string ⟨#[]⟩) := z2
  have y3 : w'.cell? ⟨ad.block, ad.off + 3, none⟩ = some (.int .i64 1) := z3
  have y4 : w'.cell? ⟨ad.block, ad.off + 4, none⟩ = some (.string ⟨#[98]⟩) := z4
  have y5 : w'.cell? ⟨ad.block, ad.off + 5, none⟩ = some (.string ⟨#[]⟩) := z5
  have y6 : w'.cell? ⟨ad.block, ad.off + 6, none⟩ = some (.int .i64 1) := z6
  have y7 : w'.cell? ⟨ad.block, ad.off + 7, none⟩ = some (.string ⟨#[99]⟩) := z7
  have y8 : w'.cell? ⟨ad.block, ad.off + 8, none⟩ = some (.string ⟨#[]⟩) := z8
  clear z0 z1 z2 z3 z4 z5 z6 z7 z8
  have hxx : eqE (⟨⟨1, ⟨#[97]⟩, ⟨#[]⟩⟩, ⟨1, ⟨#[98]⟩, ⟨#[]⟩⟩, ⟨1, ⟨#[99]⟩, ⟨#[]⟩⟩⟩ : S41) (⟨⟨1, ⟨#[97]⟩, ⟨#[]⟩⟩, ⟨1, ⟨#[98]⟩, ⟨#[]⟩⟩, ⟨1, ⟨#[99]⟩, ⟨#[]⟩⟩⟩ : S41) = true := (eqE_decide xabc xabc).trans (decide_eq_true rfl)
  go_wp2_with (first | (go_at_call 18; refine stop_ ?_) | (go_at_call 19; refine stop_ ?_) | (go_at_call 20; refine stop_ ?_) | (go_at_call 21; refine stop_ ?_) | (go_at_call 22; refine stop_ ?_) | (go_at_call 23; refine stop_ ?_) | (go_at_call 24; refine stop_ ?_))
  repeat (go_quiet (fail); try (go_wp2_with (first | (go_at_call 18; refine stop_ ?_) | (go_at_call 19; refine stop_ ?_) | (go_at_call 20; refine stop_ ?_) | (go_at_call 21; refine stop_ ?_) | (go_at_call 22; refine stop_ ?_) | (go_at_call 23; refine stop_ ?_) | (go_at_call 24; refine stop_ ?_))))
  clear y0 y1 y2 y3 y4 y5 y6 y7 y8 hxx Bx Hf HLf
  clear x0 x1 x2 x3 x4 x5 x6 x7 x8
  cases hr : sortedR l with
  | some n =>
    have HR : Aside0 (sortedR l = some n) := ⟨hr⟩
    clear hr
    refine ⟨?_⟩
    refine Calls.mono (sorted_err HR.out Al cl _ (Kd.C_below Hl.out (by repeat (first | exact Below.refl _ _ | refine below_alloc ?_ _ | refine pw_below_drewN ?_ _ | refine below_drew1 ?_))) HLl.out) ?_
    rintro e w' ⟨rfl, hb⟩
    replace Hl := Aside0.mk (Kd.C_below (Kd.C_below Hl.out (by repeat (first | exact Below.refl _ _ | refine below_alloc ?_ _ | refine pw_below_drewN ?_ _ | refine below_drew1 ?_))) hb)
    replace Bp := Aside0.mk (Box.keep (by repeat (first | exact Below.refl _ _ | refine below_alloc ?_ _ | refine pw_below_drewN ?_ _ | refine below_drew1 ?_)) hb Bp.out)
    replace Bt := Aside0.mk (Box.keep (by repeat (first | exact Below.refl _ _ | refine below_alloc ?_ _ | refine pw_below_drewN ?_ _ | refine below_drew1 ?_)) hb Bt.out)
    replace Ba := Aside0.mk (Box.keep (by repeat (first | exact Below.refl _ _ | refine below_alloc ?_ _ | refine pw_below_drewN ?_ _ | refine below_drew1 ?_)) hb Ba.out)
    replace HW := Aside0.mk (below_step (below_step HW.out (by repeat (first | exact Below.refl _ _ | refine below_alloc ?_ _ | refine pw_below_drewN ?_ _ | refine below_drew1 ?_))) hb)
    clear hb
    have a0 := Ba.out 0 (.string ⟨#[97]⟩) rfl
    have a1 := Ba.out 1 (.int .i64 0) rfl
    have a2 := Ba.out 2 (.string ⟨#[]⟩) rfl
    have a3 := Ba.out 3 (.string ⟨#[]⟩) rfl
    have a4 := Ba.out 4 (.string ⟨#[98]⟩) rfl
    have a5 := Ba.out 5 (.int .i64 0) rfl
    have a6 := Ba.out 6 (.string ⟨#[]⟩) rfl
    have a7 := Ba.out 7 (.string ⟨#[]⟩) rfl
    have a8 := Ba.out 8 (.string ⟨#[99]⟩) rfl
    have a9 := Ba.out 9 (.int .i64 0) rfl
    have a10 := Ba.out 10 (.string ⟨#[]⟩) rfl
    have a11 := Ba.out 11 (.string ⟨#[]⟩) rfl
    go_wp2_with (first | (go_at_call 18; refine stop_ ?_) | (go_at_call 19; refine stop_ ?_) | (go_at_call 20; refine stop_ ?_) | (go_at_call 21; refine stop_ ?_) | (go_at_call 22; refine stop_ ?_) | (go_at_call 23; refine stop_ ?_) | (go_at_call 24; refine stop_ ?_))
    repeat (go_quiet (fail); try (go_wp2_with (first | (go_at_call 18; refine stop_ ?_) | (go_at_call 19; refine stop_ ?_) | (go_at_call 20; refine stop_ ?_) | (go_at_call 21; refine stop_ ?_) | (go_at_call 22; refine stop_ ?_) | (go_at_call 23; refine stop_ ?_) | (go_at_call 24; refine stop_ ?_))))
    refine ⟨?_⟩
    clear a0 a1 a2 a3 a4 a5 a6 a7 a8 a9 a10 a11
    refine Calls.mono (match_err (match_bad pAll HR.out) Al cl _ (Kd.C_below Hl.out (by repeat (first | exact Below.refl _ _ | refine below_alloc ?_ _ | refine pw_below_drewN ?_ _ | refine below_drew1 ?_))) HLl.out all_str) ?_
    rintro e w' ⟨v, rfl, hv, hb⟩
    replace Hl := Aside0.mk (Kd.C_below (Kd.C_below Hl.out (by repeat (first | exact Below.refl _ _ | refine below_alloc ?_ _ | refine pw_below_drewN ?_ _ | refine below_drew1 ?_))) hb)
    replace Bp := Aside0.mk (Box.keep (by repeat (first | exact Below.refl _ _ | refine below_alloc ?_ _ | refine pw_below_drewN ?_ _ | refine below_drew1 ?_)) hb Bp.out)
    replace Bt := Aside0.mk (Box.keep (by repeat (first | exact Below.refl _ _ | refine below_alloc ?_ _ | refine pw_below_drewN ?_ _ | refine below_drew1 ?_)) hb Bt.out)
    replace Ba := Aside0.mk (Box.keep (by repeat (first | exact Below.refl _ _ | refine below_alloc ?_ _ | refine pw_below_drewN ?_ _ | refine below_drew1 ?_)) hb Ba.out)
    replace HW := Aside0.mk (below_step (below_step HW.out (by repeat (first | exact Below.refl _ _ | refine below_alloc ?_ _ | refine pw_below_drewN ?_ _ | refine below_drew1 ?_))) hb)
    obtain ⟨Am, cm, ev, hC, hL⟩ := hv
    subst ev
    have Hm := Aside0.mk hC
    have HLm := Aside0.mk hL
    clear hC hL
    clear hb
    go_wp2_with (first | (go_at_call 18; refine stop_ ?_) | (go_at_call 19; refine stop_ ?_) | (go_at_call 20; refine stop_ ?_) | (go_at_call 21; refine stop_ ?_) | (go_at_call 22; refine stop_ ?_) | (go_at_call 23; refine stop_ ?_) | (go_at_call 24; refine stop_ ?_))
    repeat (go_quiet (fail); try (go_wp2_with (first | (go_at_call 18; refine stop_ ?_) | (go_at_call 19; refine stop_ ?_) | (go_at_call 20; refine stop_ ?_) | (go_at_call 21; refine stop_ ?_) | (go_at_call 22; refine stop_ ?_) | (go_at_call 23; refine stop_ ?_) | (go_at_call 24; refine stop_ ?_))))
    go_ret
    exact ⟨by first | rfl | (simp; done) | (simp [*]; done) | (simp; omega), below_step HW.out (by repeat (first | exact Below.refl _ _ | refine below_alloc ?_ _ | refine pw_below_drewN ?_ _ | refine below_drew1 ?_))⟩
  | none =>
    have HR : Aside0 (sortedR l = none) := ⟨hr⟩
    clear hr
    obtain ⟨nv, ev, fv, isv, hcn, hha, hcase⟩ := just_case HR.out t
    have HCN := Aside0.mk hcn
    have HHA := Aside0.mk hha
    clear hcn hha
    refine ⟨?_⟩
    refine Calls.mono (sorted_ok HR.out Al cl _ (Kd.C_below Hl.out (by repeat (first | exact Below.refl _ _ | refine below_alloc ?_ _ | refine pw_below_drewN ?_ _ | refine below_drew1 ?_))) HLl.out) ?_
    rintro e w' ⟨rfl, hb⟩
    replace Hl := Aside0.mk (Kd.C_below (Kd.C_below Hl.out (by repeat (first | exact Below.refl _ _ | refine below_alloc ?_ _ | refine pw_below_drewN ?_ _ | refine below_drew1 ?_))) hb)
    replace Bp := Aside0.mk (Box.keep (by repeat (first | exact Below.refl _ _ | refine below_alloc ?_ _ | refine pw_below_drewN ?_ _ | refine below_drew1 ?_)) hb Bp.out)
    replace Bt := Aside0.mk (Box.keep (by repeat (first | exact Below.refl _ _ | refine below_alloc ?_ _ | refine pw_below_drewN ?_ _ | refine below_drew1 ?_)) hb Bt.out)
    replace Ba := Aside0.mk (Box.keep (by repeat (first | exact Below.refl _ _ | refine below_alloc ?_ _ | refine pw_below_drewN ?_ _ | refine below_drew1 ?_)) hb Ba.out)
    replace HW := Aside0.mk (below_step (below_step HW.out (by repeat (first | exact Below.refl _ _ | refine below_alloc ?_ _ | refine pw_below_drewN ?_ _ | refine below_drew1 ?_))) hb)
    clear hb
    have a0 := Ba.out 0 (.string ⟨#[97]⟩) rfl
    have a1 := Ba.out 1 (.int .i64 0) rfl
    have a2 := Ba.out 2 (.string ⟨#[]⟩) rfl
    have a3 := Ba.out 3 (.string ⟨#[]⟩) rfl
    have a4 := Ba.out 4 (.string ⟨#[98]⟩) rfl
    have a5 := Ba.out 5 (.int .i64 0) rfl
    have a6 := Ba.out 6 (.string ⟨#[]⟩) rfl
    have a7 := Ba.out 7 (.string ⟨#[]⟩) rfl
    have a8 := Ba.out 8 (.string ⟨#[99]⟩) rfl
    have a9 := Ba.out 9 (.int .i64 0) rfl
    have a10 := Ba.out 10 (.string ⟨#[]⟩) rfl
    have a11 := Ba.out 11 (.string ⟨#[]⟩) rfl
    go_wp2_with (first | (go_at_call 18; refine stop_ ?_) | (go_at_call 19; refine stop_ ?_) | (go_at_call 20; refine stop_ ?_) | (go_at_call 21; refine stop_ ?_) | (go_at_call 22; refine stop_ ?_) | (go_at_call 23; refine stop_ ?_) | (go_at_call 24; refine stop_ ?_))
    repeat (go_quiet (fail); try (go_wp2_with (first | (go_at_call 18; refine stop_ ?_) | (go_at_call 19; refine stop_ ?_) | (go_at_call 20; refine stop_ ?_) | (go_at_call 21; refine stop_ ?_) | (go_at_call 22; refine stop_ ?_) | (go_at_call 23; refine stop_ ?_) | (go_at_call 24; refine stop_ ?_))))
    refine ⟨?_⟩
    clear a0 a1 a2 a3 a4 a5 a6 a7 a8 a9 a10 a11
    refine Calls.mono (match_ok (match_all HR.out) Al cl _ (Kd.C_below Hl.out (by repeat (first | exact Below.refl _ _ | refine below_alloc ?_ _ | refine pw_below_drewN ?_ _ | refine below_drew1 ?_))) HLl.out all_str) ?_
    rintro e w' ⟨v, rfl, hv, hb⟩
    replace Hl := Aside0.mk (Kd.C_below (Kd.C_below Hl.out (by repeat (first | exact Below.refl _ _ | refine below_alloc ?_ _ | refine pw_below_drewN ?_ _ | refine below_drew1 ?_))) hb)
    replace Bp := Aside0.mk (Box.keep (by repeat (first | exact Below.refl _ _ | refine below_alloc ?_ _ | refine pw_below_drewN ?_ _ | refine below_drew1 ?_)) hb Bp.out)
    replace Bt := Aside0.mk (Box.keep (by repeat (first | exact Below.refl _ _ | refine below_alloc ?_ _ | refine pw_below_drewN ?_ _ | refine below_drew1 ?_)) hb Bt.out)
    replace Ba := Aside0.mk (Box.keep (by repeat (first | exact Below.refl _ _ | refine below_alloc ?_ _ | refine pw_below_drewN ?_ _ | refine below_drew1 ?_)) hb Ba.out)
    replace HW := Aside0.mk (below_step (below_step HW.out (by repeat (first | exact Below.refl _ _ | refine below_alloc ?_ _ | refine pw_below_drewN ?_ _ | refine below_drew1 ?_))) hb)
    obtain ⟨Am, cm, ev, hC, hL⟩ := hv
    subst ev
    have Hm := Aside0.mk hC
    have HLm := Aside0.mk hL
    clear hC hL
    clear hb
    go_wp2_with (first | (go_at_call 18; refine stop_ ?_) | (go_at_call 19; refine stop_ ?_) | (go_at_call 20; refine stop_ ?_) | (go_at_call 21; refine stop_ ?_) | (go_at_call 22; refine stop_ ?_) | (go_at_call 23; refine stop_ ?_) | (go_at_call 24; refine stop_ ?_))
    repeat (go_quiet (fail); try (go_wp2_with (first | (go_at_call 18; refine stop_ ?_) | (go_at_call 19; refine stop_ ?_) | (go_at_call 20; refine stop_ ?_) | (go_at_call 21; refine stop_ ?_) | (go_at_call 22; refine stop_ ?_) | (go_at_call 23; refine stop_ ?_) | (go_at_call 24; refine stop_ ?_))))
    refine ⟨?_⟩
    refine Calls.mono (same_true rfl Am Al cm cl _ (Kd.C_below Hm.out (by repeat (first | exact Below.refl _ _ | refine below_alloc ?_ _ | refine pw_below_drewN ?_ _ | refine below_drew1 ?_))) (Kd.C_below Hl.out (by repeat (first | exact Below.refl _ _ | refine below_alloc ?_ _ | refine pw_below_drewN ?_ _ | refine below_drew1 ?_)))) ?_
    rintro e w' ⟨rfl, hb⟩
    replace Hl := Aside0.mk (Kd.C_below (Kd.C_below Hl.out (by repeat (first | exact Below.refl _ _ | refine below_alloc ?_ _ | refine pw_below_drewN ?_ _ | refine below_drew1 ?_))) hb)
    replace Hm := Aside0.mk (Kd.C_below (Kd.C_below Hm.out (by repeat (first | exact Below.refl _ _ | refine below_alloc ?_ _ | refine pw_below_drewN ?_ _ | refine below_drew1 ?_))) hb)
    replace Bp := Aside0.mk (Box.keep (by repeat (first | exact Below.refl _ _ | refine below_alloc ?_ _ | refine pw_below_drewN ?_ _ | refine below_drew1 ?_)) hb Bp.out)
    replace Bt := Aside0.mk (Box.keep (by repeat (first | exact Below.refl _ _ | refine below_alloc ?_ _ | refine pw_below_drewN ?_ _ | refine below_drew1 ?_)) hb Bt.out)
    replace Ba := Aside0.mk (Box.keep (by repeat (first | exact Below.refl _ _ | refine below_alloc ?_ _ | refine pw_below_drewN ?_ _ | refine below_drew1 ?_)) hb Ba.out)
    replace HW := Aside0.mk (below_step (below_step HW.out (by repeat (first | exact Below.refl _ _ | refine below_alloc ?_ _ | refine pw_below_drewN ?_ _ | refine below_drew1 ?_))) hb)
    clear hb
    clear Ba Hm HLm
    have t0 := Bt.out 0 (.int .i64 t.f0.f0) rfl
    have t1 := Bt.out 1 (.string t.f0.f1) rfl
    have t2 := Bt.out 2 (.string t.f0.f2) rfl
    have t3 := Bt.out 3 (.int .i64 t.f1.f0) rfl
    have t4 := Bt.out 4 (.string t.f1.f1) rfl
    have t5 := Bt.out 5 (.string t.f1.f2) rfl
    have t6 := Bt.out 6 (.int .i64 t.f2.f0) rfl
    have t7 := Bt.out 7 (.string t.f2.f1) rfl
    have t8 := Bt.out 8 (.string t.f2.f2) rfl
    go_wp2_with (first | (go_at_call 18; refine stop_ ?_) | (go_at_call 19; refine stop_ ?_) | (go_at_call 20; refine stop_ ?_) | (go_at_call 21; refine stop_ ?_) | (go_at_call 22; refine stop_ ?_) | (go_at_call 23; refine stop_ ?_) | (go_at_call 24; refine stop_ ?_))
    repeat (go_quiet (fail); try (go_wp2_with (first | (go_at_call 18; refine stop_ ?_) | (go_at_call 19; refine stop_ ?_) | (go_at_call 20; refine stop_ ?_) | (go_at_call 21; refine stop_ ?_) | (go_at_call 22; refine stop_ ?_) | (go_at_call 23; refine stop_ ?_) | (go_at_call 24; refine stop_ ?_))))
    refine ⟨?_⟩
    clear t0 t1 t2 t3 t4 t5 t6 t7 t8
    refine Calls.mono (HCN.out Al cl _ (Kd.C_below Hl.out (by repeat (first | exact Below.refl _ _ | refine below_alloc ?_ _ | refine pw_below_drewN ?_ _ | refine below_drew1 ?_))) HLl.out) ?_
    rintro e w' ⟨rfl, hb⟩
    replace Hl := Aside0.mk (Kd.C_below (Kd.C_below Hl.out (by repeat (first | exact Below.refl _ _ | refine below_alloc ?_ _ | refine pw_below_drewN ?_ _ | refine below_drew1 ?_))) hb)
    replace Bp := Aside0.mk (Box.keep (by repeat (first | exact Below.refl _ _ | refine below_alloc ?_ _ | refine pw_below_drewN ?_ _ | refine below_drew1 ?_)) hb Bp.out)
    replace Bt := Aside0.mk (Box.keep (by repeat (first | exact Below.refl _ _ | refine below_alloc ?_ _ | refine pw_below_drewN ?_ _ | refine below_drew1 ?_)) hb Bt.out)
    replace HW := Aside0.mk (below_step (below_step HW.out (by repeat (first | exact Below.refl _ _ | refine below_alloc ?_ _ | refine pw_below_drewN ?_ _ | refine below_drew1 ?_))) hb)
    clear hb
    have t0 := Bt.out 0 (.int .i64 t.f0.f0) rfl
    have t1 := Bt.out 1 (.string t.f0.f1) rfl
    have t2 := Bt.out 2 (.string t.f0.f2) rfl
    have t3 := Bt.out 3 (.int .i64 t.f1.f0) rfl
    have t4 := Bt.out 4 (.string t.f1.f1) rfl
    have t5 := Bt.out 5 (.string t.f1.f2) rfl
    have t6 := Bt.out 6 (.int .i64 t.f2.f0) rfl
    have t7 := Bt.out 7 (.string t.f2.f1) rfl
    have t8 := Bt.out 8 (.string t.f2.f2) rfl
    go_wp2_with (first | (go_at_call 18; refine stop_ ?_) | (go_at_call 19; refine stop_ ?_) | (go_at_call 20; refine stop_ ?_) | (go_at_call 21; refine stop_ ?_) | (go_at_call 22; refine stop_ ?_) | (go_at_call 23; refine stop_ ?_) | (go_at_call 24; refine stop_ ?_))
    repeat (go_quiet (fail); try (go_wp2_with (first | (go_at_call 18; refine stop_ ?_) | (go_at_call 19; refine stop_ ?_) | (go_at_call 20; refine stop_ ?_) | (go_at_call 21; refine stop_ ?_) | (go_at_call 22; refine stop_ ?_) | (go_at_call 23; refine stop_ ?_) | (go_at_call 24; refine stop_ ?_))))
    refine ⟨?_⟩
    clear t0 t1 t2 t3 t4 t5 t6 t7 t8
    refine Calls.mono (HHA.out Al cl _ (Kd.C_below Hl.out (by repeat (first | exact Below.refl _ _ | refine below_alloc ?_ _ | refine pw_below_drewN ?_ _ | refine below_drew1 ?_))) HLl.out) ?_
    rintro e w' ⟨rfl, hb⟩
    replace Hl := Aside0.mk (Kd.C_below (Kd.C_below Hl.out (by repeat (first | exact Below.refl _ _ | refine below_alloc ?_ _ | refine pw_below_drewN ?_ _ | refine below_drew1 ?_))) hb)
    replace Bp := Aside0.mk (Box.keep (by repeat (first | exact Below.refl _ _ | refine below_alloc ?_ _ | refine pw_below_drewN ?_ _ | refine below_drew1 ?_)) hb Bp.out)
    replace Bt := Aside0.mk (Box.keep (by repeat (first | exact Below.refl _ _ | refine below_alloc ?_ _ | refine pw_below_drewN ?_ _ | refine below_drew1 ?_)) hb Bt.out)
    replace HW := Aside0.mk (below_step (below_step HW.out (by repeat (first | exact Below.refl _ _ | refine below_alloc ?_ _ | refine pw_below_drewN ?_ _ | refine below_drew1 ?_))) hb)
    clear hb
    have p0 := Bp.out 0 (.string p.f0.f0) rfl
    have p1 := Bp.out 1 (.int .i64 p.f0.f1.f0) rfl
    have p2 := Bp.out 2 (.string p.f0.f1.f1) rfl
    have p3 := Bp.out 3 (.string p.f0.f1.f2) rfl
    have p4 := Bp.out 4 (.string p.f1.f0) rfl
    have p5 := Bp.out 5 (.int .i64 p.f1.f1.f0) rfl
    have p6 := Bp.out 6 (.string p.f1.f1.f1) rfl
    have p7 := Bp.out 7 (.string p.f1.f1.f2) rfl
    have p8 := Bp.out 8 (.string p.f2.f0) rfl
    have p9 := Bp.out 9 (.int .i64 p.f2.f1.f0) rfl
    have p10 := Bp.out 10 (.string p.f2.f1.f1) rfl
    have p11 := Bp.out 11 (.string p.f2.f1.f2) rfl
    clear HCN HHA
    rcases hcase with ⟨rfl, rfl, rfl, rfl⟩ | ⟨rfl, rfl, rfl, rfl⟩ | ⟨n, rfl⟩
    all_goals
      go_wp2_with (first | (go_at_call 18; refine stop_ ?_) | (go_at_call 19; refine stop_ ?_) | (go_at_call 20; refine stop_ ?_) | (go_at_call 21; refine stop_ ?_) | (go_at_call 22; refine stop_ ?_) | (go_at_call 23; refine stop_ ?_) | (go_at_call 24; refine stop_ ?_))
      repeat (go_quiet (fail); try (go_wp2_with (first | (go_at_call 18; refine stop_ ?_) | (go_at_call 19; refine stop_ ?_) | (go_at_call 20; refine stop_ ?_) | (go_at_call 21; refine stop_ ?_) | (go_at_call 22; refine stop_ ?_) | (go_at_call 23; refine stop_ ?_) | (go_at_call 24; refine stop_ ?_))))
      cases hv : varsErr p with
      | some n =>
        have HV : Aside0 (varsErr p = some n) := ⟨hv⟩
        clear hv
        refine ⟨?_⟩
        clear p0 p1 p2 p3 p4 p5 p6 p7 p8 p9 p10 p11
        refine Calls.mono (match_err (match_vars HR.out HV.out) Al cl _ (Kd.C_below Hl.out (by repeat (first | exact Below.refl _ _ | refine below_alloc ?_ _ | refine pw_below_drewN ?_ _ | refine below_drew1 ?_))) HLl.out HS.out) ?_
        rintro e w' ⟨v, rfl, hv, hb⟩
        replace Hl := Aside0.mk (Kd.C_below (Kd.C_below Hl.out (by repeat (first | exact Below.refl _ _ | refine below_alloc ?_ _ | refine pw_below_drewN ?_ _ | refine below_drew1 ?_))) hb)
        replace Bp := Aside0.mk (Box.keep (by repeat (first | exact Below.refl _ _ | refine below_alloc ?_ _ | refine pw_below_drewN ?_ _ | refine below_drew1 ?_)) hb Bp.out)
        replace Bt := Aside0.mk (Box.keep (by repeat (first | exact Below.refl _ _ | refine below_alloc ?_ _ | refine pw_below_drewN ?_ _ | refine below_drew1 ?_)) hb Bt.out)
        replace HW := Aside0.mk (below_step (below_step HW.out (by repeat (first | exact Below.refl _ _ | refine below_alloc ?_ _ | refine pw_below_drewN ?_ _ | refine below_drew1 ?_))) hb)
        obtain ⟨As, cs, ev, hC, hL⟩ := hv
        subst ev
        have Hs := Aside0.mk hC
        have HLs := Aside0.mk hL
        clear hC hL
        clear hb
        go_wp2_with (first | (go_at_call 18; refine stop_ ?_) | (go_at_call 19; refine stop_ ?_) | (go_at_call 20; refine stop_ ?_) | (go_at_call 21; refine stop_ ?_) | (go_at_call 22; refine stop_ ?_) | (go_at_call 23; refine stop_ ?_) | (go_at_call 24; refine stop_ ?_))
        repeat (go_quiet (fail); try (go_wp2_with (first | (go_at_call 18; refine stop_ ?_) | (go_at_call 19; refine stop_ ?_) | (go_at_call 20; refine stop_ ?_) | (go_at_call 21; refine stop_ ?_) | (go_at_call 22; refine stop_ ?_) | (go_at_call 23; refine stop_ ?_) | (go_at_call 24; refine stop_ ?_))))
        go_ret
        exact ⟨by first | rfl | (simp; done) | (simp [*]; done) | (simp; omega), below_step HW.out (by repeat (first | exact Below.refl _ _ | refine below_alloc ?_ _ | refine pw_below_drewN ?_ _ | refine below_drew1 ?_))⟩
      | none =>
        have HV : Aside0 (varsErr p = none) := ⟨hv⟩
        clear hv
        have HSM : Aside0 (sortedR (matchR l p) = none) := ⟨sorted_matchR p HR.out⟩
        have HPM : Aside0 (bothR (matchR l p) l true = (matchR l p, none)) := ⟨both_of HSM.out HR.out (part_match l p)⟩
        refine ⟨?_⟩
        clear p0 p1 p2 p3 p4 p5 p6 p7 p8 p9 p10 p11
        refine Calls.mono (match_ok (match_good HR.out HV.out) Al cl _ (Kd.C_below Hl.out (by repeat (first | exact Below.refl _ _ | refine below_alloc ?_ _ | refine pw_below_drewN ?_ _ | refine below_drew1 ?_))) HLl.out HS.out) ?_
        rintro e w' ⟨v, rfl, hv, hb⟩
        replace Hl := Aside0.mk (Kd.C_below (Kd.C_below Hl.out (by repeat (first | exact Below.refl _ _ | refine below_alloc ?_ _ | refine pw_below_drewN ?_ _ | refine below_drew1 ?_))) hb)
        replace Bp := Aside0.mk (Box.keep (by repeat (first | exact Below.refl _ _ | refine below_alloc ?_ _ | refine pw_below_drewN ?_ _ | refine below_drew1 ?_)) hb Bp.out)
        replace Bt := Aside0.mk (Box.keep (by repeat (first | exact Below.refl _ _ | refine below_alloc ?_ _ | refine pw_below_drewN ?_ _ | refine below_drew1 ?_)) hb Bt.out)
        replace HW := Aside0.mk (below_step (below_step HW.out (by repeat (first | exact Below.refl _ _ | refine below_alloc ?_ _ | refine pw_below_drewN ?_ _ | refine below_drew1 ?_))) hb)
        obtain ⟨As, cs, ev, hC, hL⟩ := hv
        subst ev
        have Hs := Aside0.mk hC
        have HLs := Aside0.mk hL
        clear hC hL
        clear hb
        generalize matchR l p = s at *
        go_wp2_with (first | (go_at_call 18; refine stop_ ?_) | (go_at_call 19; refine stop_ ?_) | (go_at_call 20; refine stop_ ?_) | (go_at_call 21; refine stop_ ?_) | (go_at_call 22; refine stop_ ?_) | (go_at_call 23; refine stop_ ?_) | (go_at_call 24; refine stop_ ?_))
        repeat (go_quiet (fail); try (go_wp2_with (first | (go_at_call 18; refine stop_ ?_) | (go_at_call 19; refine stop_ ?_) | (go_at_call 20; refine stop_ ?_) | (go_at_call 21; refine stop_ ?_) | (go_at_call 22; refine stop_ ?_) | (go_at_call 23; refine stop_ ?_) | (go_at_call 24; refine stop_ ?_))))
        refine ⟨?_⟩
        refine Calls.mono (both_ok HPM.out As Al cs cl _ (Kd.C_below Hs.out (by repeat (first | exact Below.refl _ _ | refine below_alloc ?_ _ | refine pw_below_drewN ?_ _ | refine below_drew1 ?_))) HLs.out (Kd.C_below Hl.out (by repeat (first | exact Below.refl _ _ | refine below_alloc ?_ _ | refine pw_below_drewN ?_ _ | refine below_drew1 ?_))) HLl.out) ?_
        rintro e w' ⟨v, rfl, hv, hb⟩
        replace Hl := Aside0.mk (Kd.C_below (Kd.C_below Hl.out (by repeat (first | exact Below.refl _ _ | refine below_alloc ?_ _ | refine pw_below_drewN ?_ _ | refine below_drew1 ?_))) hb)
        replace Hs := Aside0.mk (Kd.C_below (Kd.C_below Hs.out (by repeat (first | exact Below.refl _ _ | refine below_alloc ?_ _ | refine pw_below_drewN ?_ _ | refine below_drew1 ?_))) hb)
        replace Bp := Aside0.mk (Box.keep (by repeat (first | exact Below.refl _ _ | refine below_alloc ?_ _ | refine pw_below_drewN ?_ _ | refine below_drew1 ?_)) hb Bp.out)
        replace Bt := Aside0.mk (Box.keep (by repeat (first | exact Below.refl _ _ | refine below_alloc ?_ _ | refine pw_below_drewN ?_ _ | refine below_drew1 ?_)) hb Bt.out)
        replace HW := Aside0.mk (below_step (below_step HW.out (by repeat (first | exact Below.refl _ _ | refine below_alloc ?_ _ | refine pw_below_drewN ?_ _ | refine below_drew1 ?_))) hb)
        obtain ⟨Aq, cq, ev, hC, hL⟩ := hv
        subst ev
        have Hq := Aside0.mk hC
        have HLq := Aside0.mk hL
        clear hC hL
        clear hb
        go_wp2_with (first | (go_at_call 18; refine stop_ ?_) | (go_at_call 19; refine stop_ ?_) | (go_at_call 20; refine stop_ ?_) | (go_at_call 21; refine stop_ ?_) | (go_at_call 22; refine stop_ ?_) | (go_at_call 23; refine stop_ ?_) | (go_at_call 24; refine stop_ ?_))
        repeat (go_quiet (fail); try (go_wp2_with (first | (go_at_call 18; refine stop_ ?_) | (go_at_call 19; refine stop_ ?_) | (go_at_call 20; refine stop_ ?_) | (go_at_call 21; refine stop_ ?_) | (go_at_call 22; refine stop_ ?_) | (go_at_call 23; refine stop_ ?_) | (go_at_call 24; refine stop_ ?_))))
        refine ⟨?_⟩
        refine Calls.mono (same_true rfl Aq As cq cs _ (Kd.C_below Hq.out (by repeat (first | exact Below.refl _ _ | refine below_alloc ?_ _ | refine pw_below_drewN ?_ _ | refine below_drew1 ?_))) (Kd.C_below Hs.out (by repeat (first | exact Below.refl _ _ | refine below_alloc ?_ _ | refine pw_below_drewN ?_ _ | refine below_drew1 ?_)))) ?_
        rintro e w' ⟨rfl, hb⟩
        replace Hl := Aside0.mk (Kd.C_below (Kd.C_below Hl.out (by repeat (first | exact Below.refl _ _ | refine below_alloc ?_ _ | refine pw_below_drewN ?_ _ | refine below_drew1 ?_))) hb)
        replace Hs := Aside0.mk (Kd.C_below (Kd.C_below Hs.out (by repeat (first | exact Below.refl _ _ | refine below_alloc ?_ _ | refine pw_below_drewN ?_ _ | refine below_drew1 ?_))) hb)
        replace Hq := Aside0.mk (Kd.C_below (Kd.C_below Hq.out (by repeat (first | exact Below.refl _ _ | refine below_alloc ?_ _ | refine pw_below_drewN ?_ _ | refine below_drew1 ?_))) hb)
        replace Bp := Aside0.mk (Box.keep (by repeat (first | exact Below.refl _ _ | refine below_alloc ?_ _ | refine pw_below_drewN ?_ _ | refine below_drew1 ?_)) hb Bp.out)
        replace Bt := Aside0.mk (Box.keep (by repeat (first | exact Below.refl _ _ | refine below_alloc ?_ _ | refine pw_below_drewN ?_ _ | refine below_drew1 ?_)) hb Bt.out)
        replace HW := Aside0.mk (below_step (below_step HW.out (by repeat (first | exact Below.refl _ _ | refine below_alloc ?_ _ | refine pw_below_drewN ?_ _ | refine below_drew1 ?_))) hb)
        clear hb
        clear Hq HLq
        have p0 := Bp.out 0 (.string p.f0.f0) rfl
        have p1 := Bp.out 1 (.int .i64 p.f0.f1.f0) rfl
        have p2 := Bp.out 2 (.string p.f0.f1.f1) rfl
        have p3 := Bp.out 3 (.string p.f0.f1.f2) rfl
        have p4 := Bp.out 4 (.string p.f1.f0) rfl
        have p5 := Bp.out 5 (.int .i64 p.f1.f1.f0) rfl
        have p6 := Bp.out 6 (.string p.f1.f1.f1) rfl
        have p7 := Bp.out 7 (.string p.f1.f1.f2) rfl
        have p8 := Bp.out 8 (.string p.f2.f0) rfl
        have p9 := Bp.out 9 (.int .i64 p.f2.f1.f0) rfl
        have p10 := Bp.out 10 (.string p.f2.f1.f1) rfl
        have p11 := Bp.out 11 (.string p.f2.f1.f2) rfl
        by_cases h0 : p.f0.f0.size = 0
        · -- the first place is a term already
          have h1 : p.f0.f0.toList = [] := nil_size h0
          have h2 : (!p.f0.f0.toList.isEmpty) = false := by rw [h1]; rfl
          clear h0
          go_wp2_with (first | (go_at_call 18; refine stop_ ?_) | (go_at_call 19; refine stop_ ?_) | (go_at_call 20; refine stop_ ?_) | (go_at_call 21; refine stop_ ?_) | (go_at_call 22; refine stop_ ?_) | (go_at_call 23; refine stop_ ?_) | (go_at_call 24; refine stop_ ?_))
          repeat (go_quiet (fail); try (go_wp2_with (first | (go_at_call 18; refine stop_ ?_) | (go_at_call 19; refine stop_ ?_) | (go_at_call 20; refine stop_ ?_) | (go_at_call 21; refine stop_ ?_) | (go_at_call 22; refine stop_ ?_) | (go_at_call 23; refine stop_ ?_) | (go_at_call 24; refine stop_ ?_))))
          clear h1 h2
          have HF : Aside0 (matchM l p = (matchR l p, none)) := ⟨match_good HR.out HV.out⟩
          have HSF : Aside0 (sortedR (matchR l p) = none) := ⟨sorted_matchR p HR.out⟩
          refine ⟨?_⟩
          clear p0 p1 p2 p3 p4 p5 p6 p7 p8 p9 p10 p11
          refine Calls.mono (match_ok HF.out Al cl _ (Kd.C_below Hl.out (by repeat (first | exact Below.refl _ _ | refine below_alloc ?_ _ | refine pw_below_drewN ?_ _ | refine below_drew1 ?_))) HLl.out HS.out) ?_
          rintro e w' ⟨v, rfl, hv, hb⟩
          replace Hl := Aside0.mk (Kd.C_below (Kd.C_below Hl.out (by repeat (first | exact Below.refl _ _ | refine below_alloc ?_ _ | refine pw_below_drewN ?_ _ | refine below_drew1 ?_))) hb)
          replace Hs := Aside0.mk (Kd.C_below (Kd.C_below Hs.out (by repeat (first | exact Below.refl _ _ | refine below_alloc ?_ _ | refine pw_below_drewN ?_ _ | refine below_drew1 ?_))) hb)
          replace Bp := Aside0.mk (Box.keep (by repeat (first | exact Below.refl _ _ | refine below_alloc ?_ _ | refine pw_below_drewN ?_ _ | refine below_drew1 ?_)) hb Bp.out)
          replace Bt := Aside0.mk (Box.keep (by repeat (first | exact Below.refl _ _ | refine below_alloc ?_ _ | refine pw_below_drewN ?_ _ | refine below_drew1 ?_)) hb Bt.out)
          replace HW := Aside0.mk (below_step (below_step HW.out (by repeat (first | exact Below.refl _ _ | refine below_alloc ?_ _ | refine pw_below_drewN ?_ _ | refine below_drew1 ?_))) hb)
          obtain ⟨Af, cf, ev, hC, hL⟩ := hv
          subst ev
          have Hf := Aside0.mk hC
          have HLf := Aside0.mk hL
          clear hC hL
          clear hb
          clear HF
          generalize matchR l p = g at *
          go_wp2_with (first | (go_at_call 18; refine stop_ ?_) | (go_at_call 19; refine stop_ ?_) | (go_at_call 20; refine stop_ ?_) | (go_at_call 21; refine stop_ ?_) | (go_at_call 22; refine stop_ ?_) | (go_at_call 23; refine stop_ ?_) | (go_at_call 24; refine stop_ ?_))
          repeat (go_quiet (fail); try (go_wp2_with (first | (go_at_call 18; refine stop_ ?_) | (go_at_call 19; refine stop_ ?_) | (go_at_call 20; refine stop_ ?_) | (go_at_call 21; refine stop_ ?_) | (go_at_call 22; refine stop_ ?_) | (go_at_call 23; refine stop_ ?_) | (go_at_call 24; refine stop_ ?_))))
          have HBF : Aside0 (bothR g s true = (partR g s true, none)) := ⟨both_of HSF.out HSM.out rfl⟩
          refine ⟨?_⟩
          refine Calls.mono (both_ok HBF.out Af As cf cs _ (Kd.C_below Hf.out (by repeat (first | exact Below.refl _ _ | refine below_alloc ?_ _ | refine pw_below_drewN ?_ _ | refine below_drew1 ?_))) HLf.out (Kd.C_below Hs.out (by repeat (first | exact Below.refl _ _ | refine below_alloc ?_ _ | refine pw_below_drewN ?_ _ | refine below_drew1 ?_))) HLs.out) ?_
          rintro e w' ⟨v, rfl, hv, hb⟩
          replace Hl := Aside0.mk (Kd.C_below (Kd.C_below Hl.out (by repeat (first | exact Below.refl _ _ | refine below_alloc ?_ _ | refine pw_below_drewN ?_ _ | refine below_drew1 ?_))) hb)
          replace Hs := Aside0.mk (Kd.C_below (Kd.C_below Hs.out (by repeat (first | exact Below.refl _ _ | refine below_alloc ?_ _ | refine pw_below_drewN ?_ _ | refine below_drew1 ?_))) hb)
          replace Hf := Aside0.mk (Kd.C_below (Kd.C_below Hf.out (by repeat (first | exact Below.refl _ _ | refine below_alloc ?_ _ | refine pw_below_drewN ?_ _ | refine below_drew1 ?_))) hb)
          replace Bp := Aside0.mk (Box.keep (by repeat (first | exact Below.refl _ _ | refine below_alloc ?_ _ | refine pw_below_drewN ?_ _ | refine below_drew1 ?_)) hb Bp.out)
          replace Bt := Aside0.mk (Box.keep (by repeat (first | exact Below.refl _ _ | refine below_alloc ?_ _ | refine pw_below_drewN ?_ _ | refine below_drew1 ?_)) hb Bt.out)
          replace HW := Aside0.mk (below_step (below_step HW.out (by repeat (first | exact Below.refl _ _ | refine below_alloc ?_ _ | refine pw_below_drewN ?_ _ | refine below_drew1 ?_))) hb)
          obtain ⟨Ah, ch, ev, hC, hL⟩ := hv
          subst ev
          have Hh := Aside0.mk hC
          have HLh := Aside0.mk hL
          clear hC hL
          clear hb
          go_wp2_with (first | (go_at_call 18; refine stop_ ?_) | (go_at_call 19; refine stop_ ?_) | (go_at_call 20; refine stop_ ?_) | (go_at_call 21; refine stop_ ?_) | (go_at_call 22; refine stop_ ?_) | (go_at_call 23; refine stop_ ?_) | (go_at_call 24; refine stop_ ?_))
          repeat (go_quiet (fail); try (go_wp2_with (first | (go_at_call 18; refine stop_ ?_) | (go_at_call 19; refine stop_ ?_) | (go_at_call 20; refine stop_ ?_) | (go_at_call 21; refine stop_ ?_) | (go_at_call 22; refine stop_ ?_) | (go_at_call 23; refine stop_ ?_) | (go_at_call 24; refine stop_ ?_))))
          by_cases hpg : partR g s true = g
          · -- all of them
            have HPG := Aside0.mk hpg
            clear hpg
            refine ⟨?_⟩
            refine Calls.mono (same_true HPG.out Ah Af ch cf _ (Kd.C_below Hh.out (by repeat (first | exact Below.refl _ _ | refine below_alloc ?_ _ | refine pw_below_drewN ?_ _ | refine below_drew1 ?_))) (Kd.C_below Hf.out (by repeat (first | exact Below.refl _ _ | refine below_alloc ?_ _ | refine pw_below_drewN ?_ _ | refine below_drew1 ?_)))) ?_
            rintro e w' ⟨rfl, hb⟩
            replace Hl := Aside0.mk (Kd.C_below (Kd.C_below Hl.out (by repeat (first | exact Below.refl _ _ | refine below_alloc ?_ _ | refine pw_below_drewN ?_ _ | refine below_drew1 ?_))) hb)
            replace Hs := Aside0.mk (Kd.C_below (Kd.C_below Hs.out (by repeat (first | exact Below.refl _ _ | refine below_alloc ?_ _ | refine pw_below_drewN ?_ _ | refine below_drew1 ?_))) hb)
            replace Hf := Aside0.mk (Kd.C_below (Kd.C_below Hf.out (by repeat (first | exact Below.refl _ _ | refine below_alloc ?_ _ | refine pw_below_drewN ?_ _ | refine below_drew1 ?_))) hb)
            replace Hh := Aside0.mk (Kd.C_below (Kd.C_below Hh.out (by repeat (first | exact Below.refl _ _ | refine below_alloc ?_ _ | refine pw_below_drewN ?_ _ | refine below_drew1 ?_))) hb)
            replace Bp := Aside0.mk (Box.keep (by repeat (first | exact Below.refl _ _ | refine below_alloc ?_ _ | refine pw_below_drewN ?_ _ | refine below_drew1 ?_)) hb Bp.out)
            replace Bt := Aside0.mk (Box.keep (by repeat (first | exact Below.refl _ _ | refine below_alloc ?_ _ | refine pw_below_drewN ?_ _ | refine below_drew1 ?_)) hb Bt.out)
            replace HW := Aside0.mk (below_step (below_step HW.out (by repeat (first | exact Below.refl _ _ | refine below_alloc ?_ _ | refine pw_below_drewN ?_ _ | refine below_drew1 ?_))) hb)
            clear hb
            go_wp2_with (first | (go_at_call 18; refine stop_ ?_) | (go_at_call 19; refine stop_ ?_) | (go_at_call 20; refine stop_ ?_) | (go_at_call 21; refine stop_ ?_) | (go_at_call 22; refine stop_ ?_) | (go_at_call 23; refine stop_ ?_) | (go_at_call 24; refine stop_ ?_))
            repeat (go_quiet (fail); try (go_wp2_with (first | (go_at_call 18; refine stop_ ?_) | (go_at_call 19; refine stop_ ?_) | (go_at_call 20; refine stop_ ?_) | (go_at_call 21; refine stop_ ?_) | (go_at_call 22; refine stop_ ?_) | (go_at_call 23; refine stop_ ?_) | (go_at_call 24; refine stop_ ?_))))
            go_ret
            exact ⟨by first | rfl | (simp; done) | (simp [*]; done) | (simp; omega), below_step HW.out (by repeat (first | exact Below.refl _ _ | refine below_alloc ?_ _ | refine pw_below_drewN ?_ _ | refine below_drew1 ?_))⟩
          · -- some are none of the others
            have hgl : (g.length : Int) > 0 := by
              rcases g with _ | ⟨y, g⟩
              · exact absurd rfl hpg
              · simp only [List.length_cons]; omega
            have HPG := Aside0.mk hpg
            clear hpg
            refine ⟨?_⟩
            refine Calls.mono (same_false HPG.out Ah Af ch cf _ (Kd.C_below Hh.out (by repeat (first | exact Below.refl _ _ | refine below_alloc ?_ _ | refine pw_below_drewN ?_ _ | refine below_drew1 ?_))) (Kd.C_below Hf.out (by repeat (first | exact Below.refl _ _ | refine below_alloc ?_ _ | refine pw_below_drewN ?_ _ | refine below_drew1 ?_)))) ?_
            rintro e w' ⟨rfl, hb⟩
            replace Hl := Aside0.mk (Kd.C_below (Kd.C_below Hl.out (by repeat (first | exact Below.refl _ _ | refine below_alloc ?_ _ | refine pw_below_drewN ?_ _ | refine below_drew1 ?_))) hb)
            replace Hs := Aside0.mk (Kd.C_below (Kd.C_below Hs.out (by repeat (first | exact Below.refl _ _ | refine below_alloc ?_ _ | refine pw_below_drewN ?_ _ | refine below_drew1 ?_))) hb)
            replace Hf := Aside0.mk (Kd.C_below (Kd.C_below Hf.out (by repeat (first | exact Below.refl _ _ | refine below_alloc ?_ _ | refine pw_below_drewN ?_ _ | refine below_drew1 ?_))) hb)
            replace Hh := Aside0.mk (Kd.C_below (Kd.C_below Hh.out (by repeat (first | exact Below.refl _ _ | refine below_alloc ?_ _ | refine pw_below_drewN ?_ _ | refine below_drew1 ?_))) hb)
            replace Bp := Aside0.mk (Box.keep (by repeat (first | exact Below.refl _ _ | refine below_alloc ?_ _ | refine pw_below_drewN ?_ _ | refine below_drew1 ?_)) hb Bp.out)
            replace Bt := Aside0.mk (Box.keep (by repeat (first | exact Below.refl _ _ | refine below_alloc ?_ _ | refine pw_below_drewN ?_ _ | refine below_drew1 ?_)) hb Bt.out)
            replace HW := Aside0.mk (below_step (below_step HW.out (by repeat (first | exact Below.refl _ _ | refine below_alloc ?_ _ | refine pw_below_drewN ?_ _ | refine below_drew1 ?_))) hb)
            clear hb
            go_wp2_with (first | (go_at_call 18; refine stop_ ?_) | (go_at_call 19; refine stop_ ?_) | (go_at_call 20; refine stop_ ?_) | (go_at_call 21; refine stop_ ?_) | (go_at_call 22; refine stop_ ?_) | (go_at_call 23; refine stop_ ?_) | (go_at_call 24; refine stop_ ?_))
            repeat (go_quiet (fail); try (go_wp2_with (first | (go_at_call 18; refine stop_ ?_) | (go_at_call 19; refine stop_ ?_) | (go_at_call 20; refine stop_ ?_) | (go_at_call 21; refine stop_ ?_) | (go_at_call 22; refine stop_ ?_) | (go_at_call 23; refine stop_ ?_) | (go_at_call 24; refine stop_ ?_))))
            go_ret
            exact ⟨by first | rfl | (simp; done) | (simp [*]; done) | (simp; omega), below_step HW.out (by repeat (first | exact Below.refl _ _ | refine below_alloc ?_ _ | refine pw_below_drewN ?_ _ | refine below_drew1 ?_))⟩
        · -- the first place is a variable
          have h1 : ¬ p.f0.f0.toList = [] := fun h => h0 ((size_nil _).mp h)
          have h2 : (!p.f0.f0.toList.isEmpty) = true := by cases hx : p.f0.f0.toList with | nil => exact absurd hx h1 | cons y ys => rfl
          clear h0
          obtain ⟨wk, hwk⟩ : ∃ wk, wk = w' := ⟨_, rfl⟩
          subst hwk
          have t0 := fun (o : Obj) => cell?_alloc_old' (Bt.out 0 (.int .i64 t.f0.f0) rfl) o
          have t1 := fun (o : Obj) => cell?_alloc_old' (Bt.out 1 (.string t.f0.f1) rfl) o
          have t2 := fun (o : Obj) => cell?_alloc_old' (Bt.out 2 (.string t.f0.f2) rfl) o
          go_wp2_with (first | (go_at_call 18; refine stop_ ?_) | (go_at_call 19; refine stop_ ?_) | (go_at_call 20; refine stop_ ?_) | (go_at_call 21; refine stop_ ?_) | (go_at_call 22; refine stop_ ?_) | (go_at_call 23; refine stop_ ?_) | (go_at_call 24; refine stop_ ?_))
          repeat (go_quiet (fail); try (go_wp2_with (first | (go_at_call 18; refine stop_ ?_) | (go_at_call 19; refine stop_ ?_) | (go_at_call 20; refine stop_ ?_) | (go_at_call 21; refine stop_ ?_) | (go_at_call 22; refine stop_ ?_) | (go_at_call 23; refine stop_ ?_) | (go_at_call 24; refine stop_ ?_))))
          clear h1 h2
          cases ht : chkT t.f0 with
          | some n =>
            have HT0 : Aside0 (chkT t.f0 = some n) := ⟨ht⟩
            clear ht
            refine ⟨?_⟩
            clear p0 p1 p2 p3 p4 p5 p6 p7 p8 p9 p10 p11 t0 t1 t2
            refine Calls.mono (checkT_err HT0.out _) ?_
            rintro e w' ⟨rfl, hb⟩
            have HQ : Aside0 (Box w' wk.heap.size #[.string p.f0.f0, .int .i64 p.f0.f1.f0, .string p.f0.f1.f1, .string p.f0.f1.f2, .string p.f1.f0, .int .i64 p.f1.f1.f0, .string p.f1.f1.f1, .string p.f1.f1.f2, .string p.f2.f0, .int .i64 p.f2.f1.f0, .string p.f2.f1.f1, .string p.f2.f1.f2]) := ⟨Box.keep (Below.refl _ _) hb (Box.new wk #[.string p.f0.f0, .int .i64 p.f0.f1.f0, .string p.f0.f1.f1, .string p.f0.f1.f2, .string p.f1.f0, .int .i64 p.f1.f1.f0, .string p.f1.f1.f1, .string p.f1.f1.f2, .string p.f2.f0, .int .i64 p.f2.f1.f0, .string p.f2.f1.f1, .string p.f2.f1.f2] 51)⟩
            have HK : Aside0 (Below wk.heap.size wk w') := ⟨below_step (below_alloc (Below.refl _ _) _) hb⟩
            clear hb
            have q0 := HQ.out 0 (.string p.f0.f0) rfl
            have q1 := HQ.out 1 (.int .i64 p.f0.f1.f0) rfl
            have q2 := HQ.out 2 (.string p.f0.f1.f1) rfl
            have q3 := HQ.out 3 (.string p.f0.f1.f2) rfl
            have q4 := HQ.out 4 (.string p.f1.f0) rfl
            have q5 := HQ.out 5 (.int .i64 p.f1.f1.f0) rfl
            have q6 := HQ.out 6 (.string p.f1.f1.f1) rfl
            have q7 := HQ.out 7 (.string p.f1.f1.f2) rfl
            have q8 := HQ.out 8 (.string p.f2.f0) rfl
            have q9 := HQ.out 9 (.int .i64 p.f2.f1.f0) rfl
            have q10 := HQ.out 10 (.string p.f2.f1.f1) rfl
            have q11 := HQ.out 11 (.string p.f2.f1.f2) rfl
            go_wp2_with (first | (go_at_call 18; refine stop_ ?_) | (go_at_call 19; refine stop_ ?_) | (go_at_call 20; refine stop_ ?_) | (go_at_call 21; refine stop_ ?_) | (go_at_call 22; refine stop_ ?_) | (go_at_call 23; refine stop_ ?_) | (go_at_call 24; refine stop_ ?_))
            repeat (go_quiet (fail); try (go_wp2_with (first | (go_at_call 18; refine stop_ ?_) | (go_at_call 19; refine stop_ ?_) | (go_at_call 20; refine stop_ ?_) | (go_at_call 21; refine stop_ ?_) | (go_at_call 22; refine stop_ ?_) | (go_at_call 23; refine stop_ ?_) | (go_at_call 24; refine stop_ ?_))))
            have HF : Aside0 (matchM l p = (matchR l p, none)) := ⟨match_good HR.out HV.out⟩
            have HSF : Aside0 (sortedR (matchR l p) = none) := ⟨sorted_matchR p HR.out⟩
            refine ⟨?_⟩
            clear q0 q1 q2 q3 q4 q5 q6 q7 q8 q9 q10 q11
            refine Calls.mono (match_ok HF.out Al cl _ (Kd.C_below Hl.out (by repeat (first | exact HK.out | refine below_set ?_ (Nat.le_refl _) | refine below_alloc ?_ _ | refine pw_below_drewN ?_ _ | refine below_drew1 ?_))) HLl.out HS.out) ?_
            rintro e w' ⟨v, rfl, hv, hb⟩
            replace Hl := Aside0.mk (Kd.C_below (Kd.C_below Hl.out (by repeat (first | exact HK.out | refine below_set ?_ (Nat.le_refl _) | refine below_alloc ?_ _ | refine pw_below_drewN ?_ _ | refine below_drew1 ?_))) hb)
            replace Hs := Aside0.mk (Kd.C_below (Kd.C_below Hs.out (by repeat (first | exact HK.out | refine below_set ?_ (Nat.le_refl _) | refine below_alloc ?_ _ | refine pw_below_drewN ?_ _ | refine below_drew1 ?_))) hb)
            replace Bp := Aside0.mk (Box.keep (by repeat (first | exact HK.out | refine below_set ?_ (Nat.le_refl _) | refine below_alloc ?_ _ | refine pw_below_drewN ?_ _ | refine below_drew1 ?_)) hb Bp.out)
            replace Bt := Aside0.mk (Box.keep (by repeat (first | exact HK.out | refine below_set ?_ (Nat.le_refl _) | refine below_alloc ?_ _ | refine pw_below_drewN ?_ _ | refine below_drew1 ?_)) hb Bt.out)
            replace HW := Aside0.mk (below_step (below_step HW.out (by repeat (first | exact HK.out | refine below_set ?_ (Nat.le_refl _) | refine below_alloc ?_ _ | refine pw_below_drewN ?_ _ | refine below_drew1 ?_))) hb)
            obtain ⟨Af, cf, ev, hC, hL⟩ := hv
            subst ev
            have Hf := Aside0.mk hC
            have HLf := Aside0.mk hL
            clear hC hL
            clear hb
            clear HF
            generalize matchR l p = g at *
            go_wp2_with (first | (go_at_call 18; refine stop_ ?_) | (go_at_call 19; refine stop_ ?_) | (go_at_call 20; refine stop_ ?_) | (go_at_call 21; refine stop_ ?_) | (go_at_call 22; refine stop_ ?_) | (go_at_call 23; refine stop_ ?_) | (go_at_call 24; refine stop_ ?_))
            repeat (go_quiet (fail); try (go_wp2_with (first | (go_at_call 18; refine stop_ ?_) | (go_at_call 19; refine stop_ ?_) | (go_at_call 20; refine stop_ ?_) | (go_at_call 21; refine stop_ ?_) | (go_at_call 22; refine stop_ ?_) | (go_at_call 23; refine stop_ ?_) | (go_at_call 24; refine stop_ ?_))))
            have HBF : Aside0 (bothR g s true = (partR g s true, none)) := ⟨both_of HSF.out HSM.out rfl⟩
            refine ⟨?_⟩
            refine Calls.mono (both_ok HBF.out Af As cf cs _ (Kd.C_below Hf.out (by repeat (first | exact Below.refl _ _ | refine below_alloc ?_ _ | refine pw_below_drewN ?_ _ | refine below_drew1 ?_))) HLf.out (Kd.C_below Hs.out (by repeat (first | exact Below.refl _ _ | refine below_alloc ?_ _ | refine pw_below_drewN ?_ _ | refine below_drew1 ?_))) HLs.out) ?_
            rintro e w' ⟨v, rfl, hv, hb⟩
            replace Hl := Aside0.mk (Kd.C_below (Kd.C_below Hl.out (by repeat (first | exact Below.refl _ _ | refine below_alloc ?_ _ | refine pw_below_drewN ?_ _ | refine below_drew1 ?_))) hb)
            replace Hs := Aside0.mk (Kd.C_below (Kd.C_below Hs.out (by repeat (first | exact Below.refl _ _ | refine below_alloc ?_ _ | refine pw_below_drewN ?_ _ | refine below_drew1 ?_))) hb)
            replace Hf := Aside0.mk (Kd.C_below (Kd.C_below Hf.out (by repeat (first | exact Below.refl _ _ | refine below_alloc ?_ _ | refine pw_below_drewN ?_ _ | refine below_drew1 ?_))) hb)
            replace Bp := Aside0.mk (Box.keep (by repeat (first | exact Below.refl _ _ | refine below_alloc ?_ _ | refine pw_below_drewN ?_ _ | refine below_drew1 ?_)) hb Bp.out)
            replace Bt := Aside0.mk (Box.keep (by repeat (first | exact Below.refl _ _ | refine below_alloc ?_ _ | refine pw_below_drewN ?_ _ | refine below_drew1 ?_)) hb Bt.out)
            replace HW := Aside0.mk (below_step (below_step HW.out (by repeat (first | exact Below.refl _ _ | refine below_alloc ?_ _ | refine pw_below_drewN ?_ _ | refine below_drew1 ?_))) hb)
            obtain ⟨Ah, ch, ev, hC, hL⟩ := hv
            subst ev
            have Hh := Aside0.mk hC
            have HLh := Aside0.mk hL
            clear hC hL
            clear hb
            go_wp2_with (first | (go_at_call 18; refine stop_ ?_) | (go_at_call 19; refine stop_ ?_) | (go_at_call 20; refine stop_ ?_) | (go_at_call 21; refine stop_ ?_) | (go_at_call 22; refine stop_ ?_) | (go_at_call 23; refine stop_ ?_) | (go_at_call 24; refine stop_ ?_))
            repeat (go_quiet (fail); try (go_wp2_with (first | (go_at_call 18; refine stop_ ?_) | (go_at_call 19; refine stop_ ?_) | (go_at_call 20; refine stop_ ?_) | (go_at_call 21; refine stop_ ?_) | (go_at_call 22; refine stop_ ?_) | (go_at_call 23; refine stop_ ?_) | (go_at_call 24; refine stop_ ?_))))
            by_cases hpg : partR g s true = g
            · -- all of them
              have HPG := Aside0.mk hpg
              clear hpg
              refine ⟨?_⟩
              refine Calls.mono (same_true HPG.out Ah Af ch cf _ (Kd.C_below Hh.out (by repeat (first | exact Below.refl _ _ | refine below_alloc ?_ _ | refine pw_below_drewN ?_ _ | refine below_drew1 ?_))) (Kd.C_below Hf.out (by repeat (first | exact Below.refl _ _ | refine below_alloc ?_ _ | refine pw_below_drewN ?_ _ | refine below_drew1 ?_)))) ?_
              rintro e w' ⟨rfl, hb⟩
              replace Hl := Aside0.mk (Kd.C_below (Kd.C_below Hl.out (by repeat (first | exact Below.refl _ _ | refine below_alloc ?_ _ | refine pw_below_drewN ?_ _ | refine below_drew1 ?_))) hb)
              replace Hs := Aside0.mk (Kd.C_below (Kd.C_below Hs.out (by repeat (first | exact Below.refl _ _ | refine below_alloc ?_ _ | refine pw_below_drewN ?_ _ | refine below_drew1 ?_))) hb)
              replace Hf := Aside0.mk (Kd.C_below (Kd.C_below Hf.out (by repeat (first | exact Below.refl _ _ | refine below_alloc ?_ _ | refine pw_below_drewN ?_ _ | refine below_drew1 ?_))) hb)
              replace Hh := Aside0.mk (Kd.C_below (Kd.C_below Hh.out (by repeat (first | exact Below.refl _ _ | refine below_alloc ?_ _ | refine pw_below_drewN ?_ _ | refine below_drew1 ?_))) hb)
              replace Bp := Aside0.mk (Box.keep (by repeat (first | exact Below.refl _ _ | refine below_alloc ?_ _ | refine pw_below_drewN ?_ _ | refine below_drew1 ?_)) hb Bp.out)
              replace Bt := Aside0.mk (Box.keep (by repeat (first | exact Below.refl _ _ | refine below_alloc ?_ _ | refine pw_below_drewN ?_ _ | refine below_drew1 ?_)) hb Bt.out)
              replace HW := Aside0.mk (below_step (below_step HW.out (by repeat (first | exact Below.refl _ _ | refine below_alloc ?_ _ | refine pw_below_drewN ?_ _ | refine below_drew1 ?_))) hb)
              clear hb
              go_wp2_with (first | (go_at_call 18; refine stop_ ?_) | (go_at_call 19; refine stop_ ?_) | (go_at_call 20; refine stop_ ?_) | (go_at_call 21; refine stop_ ?_) | (go_at_call 22; refine stop_ ?_) | (go_at_call 23; refine stop_ ?_) | (go_at_call 24; refine stop_ ?_))
              repeat (go_quiet (fail); try (go_wp2_with (first | (go_at_call 18; refine stop_ ?_) | (go_at_call 19; refine stop_ ?_) | (go_at_call 20; refine stop_ ?_) | (go_at_call 21; refine stop_ ?_) | (go_at_call 22; refine stop_ ?_) | (go_at_call 23; refine stop_ ?_) | (go_at_call 24; refine stop_ ?_))))
              go_ret
              exact ⟨by first | rfl | (simp; done) | (simp [*]; done) | (simp; omega), below_step HW.out (by repeat (first | exact Below.refl _ _ | refine below_alloc ?_ _ | refine pw_below_drewN ?_ _ | refine below_drew1 ?_))⟩
            · -- some are none of the others
              have hgl : (g.length : Int) > 0 := by
                rcases g with _ | ⟨y, g⟩
                · exact absurd rfl hpg
                · simp only [List.length_cons]; omega
              have HPG := Aside0.mk hpg
              clear hpg
              refine ⟨?_⟩
              refine Calls.mono (same_false HPG.out Ah Af ch cf _ (Kd.C_below Hh.out (by repeat (first | exact Below.refl _ _ | refine below_alloc ?_ _ | refine pw_below_drewN ?_ _ | refine below_drew1 ?_))) (Kd.C_below Hf.out (by repeat (first | exact Below.refl _ _ | refine below_alloc ?_ _ | refine pw_below_drewN ?_ _ | refine below_drew1 ?_)))) ?_
              rintro e w' ⟨rfl, hb⟩
              replace Hl := Aside0.mk (Kd.C_below (Kd.C_below Hl.out (by repeat (first | exact Below.refl _ _ | refine below_alloc ?_ _ | refine pw_below_drewN ?_ _ | refine below_drew1 ?_))) hb)
              replace Hs := Aside0.mk (Kd.C_below (Kd.C_below Hs.out (by repeat (first | exact Below.refl _ _ | refine below_alloc ?_ _ | refine pw_below_drewN ?_ _ | refine below_drew1 ?_))) hb)
              replace Hf := Aside0.mk (Kd.C_below (Kd.C_below Hf.out (by repeat (first | exact Below.refl _ _ | refine below_alloc ?_ _ | refine pw_below_drewN ?_ _ | refine below_drew1 ?_))) hb)
              replace Hh := Aside0.mk (Kd.C_below (Kd.C_below Hh.out (by repeat (first | exact Below.refl _ _ | refine below_alloc ?_ _ | refine pw_below_drewN ?_ _ | refine below_drew1 ?_))) hb)
              replace Bp := Aside0.mk (Box.keep (by repeat (first | exact Below.refl _ _ | refine below_alloc ?_ _ | refine pw_below_drewN ?_ _ | refine below_drew1 ?_)) hb Bp.out)
              replace Bt := Aside0.mk (Box.keep (by repeat (first | exact Below.refl _ _ | refine below_alloc ?_ _ | refine pw_below_drewN ?_ _ | refine below_drew1 ?_)) hb Bt.out)
              replace HW := Aside0.mk (below_step (below_step HW.out (by repeat (first | exact Below.refl _ _ | refine below_alloc ?_ _ | refine pw_below_drewN ?_ _ | refine below_drew1 ?_))) hb)
              clear hb
              go_wp2_with (first | (go_at_call 18; refine stop_ ?_) | (go_at_call 19; refine stop_ ?_) | (go_at_call 20; refine stop_ ?_) | (go_at_call 21; refine stop_ ?_) | (go_at_call 22; refine stop_ ?_) | (go_at_call 23; refine stop_ ?_) | (go_at_call 24; refine stop_ ?_))
              repeat (go_quiet (fail); try (go_wp2_with (first | (go_at_call 18; refine stop_ ?_) | (go_at_call 19; refine stop_ ?_) | (go_at_call 20; refine stop_ ?_) | (go_at_call 21; refine stop_ ?_) | (go_at_call 22; refine stop_ ?_) | (go_at_call 23; refine stop_ ?_) | (go_at_call 24; refine stop_ ?_))))
              go_ret
              exact ⟨by first | rfl | (simp; done) | (simp [*]; done) | (simp; omega), below_step HW.out (by repeat (first | exact Below.refl _ _ | refine below_alloc ?_ _ | refine pw_below_drewN ?_ _ | refine below_drew1 ?_))⟩
          | none =>
            have HT0 : Aside0 (chkT t.f0 = none) := ⟨ht⟩
            clear ht
            refine ⟨?_⟩
            clear p0 p1 p2 p3 p4 p5 p6 p7 p8 p9 p10 p11 t0 t1 t2
            refine Calls.mono (checkT_ok HT0.out _) ?_
            rintro e w' ⟨rfl, hb⟩
            have HQ : Aside0 (Box w' wk.heap.size #[.string p.f0.f0, .int .i64 p.f0.f1.f0, .string p.f0.f1.f1, .string p.f0.f1.f2, .string p.f1.f0, .int .i64 p.f1.f1.f0, .string p.f1.f1.f1, .string p.f1.f1.f2, .string p.f2.f0, .int .i64 p.f2.f1.f0, .string p.f2.f1.f1, .string p.f2.f1.f2]) := ⟨Box.keep (Below.refl _ _) hb (Box.new wk #[.string p.f0.f0, .int .i64 p.f0.f1.f0, .string p.f0.f1.f1, .string p.f0.f1.f2, .string p.f1.f0, .int .i64 p.f1.f1.f0, .string p.f1.f1.f1, .string p.f1.f1.f2, .string p.f2.f0, .int .i64 p.f2.f1.f0, .string p.f2.f1.f1, .string p.f2.f1.f2] 51)⟩
            have HK : Aside0 (Below wk.heap.size wk w') := ⟨below_step (below_alloc (Below.refl _ _) _) hb⟩
            have fz := fun o => (hb.frozen (p := ⟨wk.heap.size, o, none⟩) (by rw [alloc_size1]; exact Nat.lt_succ_self _)).trans (show (wk.alloc (.cells #[.string p.f0.f0, .int .i64 p.f0.f1.f0, .string p.f0.f1.f1, .string p.f0.f1.f2, .string p.f1.f0, .int .i64 p.f1.f1.f0, .string p.f1.f1.f1, .string p.f1.f1.f2, .string p.f2.f0, .int .i64 p.f2.f1.f0, .string p.f2.f1.f1, .string p.f2.f1.f2] 51)).frozen? ⟨wk.heap.size, o, none⟩ = false by simp)
            have z0 := fz 0
            have z1 := fz 1
            have z2 := fz 2
            have z3 := fz 3
            clear fz
            have zs : wk.heap.size < w'.heap.size := by have := hb.size; rw [alloc_size1] at this; omega
            clear hb
            have q0 := HQ.out 0 (.string p.f0.f0) rfl
            have q1 := HQ.out 1 (.int .i64 p.f0.f1.f0) rfl
            have q2 := HQ.out 2 (.string p.f0.f1.f1) rfl
            have q3 := HQ.out 3 (.string p.f0.f1.f2) rfl
            have q4 := HQ.out 4 (.string p.f1.f0) rfl
            have q5 := HQ.out 5 (.int .i64 p.f1.f1.f0) rfl
            have q6 := HQ.out 6 (.string p.f1.f1.f1) rfl
            have q7 := HQ.out 7 (.string p.f1.f1.f2) rfl
            have q8 := HQ.out 8 (.string p.f2.f0) rfl
            have q9 := HQ.out 9 (.int .i64 p.f2.f1.f0) rfl
            have q10 := HQ.out 10 (.string p.f2.f1.f1) rfl
            have q11 := HQ.out 11 (.string p.f2.f1.f2) rfl
            have BT1 : Aside0 (Box w' (w.heap.size + 1) #[.int .i64 t.f0.f0, .string t.f0.f1, .string t.f0.f2, .int .i64 t.f1.f0, .string t.f1.f1, .string t.f1.f2, .int .i64 t.f2.f0, .string t.f2.f1, .string t.f2.f2]) := ⟨fun c v h => (HK.out.cell (p := ⟨w.heap.size + 1, c, none⟩) (World.block_lt_of_cell? wk _ (Bt.out c v h))).trans (Bt.out c v h)⟩
            have t0 := BT1.out 0 (.int .i64 t.f0.f0) rfl
            have t1 := BT1.out 1 (.string t.f0.f1) rfl
            have t2 := BT1.out 2 (.string t.f0.f2) rfl
            go_wp2_with (first | (go_at_call 18; refine stop_ ?_) | (go_at_call 19; refine stop_ ?_) | (go_at_call 20; refine stop_ ?_) | (go_at_call 21; refine stop_ ?_) | (go_at_call 22; refine stop_ ?_) | (go_at_call 23; refine stop_ ?_) | (go_at_call 24; refine stop_ ?_))
            repeat (go_quiet (fail); try (go_wp2_with (first | (go_at_call 18; refine stop_ ?_) | (go_at_call 19; refine stop_ ?_) | (go_at_call 20; refine stop_ ?_) | (go_at_call 21; refine stop_ ?_) | (go_at_call 22; refine stop_ ?_) | (go_at_call 23; refine stop_ ?_) | (go_at_call 24; refine stop_ ?_))))
            have HF : Aside0 (matchM l (pMore p t.f0) = (matchR l (pMore p t.f0), none)) := ⟨match_good HR.out (vars_more HV.out HT0.out)⟩
            have HSF : Aside0 (sortedR (matchR l (pMore p t.f0)) = none) := ⟨sorted_matchR (pMore p t.f0) HR.out⟩
            refine ⟨?_⟩
            clear z0 z1 z2 z3 zs q0 q1 q2 q3 q4 q5 q6 q7 q8 q9 q10 q11 t0 t1 t2
            refine Calls.mono (match_ok HF.out Al cl _ (Kd.C_below Hl.out (by repeat (first | exact HK.out | refine below_set ?_ (Nat.le_refl _) | refine below_alloc ?_ _ | refine pw_below_drewN ?_ _ | refine below_drew1 ?_))) HLl.out (more_str HS.out t.f0)) ?_
            rintro e w' ⟨v, rfl, hv, hb⟩
            replace Hl := Aside0.mk (Kd.C_below (Kd.C_below Hl.out (by repeat (first | exact HK.out | refine below_set ?_ (Nat.le_refl _) | refine below_alloc ?_ _ | refine pw_below_drewN ?_ _ | refine below_drew1 ?_))) hb)
            replace Hs := Aside0.mk (Kd.C_below (Kd.C_below Hs.out (by repeat (first | exact HK.out | refine below_set ?_ (Nat.le_refl _) | refine below_alloc ?_ _ | refine pw_below_drewN ?_ _ | refine below_drew1 ?_))) hb)
            replace Bp := Aside0.mk (Box.keep (by repeat (first | exact HK.out | refine below_set ?_ (Nat.le_refl _) | refine below_alloc ?_ _ | refine pw_below_drewN ?_ _ | refine below_drew1 ?_)) hb Bp.out)
            replace Bt := Aside0.mk (Box.keep (by repeat (first | exact HK.out | refine below_set ?_ (Nat.le_refl _) | refine below_alloc ?_ _ | refine pw_below_drewN ?_ _ | refine below_drew1 ?_)) hb Bt.out)
            replace HW := Aside0.mk (below_step (below_step HW.out (by repeat (first | exact HK.out | refine below_set ?_ (Nat.le_refl _) | refine below_alloc ?_ _ | refine pw_below_drewN ?_ _ | refine below_drew1 ?_))) hb)
            obtain ⟨Af, cf, ev, hC, hL⟩ := hv
            subst ev
            have Hf := Aside0.mk hC
            have HLf := Aside0.mk hL
            clear hC hL
            clear hb
            clear HF
            generalize matchR l (pMore p t.f0) = g at *
            go_wp2_with (first | (go_at_call 18; refine stop_ ?_) | (go_at_call 19; refine stop_ ?_) | (go_at_call 20; refine stop_ ?_) | (go_at_call 21; refine stop_ ?_) | (go_at_call 22; refine stop_ ?_) | (go_at_call 23; refine stop_ ?_) | (go_at_call 24; refine stop_ ?_))
            repeat (go_quiet (fail); try (go_wp2_with (first | (go_at_call 18; refine stop_ ?_) | (go_at_call 19; refine stop_ ?_) | (go_at_call 20; refine stop_ ?_) | (go_at_call 21; refine stop_ ?_) | (go_at_call 22; refine stop_ ?_) | (go_at_call 23; refine stop_ ?_) | (go_at_call 24; refine stop_ ?_))))
            have HBF : Aside0 (bothR g s true = (partR g s true, none)) := ⟨both_of HSF.out HSM.out rfl⟩
            refine ⟨?_⟩
            refine Calls.mono (both_ok HBF.out Af As cf cs _ (Kd.C_below Hf.out (by repeat (first | exact Below.refl _ _ | refine below_alloc ?_ _ | refine pw_below_drewN ?_ _ | refine below_drew1 ?_))) HLf.out (Kd.C_below Hs.out (by repeat (first | exact Below.refl _ _ | refine below_alloc ?_ _ | refine pw_below_drewN ?_ _ | refine below_drew1 ?_))) HLs.out) ?_
            rintro e w' ⟨v, rfl, hv, hb⟩
            replace Hl := Aside0.mk (Kd.C_below (Kd.C_below Hl.out (by repeat (first | exact Below.refl _ _ | refine below_alloc ?_ _ | refine pw_below_drewN ?_ _ | refine below_drew1 ?_))) hb)
            replace Hs := Aside0.mk (Kd.C_below (Kd.C_below Hs.out (by repeat (first | exact Below.refl _ _ | refine below_alloc ?_ _ | refine pw_below_drewN ?_ _ | refine below_drew1 ?_))) hb)
            replace Hf := Aside0.mk (Kd.C_below (Kd.C_below Hf.out (by repeat (first | exact Below.refl _ _ | refine below_alloc ?_ _ | refine pw_below_drewN ?_ _ | refine below_drew1 ?_))) hb)
            replace Bp := Aside0.mk (Box.keep (by repeat (first | exact Below.refl _ _ | refine below_alloc ?_ _ | refine pw_below_drewN ?_ _ | refine below_drew1 ?_)) hb Bp.out)
            replace Bt := Aside0.mk (Box.keep (by repeat (first | exact Below.refl _ _ | refine below_alloc ?_ _ | refine pw_below_drewN ?_ _ | refine below_drew1 ?_)) hb Bt.out)
            replace HW := Aside0.mk (below_step (below_step HW.out (by repeat (first | exact Below.refl _ _ | refine below_alloc ?_ _ | refine pw_below_drewN ?_ _ | refine below_drew1 ?_))) hb)
            obtain ⟨Ah, ch, ev, hC, hL⟩ := hv
            subst ev
            have Hh := Aside0.mk hC
            have HLh := Aside0.mk hL
            clear hC hL
            clear hb
            go_wp2_with (first | (go_at_call 18; refine stop_ ?_) | (go_at_call 19; refine stop_ ?_) | (go_at_call 20; refine stop_ ?_) | (go_at_call 21; refine stop_ ?_) | (go_at_call 22; refine stop_ ?_) | (go_at_call 23; refine stop_ ?_) | (go_at_call 24; refine stop_ ?_))
            repeat (go_quiet (fail); try (go_wp2_with (first | (go_at_call 18; refine stop_ ?_) | (go_at_call 19; refine stop_ ?_) | (go_at_call 20; refine stop_ ?_) | (go_at_call 21; refine stop_ ?_) | (go_at_call 22; refine stop_ ?_) | (go_at_call 23; refine stop_ ?_) | (go_at_call 24; refine stop_ ?_))))
            by_cases hpg : partR g s true = g
            · -- all of them
              have HPG := Aside0.mk hpg
              clear hpg
              refine ⟨?_⟩
              refine Calls.mono (same_true HPG.out Ah Af ch cf _ (Kd.C_below Hh.out (by repeat (first | exact Below.refl _ _ | refine below_alloc ?_ _ | refine pw_below_drewN ?_ _ | refine below_drew1 ?_))) (Kd.C_below Hf.out (by repeat (first | exact Below.refl _ _ | refine below_alloc ?_ _ | refine pw_below_drewN ?_ _ | refine below_drew1 ?_)))) ?_
              rintro e w' ⟨rfl, hb⟩
              replace Hl := Aside0.mk (Kd.C_below (Kd.C_below Hl.out (by repeat (first | exact Below.refl _ _ | refine below_alloc ?_ _ | refine pw_below_drewN ?_ _ | refine below_drew1 ?_))) hb)
              replace Hs := Aside0.mk (Kd.C_below (Kd.C_below Hs.out (by repeat (first | exact Below.refl _ _ | refine below_alloc ?_ _ | refine pw_below_drewN ?_ _ | refine below_drew1 ?_))) hb)
              replace Hf := Aside0.mk (Kd.C_below (Kd.C_below Hf.out (by repeat (first | exact Below.refl _ _ | refine below_alloc ?_ _ | refine pw_below_drewN ?_ _ | refine below_drew1 ?_))) hb)
              replace Hh := Aside0.mk (Kd.C_below (Kd.C_below Hh.out (by repeat (first | exact Below.refl _ _ | refine below_alloc ?_ _ | refine pw_below_drewN ?_ _ | refine below_drew1 ?_))) hb)
              replace Bp := Aside0.mk (Box.keep (by repeat (first | exact Below.refl _ _ | refine below_alloc ?_ _ | refine pw_below_drewN ?_ _ | refine below_drew1 ?_)) hb Bp.out)
              replace Bt := Aside0.mk (Box.keep (by repeat (first | exact Below.refl _ _ | refine below_alloc ?_ _ | refine pw_below_drewN ?_ _ | refine below_drew1 ?_)) hb Bt.out)
              replace HW := Aside0.mk (below_step (below_step HW.out (by repeat (first | exact Below.refl _ _ | refine below_alloc ?_ _ | refine pw_below_drewN ?_ _ | refine below_drew1 ?_))) hb)
              clear hb
              go_wp2_with (first | (go_at_call 18; refine stop_ ?_) | (go_at_call 19; refine stop_ ?_) | (go_at_call 20; refine stop_ ?_) | (go_at_call 21; refine stop_ ?_) | (go_at_call 22; refine stop_ ?_) | (go_at_call 23; refine stop_ ?_) | (go_at_call 24; refine stop_ ?_))
              repeat (go_quiet (fail); try (go_wp2_with (first | (go_at_call 18; refine stop_ ?_) | (go_at_call 19; refine stop_ ?_) | (go_at_call 20; refine stop_ ?_) | (go_at_call 21; refine stop_ ?_) | (go_at_call 22; refine stop_ ?_) | (go_at_call 23; refine stop_ ?_) | (go_at_call 24; refine stop_ ?_))))
              go_ret
              exact ⟨by first | rfl | (simp; done) | (simp [*]; done) | (simp; omega), below_step HW.out (by repeat (first | exact Below.refl _ _ | refine below_alloc ?_ _ | refine pw_below_drewN ?_ _ | refine below_drew1 ?_))⟩
            · -- some are none of the others
              have hgl : (g.length : Int) > 0 := by
                rcases g with _ | ⟨y, g⟩
                · exact absurd rfl hpg
                · simp only [List.length_cons]; omega
              have HPG := Aside0.mk hpg
              clear hpg
              refine ⟨?_⟩
              refine Calls.mono (same_false HPG.out Ah Af ch cf _ (Kd.C_below Hh.out (by repeat (first | exact Below.refl _ _ | refine below_alloc ?_ _ | refine pw_below_drewN ?_ _ | refine below_drew1 ?_))) (Kd.C_below Hf.out (by repeat (first | exact Below.refl _ _ | refine below_alloc ?_ _ | refine pw_below_drewN ?_ _ | refine below_drew1 ?_)))) ?_
              rintro e w' ⟨rfl, hb⟩
              replace Hl := Aside0.mk (Kd.C_below (Kd.C_below Hl.out (by repeat (first | exact Below.refl _ _ | refine below_alloc ?_ _ | refine pw_below_drewN ?_ _ | refine below_drew1 ?_))) hb)
              replace Hs := Aside0.mk (Kd.C_below (Kd.C_below Hs.out (by repeat (first | exact Below.refl _ _ | refine below_alloc ?_ _ | refine pw_below_drewN ?_ _ | refine below_drew1 ?_))) hb)
              replace Hf := Aside0.mk (Kd.C_below (Kd.C_below Hf.out (by repeat (first | exact Below.refl _ _ | refine below_alloc ?_ _ | refine pw_below_drewN ?_ _ | refine below_drew1 ?_))) hb)
              replace Hh := Aside0.mk (Kd.C_below (Kd.C_below Hh.out (by repeat (first | exact Below.refl _ _ | refine below_alloc ?_ _ | refine pw_below_drewN ?_ _ | refine below_drew1 ?_))) hb)
              replace Bp := Aside0.mk (Box.keep (by repeat (first | exact Below.refl _ _ | refine below_alloc ?_ _ | refine pw_below_drewN ?_ _ | refine below_drew1 ?_)) hb Bp.out)
              replace Bt := Aside0.mk (Box.keep (by repeat (first | exact Below.refl _ _ | refine below_alloc ?_ _ | refine pw_below_drewN ?_ _ | refine below_drew1 ?_)) hb Bt.out)
              replace HW := Aside0.mk (below_step (below_step HW.out (by repeat (first | exact Below.refl _ _ | refine below_alloc ?_ _ | refine pw_below_drewN ?_ _ | refine below_drew1 ?_))) hb)
              clear hb
              go_wp2_with (first | (go_at_call 18; refine stop_ ?_) | (go_at_call 19; refine stop_ ?_) | (go_at_call 20; refine stop_ ?_) | (go_at_call 21; refine stop_ ?_) | (go_at_call 22; refine stop_ ?_) | (go_at_call 23; refine stop_ ?_) | (go_at_call 24; refine stop_ ?_))
              repeat (go_quiet (fail); try (go_wp2_with (first | (go_at_call 18; refine stop_ ?_) | (go_at_call 19; refine stop_ ?_) | (go_at_call 20; refine stop_ ?_) | (go_at_call 21; refine stop_ ?_) | (go_at_call 22; refine stop_ ?_) | (go_at_call 23; refine stop_ ?_) | (go_at_call 24; refine stop_ ?_))))
              go_ret
              exact ⟨by first | rfl | (simp; done) | (simp [*]; done) | (simp; omega), below_step HW.out (by repeat (first | exact Below.refl _ _ | refine below_alloc ?_ _ | refine pw_below_drewN ?_ _ | refine below_drew1 ?_))⟩
end Go.Proofs.Ytdjamphmndbmjaa.M

/- What a law is handed, in plain words: a term, a triple, a row of triples. -/
namespace Go.Proofs.Ytdjamphmndbmjaa.M
open Go.RowKit Go.Proofs.YtdjamphmndbmjaaW.PrintWords Go.Proofs.YtdjamphmndbmjaaW.PrintLast Go.Proofs.YtdjamphmndbmjaaW.PrintMore
set_option linter.unusedVariables false
set_option linter.unusedSimpArgs false

set_option maxRecDepth 100000
open Go.Deep
section
variable {H : Type} {enc : TypeId × Value → H} {w : World} {base : Nat} {spare : Nat → Bool} {held : Bool}
theorem cells_int : Try.prog.cellsOf 3 = 1 := by kernel_rfl
theorem cells_str : Try.prog.cellsOf 9 = 1 := by kernel_rfl
theorem cells_TM : Try.prog.cellsOf 35 = 3 := by kernel_rfl
theorem cells_TR : Try.prog.cellsOf 41 = 9 := by kernel_rfl
theorem open_TM {fuel : Nat} {cs : List Value} {x : DataW H × List MemPlace} (h : DataW.trod enc Try.prog w base spare held fuel 35 cs = some x) :
    ∃ s : S35, cs = [.int .i64 s.f0, .string s.f1, .string s.f2] := by
  obtain ⟨y0, y1, y2, n, _, hl, h0, h1, h2⟩ := trod_struct3 Try.underlying35 h
  rw [cells_TM] at hl
  match cs, hl with
  | [a, b, c], _ =>
    simp only [cells_int, cells_str] at h0 h1 h2
    obtain ⟨i, e0, _, _⟩ := DataW.trod_int Try.underlying3 h0
    obtain ⟨s1, e1, _, _⟩ := DataW.trod_string Try.underlying9 h1
    obtain ⟨s2, e2, _, _⟩ := DataW.trod_string Try.underlying9 h2
    simp at e0 e1 e2
    exact ⟨⟨i, s1, s2⟩, by rw [e0, e1, e2]⟩
theorem open_TR {fuel : Nat} {cs : List Value} {x : DataW H × List MemPlace} (h : DataW.trod enc Try.prog w base spare held fuel 41 cs = some x) :
    ∃ s : S41, cs = [.int .i64 s.f0.f0, .string s.f0.f1, .string s.f0.f2, .int .i64 s.f1.f0, .string s.f1.f1, .string s.f1.f2, .int .i64 s.f2.f0, .string s.f2.f1, .string s.f2.f2] := by
  obtain ⟨y0, y1, y2, n, _, hl, h0, h1, h2⟩ := trod_struct3 Try.underlying41 h
  rw [cells_TR] at hl
  match cs, hl with
  | [a0, a1, a2, a3, a4, a5, a6, a7, a8], _ =>
    simp only [cells_TM] at h0 h1 h2
    obtain ⟨s0, e0⟩ := open_TM h0
    obtain ⟨s1, e1⟩ := open_TM h1
    obtain ⟨s2, e2⟩ := open_TM h2
    simp at e0 e1 e2
    obtain ⟨rfl, rfl, rfl⟩ := e0
    obtain ⟨rfl, rfl, rfl⟩ := e1
    obtain ⟨rfl, rfl, rfl⟩ := e2
    exact ⟨⟨s0, s1, s2⟩, rfl⟩
theorem open_row {A : Option Addr} {len cap : Nat} {d : DataW H} {ps : List MemPlace} (h : DataW.Trod enc Try.prog w base spare held 26 (.slice A len cap) d ps) :
    ∃ l : List S41, l.length = len ∧ Kd.C k41 w A l.length l ∧ l.length ≤ cap := by
  obtain ⟨fuel, hf⟩ := h
  rcases open_slice Try.underlying26 hf with ⟨hcs, _⟩ | ⟨a, l, c, m, n, D, Pl, hcs, _, hl, hm, hmm, _, hx⟩
  · simp [Value.cells] at hcs
    obtain ⟨rfl, rfl, rfl⟩ := hcs
    exact ⟨[], rfl, ⟨rfl, by simp, fun h => absurd h (Nat.lt_irrefl 0)⟩, Nat.le_refl _⟩
  · simp [Value.cells] at hcs
    obtain ⟨rfl, rfl, rfl⟩ := hcs
    haveI : Inhabited S41 := ⟨z41⟩
    have hlm : len ≤ m := by rw [hmm]; split <;> omega
    rw [cells_TR] at hx
    obtain ⟨V, hV⟩ := choose_lt (α := S41) (n := len) (p := fun i s => ∀ q u, [Value.int .i64 s.f0.f0, .string s.f0.f1, .string s.f0.f2, .int .i64 s.f1.f0, .string s.f1.f1, .string s.f1.f2, .int .i64 s.f2.f0, .string s.f2.f1, .string s.f2.f2][q]? = some u → w.cell? (a.add (i * 9 + q)) = some u) (fun i hi => by
      obtain ⟨cs', h1, h2⟩ := hx i (by omega)
      obtain ⟨s, rfl⟩ := open_TR h2
      obtain ⟨_, hlen, hc⟩ := World.cells?_some h1
      refine ⟨s, fun q u hq => ?_⟩
      have hq9 : q < 9 := by
        rcases Nat.lt_or_ge q 9 with h | h
        · exact h
        · rw [List.getElem?_eq_none (by simpa using h)] at hq; cases hq
      rw [← Go.Deep.add_add, hc q hq9]
      exact hq)
    refine ⟨(List.range len).map V, by simp, ?_, by simpa using hl⟩
    refine ⟨rfl, by simp [maxLen] at hm ⊢; omega, fun hp => ⟨a, rfl, fun j p hj => ?_⟩⟩
    have hjl : j < len := by
      rcases Nat.lt_or_ge j len with h | h
      · exact h
      · rw [List.getElem?_eq_none (by simpa using h)] at hj; cases hj
    have hpj : V j = p := by simpa [hjl] using hj
    subst hpj
    exact ⟨_, rfl, k41_mk w (V j), fun i u hu => hV j hjl i u hu⟩
theorem open_triple {v : Value} {r : Reach} {b0 : Nat} {d : DataW H} {ps : List MemPlace} (hval : Value.okWide Try.prog w r b0 41 v) (h : DataW.Trod enc Try.prog w base spare held 41 v d ps) :
    ∃ s : S41, v = .agg #[.int .i64 s.f0.f0, .string s.f0.f1, .string s.f0.f2, .int .i64 s.f1.f0, .string s.f1.f1, .string s.f1.f2, .int .i64 s.f2.f0, .string s.f2.f1, .string s.f2.f2] := by
  obtain ⟨cs, rfl, _⟩ := Go.WideShapes.okWide_struct Try.underlying41 hval
  obtain ⟨fuel, hf⟩ := h
  obtain ⟨s, hs⟩ := open_TR hf
  refine ⟨s, ?_⟩
  have : cs = (cs.toList).toArray := by simp
  have e : cs.toList = _ := hs
  rw [this, e]
end
end Go.Proofs.Ytdjamphmndbmjaa.M

/- What a law is handed, in plain words: a pattern, a term, a text, a number. -/
namespace Go.Proofs.Ytdjamphmndbmjaa.M
open Go.RowKit Go.Proofs.YtdjamphmndbmjaaW.PrintWords Go.Proofs.YtdjamphmndbmjaaW.PrintLast Go.Proofs.YtdjamphmndbmjaaW.PrintMore
set_option linter.unusedVariables false
set_option linter.unusedSimpArgs false

set_option maxRecDepth 100000
open Go.Deep
section
variable {H : Type} {enc : TypeId × Value → H} {w : World} {base : Nat} {spare : Nat → Bool} {held : Bool}
theorem cells_SL : Try.prog.cellsOf 49 = 4 := by kernel_rfl
theorem cells_PT : Try.prog.cellsOf 51 = 12 := by kernel_rfl
theorem open_SL {fuel : Nat} {cs : List Value} {x : DataW H × List MemPlace} (h : DataW.trod enc Try.prog w base spare held fuel 49 cs = some x) :
    ∃ s : S49, cs = [.string s.f0, .int .i64 s.f1.f0, .string s.f1.f1, .string s.f1.f2] ∧ s.f0.size ≤ 9223372036854775807 := by
  obtain ⟨y0, y1, n, _, hl, h0, h1⟩ := Go.ChangeShapes.trod_struct2 Try.underlying49 h
  rw [cells_SL] at hl
  match cs, hl with
  | [a0, a1, a2, a3], _ =>
    simp only [cells_str, cells_TM] at h0 h1
    obtain ⟨s0, e0, _, hs⟩ := DataW.trod_string Try.underlying9 h0
    obtain ⟨s1, e1⟩ := open_TM h1
    simp at e0 e1
    obtain ⟨rfl, rfl, rfl⟩ := e1
    subst e0
    exact ⟨⟨s0, s1⟩, rfl, hs⟩
theorem open_PT {fuel : Nat} {cs : List Value} {x : DataW H × List MemPlace} (h : DataW.trod enc Try.prog w base spare held fuel 51 cs = some x) :
    ∃ p : S51, cs = [.string p.f0.f0, .int .i64 p.f0.f1.f0, .string p.f0.f1.f1, .string p.f0.f1.f2, .string p.f1.f0, .int .i64 p.f1.f1.f0, .string p.f1.f1.f1, .string p.f1.f1.f2, .string p.f2.f0, .int .i64 p.f2.f1.f0, .string p.f2.f1.f1, .string p.f2.f1.f2] ∧ ∀ s : ByteArray, s = p.f0.f0 ∨ s = p.f1.f0 ∨ s = p.f2.f0 → s.size ≤ 9223372036854775807 := by
  obtain ⟨y0, y1, y2, n, _, hl, h0, h1, h2⟩ := trod_struct3 Try.underlying51 h
  rw [cells_PT] at hl
  match cs, hl with
  | [a0, a1, a2, a3, a4, a5, a6, a7, a8, a9, a10, a11], _ =>
    simp only [cells_SL] at h0 h1 h2
    obtain ⟨s0, e0, z0⟩ := open_SL h0
    obtain ⟨s1, e1, z1⟩ := open_SL h1
    obtain ⟨s2, e2, z2⟩ := open_SL h2
    simp at e0 e1 e2
    obtain ⟨rfl, rfl, rfl, rfl⟩ := e0
    obtain ⟨rfl, rfl, rfl, rfl⟩ := e1
    obtain ⟨rfl, rfl, rfl, rfl⟩ := e2
    refine ⟨⟨s0, s1, s2⟩, rfl, ?_⟩
    rintro s (rfl | rfl | rfl)
    · exact z0
    · exact z1
    · exact z2
theorem open_pattern {v : Value} {r : Reach} {b0 : Nat} {d : DataW H} {ps : List MemPlace} (hval : Value.okWide Try.prog w r b0 51 v) (h : DataW.Trod enc Try.prog w base spare held 51 v d ps) :
    ∃ p : S51, v = .agg #[.string p.f0.f0, .int .i64 p.f0.f1.f0, .string p.f0.f1.f1, .string p.f0.f1.f2, .string p.f1.f0, .int .i64 p.f1.f1.f0, .string p.f1.f1.f1, .string p.f1.f1.f2, .string p.f2.f0, .int .i64 p.f2.f1.f0, .string p.f2.f1.f1, .string p.f2.f1.f2] ∧ ∀ s : ByteArray, s = p.f0.f0 ∨ s = p.f1.f0 ∨ s = p.f2.f0 → s.size ≤ 9223372036854775807 := by
  obtain ⟨cs, rfl, _⟩ := Go.WideShapes.okWide_struct Try.underlying51 hval
  obtain ⟨fuel, hf⟩ := h
  obtain ⟨s, hs, hz⟩ := open_PT hf
  refine ⟨s, ?_, hz⟩
  have : cs = (cs.toList).toArray := by simp
  have e : cs.toList = _ := hs
  rw [this, e]
theorem open_term {v : Value} {r : Reach} {b0 : Nat} {d : DataW H} {ps : List MemPlace} (hval : Value.okWide Try.prog w r b0 35 v) (h : DataW.Trod enc Try.prog w base spare held 35 v d ps) :
    ∃ s : S35, v = .agg #[.int .i64 s.f0, .string s.f1, .string s.f2] := by
  obtain ⟨cs, rfl, _⟩ := Go.WideShapes.okWide_struct Try.underlying35 hval
  obtain ⟨fuel, hf⟩ := h
  obtain ⟨s, hs⟩ := open_TM hf
  refine ⟨s, ?_⟩
  have : cs = (cs.toList).toArray := by simp
  have e : cs.toList = _ := hs
  rw [this, e]
end
end Go.Proofs.Ytdjamphmndbmjaa.M

/- The row of the law MatchParts: what it is handed is opened, the walk does the rest (printed by wip/genrow.py). -/
namespace Go.Proofs.Ytdjamphmndbmjaa.matchParts
open Go.ChangeShapes Go.WideShapes Go.ChangeAt Go.RowKit
set_option linter.unusedVariables false
theorem own : ownKnob Try.prog.godebug = none := by kernel_rfl
theorem laidOut : laidOutB Try.prog = true := by kernel_rfl
set_option maxRecDepth 100000 in
theorem lifted (os : Os) (started : os.Started) (H : Type) (enc : TypeId × Value → H) :
    ReturnsInHanded {} Try.checked os 5 .any (Rows.matchPartsSpec.pre6 enc Try.prog Try.f5 Rows.matchPartsRow.domain false) (Rows.matchPartsSpec.post enc Try.prog Try.f5 false true false false) := by
  refine returnsInHanded_of_change_sized (C := Try.checked) own started (by kernel_rfl) Try.func5
    (ChangeSpec.witness6 (enc := enc) (C := Try.checked) false ⟨#[], #[.slice none 0 0, .agg #[(.string ⟨#[]⟩), (.int .i64 0), (.string ⟨#[]⟩), (.string ⟨#[]⟩), (.string ⟨#[]⟩), (.int .i64 0), (.string ⟨#[]⟩), (.string ⟨#[]⟩), (.string ⟨#[]⟩), (.int .i64 0), (.string ⟨#[]⟩), (.string ⟨#[]⟩)], .agg #[(.int .i64 0), (.string ⟨#[]⟩), (.string ⟨#[]⟩), (.int .i64 0), (.string ⟨#[]⟩), (.string ⟨#[]⟩), (.int .i64 0), (.string ⟨#[]⟩), (.string ⟨#[]⟩)]], []⟩ 8 (by kernel_rfl) (by kernel_rfl) (by kernel_rfl) (by kernel_rfl)) ?_
  intro W base args ds gs before hval0 hW hcnd hsz0 _
  have hval : ∀ (j : Nat) t v, Try.f5.params[j]? = some t → args[j]? = some v → Value.okWide Try.prog W .any base t v := hval0
  have hW' := hW
  obtain ⟨p, q, hA0, hV, rfl, hfz, hnd⟩ := hW
  have hA : DataW.TrodAll enc Try.prog W 0 (fun _ => true) true Try.f5.params.toList args.toList ds p := hA0
  rw [Try.params5] at hA hval
  obtain ⟨v0, vs0, d0, ds0, p0, q0, hargs, rfl, rfl, h0, r0⟩ := trodAll_cons hA
  obtain ⟨v1, vs1, d1, ds1, p1, q1, rfl, rfl, rfl, h1, r1⟩ := trodAll_cons r0
  obtain ⟨v2, vs2, d2, ds2, p2, q2, rfl, rfl, rfl, h2, r2⟩ := trodAll_cons r1
  obtain ⟨rfl, rfl, rfl⟩ := trodAll_nil r2
  obtain rfl : args = #[v0, v1, v2] := by cases args; simp_all
  obtain ⟨rfl, rfl⟩ := trodVars_none hV
  have k0 := h0
  have lt0 : ∀ x ∈ p0, x.block < W.heap.size := by obtain ⟨m, hm⟩ := k0; exact DataW.trod_lt m _ _ _ hm
  obtain ⟨A0, len0, c0, rfl⟩ := okWide_slice Try.underlying26 (hval 0 26 v0 rfl rfl)
  obtain ⟨l0, rfl, hC0, hL0⟩ := M.open_row h0
  have k1 := h1
  have lt1 : ∀ x ∈ p1, x.block < W.heap.size := by obtain ⟨m, hm⟩ := k1; exact DataW.trod_lt m _ _ _ hm
  obtain ⟨t1, rfl, hC1⟩ := M.open_pattern (hval 1 51 v1 rfl rfl) h1
  have k2 := h2
  have lt2 : ∀ x ∈ p2, x.block < W.heap.size := by obtain ⟨m, hm⟩ := k2; exact DataW.trod_lt m _ _ _ hm
  obtain ⟨t2, rfl⟩ := M.open_triple (hval 2 41 v2 rfl rfl) h2
  clear hA0 hval0 hsz0
  refine (M.matchParts_walk A0 c0 l0 t1 t2 W hC0 hL0 hC1).mono fun e W' ⟨he, bel⟩ => ?_
  subst he
  exact ⟨_, rfl, _, _, _, [], _, [], hW', trodAll_mk1 (shut_bool Try.underlying4 _), ⟨_, _, (Below.trod laidOut (by kernel_rfl) (of_decide_eq_true (by kernel_rfl)) k0 bel lt0), ⟨_, _, (Below.trod laidOut (by kernel_rfl) (of_decide_eq_true (by kernel_rfl)) k1 bel lt1), ⟨_, _, (Below.trod laidOut (by kernel_rfl) (of_decide_eq_true (by kernel_rfl)) k2 bel lt2), rfl, rfl⟩, rfl⟩, rfl⟩, rfl, bel.frame _, fun h => by cases h⟩
theorem over : Rows.matchPartsRow.holds Try.pinned (OpenSpec.ofChange Rows.matchPartsSpec) :=
  OpenClaim.holds_of_wide 5 Try.f5 rfl rfl rfl rfl rfl rfl rfl ⟨rfl, rfl, rfl, rfl, rfl⟩ rfl rfl rfl rfl rfl (by kernel_rfl) Try.func5 (by kernel_rfl)
    (of_decide_eq_true (by kernel_rfl)) (by unfold Func.isWrapper; first | (rw [if_pos (by decide +kernel)]; kernel_rfl) | (rw [if_neg (by decide +kernel)]; exact ⟨rfl, rfl⟩))
    (fun os started H enc _ => lifted os started H enc)
theorem proved : Rows.MatchPartsSaid := over
end Go.Proofs.Ytdjamphmndbmjaa.matchParts
namespace Go.Proofs.Ytdjamphmndbmjaa
/-- The row, under a short name, for the claim. -/
theorem matchParts_holds : Rows.MatchPartsSaid := matchParts.proved
end Go.Proofs.Ytdjamphmndbmjaa
