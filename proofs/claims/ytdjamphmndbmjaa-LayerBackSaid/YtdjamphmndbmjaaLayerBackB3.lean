/- Part 4 of 4 of the proof of LayerBackSaid: a law of the given program, for every input; no condition is added. -/
import Derived.Test.YtdjamphmndbmjaaLayerBackB2
import Derived.Deep.Slices
import Derived.Deep.Strs
import Derived.ChangeArms
import Derived.Carry
import Derived.OpenShut
import Derived.Test.YtdjamphmndbmjaaRows
import Derived.WalkKit
import Derived.ProofKit
import Derived.ShutString
import Derived.ChangeOld
import Derived.Below
import Derived.SizedLaws
/- stratasame.Layer, and the contracts of package layer by outcome (printed by wip/gen_lay6.py). -/
namespace Go.Proofs.Ytdjamphmndbmjaa.M
open Go.RowKit Go.Proofs.YtdjamphmndbmjaaW.PrintWords Go.Proofs.YtdjamphmndbmjaaW.PrintLast Go.Proofs.YtdjamphmndbmjaaW.PrintMore
set_option linter.unusedVariables false
set_option linter.unusedSimpArgs false

theorem post_below {x : Bool} {W : World} (e : Ending) (w' : World) (h : e = .returned (.bool x) ∧ ∃ q, w' = W.drewN q) : e = .returned (.bool x) ∧ Below W.heap.size W w' := by
  obtain ⟨he, q, hq⟩ := h
  exact ⟨he, by rw [hq]; exact pw_below_drewN (Below.refl _ _) q⟩
set_option maxHeartbeats 4000000 in
set_option maxRecDepth 100000 in
theorem sameL_calls (A1 : Option Addr) (c1 : Nat) (l1 : List S41) (A2 : Option Addr) (c2 : Nat) (l2 : List S41) (A3 : Option Addr) (c3 : Nat) (l3 : List S41) (A4 : Option Addr) (c4 : Nat) (l4 : List S41) (w : World) (hr1 : Kd.C k41 w A1 l1.length l1) (hr2 : Kd.C k41 w A2 l2.length l2) (hr3 : Kd.C k41 w A3 l3.length l3) (hr4 : Kd.C k41 w A4 l4.length l4) :
    Calls Try.prog 35 #[.agg #[.slice A1 l1.length c1, .slice A2 l2.length c2], .agg #[.slice A3 l3.length c3, .slice A4 l4.length c4]] w fun e w' => e = .returned (.bool (decide (l1 = l3) && decide (l2 = l4))) ∧ Below w.heap.size w w' := by
  obtain ⟨W0, hW0⟩ : ∃ W0, W0 = ((w.alloc (.cells #[.slice A1 l1.length c1, .slice A2 l2.length c2] 69)).alloc (.cells #[.slice A3 l3.length c3, .slice A4 l4.length c4] 69)) := ⟨_, rfl⟩
  have HR1 : Aside0 (Kd.C k41 W0 A1 l1.length l1) := ⟨by rw [hW0]; exact Kd.C_alloc (Kd.C_alloc hr1 _) _⟩
  have HR2 : Aside0 (Kd.C k41 W0 A2 l2.length l2) := ⟨by rw [hW0]; exact Kd.C_alloc (Kd.C_alloc hr2 _) _⟩
  have HR3 : Aside0 (Kd.C k41 W0 A3 l3.length l3) := ⟨by rw [hW0]; exact Kd.C_alloc (Kd.C_alloc hr3 _) _⟩
  have HR4 : Aside0 (Kd.C k41 W0 A4 l4.length l4) := ⟨by rw [hW0]; exact Kd.C_alloc (Kd.C_alloc hr4 _) _⟩
  have HB0 : Aside0 (Below w.heap.size w W0) := ⟨by rw [hW0]; exact below_alloc (below_alloc (Below.refl _ _) _) _⟩
  have BA : Aside0 (Box W0 w.heap.size #[.slice A1 l1.length c1, .slice A2 l2.length c2]) := ⟨by rw [hW0]; exact fun c v h => cell?_alloc_old' (Box.new w _ _ c v h) _⟩
  have BB : Aside0 (Box W0 (w.heap.size + 1) #[.slice A3 l3.length c3, .slice A4 l4.length c4]) := ⟨by rw [hW0]; exact fun c v h => (by have q := Box.new (w.alloc (.cells #[.slice A1 l1.length c1, .slice A2 l2.length c2] 69)) #[.slice A3 l3.length c3, .slice A4 l4.length c4] 69 c v h; rw [alloc_size1] at q; exact q)⟩
  have hx := fun W (h1 : Kd.C k41 W A1 l1.length l1) (h3 : Kd.C k41 W A3 l3.length l3) => (same_calls A1 A3 c1 c3 l1 l3 W h1 h3).mono (post_below (x := decide (l1 = l3)))
  have hy := fun W (h2 : Kd.C k41 W A2 l2.length l2) (h4 : Kd.C k41 W A4 l4.length l4) => (same_calls A2 A4 c2 c4 l2 l4 W h2 h4).mono (post_below (x := decide (l2 = l4)))
  generalize decide (l1 = l3) = p at hx ⊢; generalize decide (l2 = l4) = q at hy ⊢
  have HX := Aside0.mk hx; have HY := Aside0.mk hy; have HW0 := Aside0.mk hW0; clear hx hy hr1 hr2 hr3 hr4
  have hs0 : Below W0.heap.size W0 ((w.alloc (.cells #[.slice A1 l1.length c1, .slice A2 l2.length c2] 69)).alloc (.cells #[.slice A3 l3.length c3, .slice A4 l4.length c4] 69)) := by rw [hW0]; exact Below.refl _ _
  have HL := Aside0.mk hs0; clear hs0 hW0
  cases p <;> cases q <;>
  · go_enter Try.func35, Try.ntmps35
    go_wp2_with (go_at_call 20; refine stop_ ?_)
    refine ⟨?_⟩
    refine Calls.mono (HX.out _ (Kd.C_below HR1.out HL.out) (Kd.C_below HR3.out HL.out)) ?_
    rintro e w' ⟨rfl, hb⟩
    have HLn := Aside0.mk (below_step HL.out hb); clear HL hb; have HL := HLn; clear HLn
    have k2 := (Box.keep (Below.refl _ _) HL.out BA.out) 1 (.slice A2 l2.length c2) rfl; have k4 := (Box.keep (Below.refl _ _) HL.out BB.out) 1 (.slice A4 l4.length c4) rfl
    go_wp2_with (go_at_call 20; refine stop_ ?_)
    clear k2 k4
    refine ⟨?_⟩
    refine Calls.mono (HY.out _ (Kd.C_below HR2.out HL.out) (Kd.C_below HR4.out HL.out)) ?_
    rintro e w' ⟨rfl, hb⟩
    have HLn := Aside0.mk (below_step HL.out hb); clear HL hb; have HL := HLn; clear HLn
    go_wp2_with (go_at_call 20; refine stop_ ?_)
    go_ret
    exact ⟨rfl, HB0.out.trans (HL.out.mono HB0.out.size)⟩
theorem between_ok {l0 : List S41} {l1 : List S41} {u v : List S41} (h : betwR l0 l1 = ((u, v), none)) (A0 : Option Addr) (c0 : Nat) (A1 : Option Addr) (c1 : Nat) (w : World) (hr0 : Kd.C k41 w A0 l0.length l0) (hc0 : l0.length ≤ c0) (hr1 : Kd.C k41 w A1 l1.length l1) (hc1 : l1.length ≤ c1) :
    Calls Try.prog 30 #[.slice A0 l0.length c0, .slice A1 l1.length c1] w fun e w' => ∃ x, e = .returned (.tuple #[x, .nilIface]) ∧ LRow w' w.heap.size x u v ∧ Below w.heap.size w w' := by
  have hc := betw_calls A0 c0 l0 A1 c1 l1 w hr0 hc0 hr1 hc1
  rw [h] at hc
  exact hc
theorem between_err {l0 : List S41} {l1 : List S41} {u v : List S41} {n : Int} (h : betwR l0 l1 = ((u, v), some n)) (A0 : Option Addr) (c0 : Nat) (A1 : Option Addr) (c1 : Nat) (w : World) (hr0 : Kd.C k41 w A0 l0.length l0) (hc0 : l0.length ≤ c0) (hr1 : Kd.C k41 w A1 l1.length l1) (hc1 : l1.length ≤ c1) :
    Calls Try.prog 30 #[.slice A0 l0.length c0, .slice A1 l1.length c1] w fun e w' => ∃ x, e = .returned (.tuple #[x, (.iface 23 (.int .i64 n))]) ∧ LRow w' w.heap.size x u v ∧ Below w.heap.size w w' := by
  have hc := betw_calls A0 c0 l0 A1 c1 l1 w hr0 hc0 hr1 hc1
  rw [h] at hc
  exact hc
theorem lcheck_ok {l0 : List S41} {l1 : List S41}  (h : layErr l0 l1 = none) (A0 : Option Addr) (c0 : Nat) (A1 : Option Addr) (c1 : Nat) (w : World) (hr0 : Kd.C k41 w A0 l0.length l0) (hc0 : l0.length ≤ c0) (hr1 : Kd.C k41 w A1 l1.length l1) (hc1 : l1.length ≤ c1) :
    Calls Try.prog 33 #[.agg #[.slice A0 l0.length c0, .slice A1 l1.length c1]] w fun e w' => e = .returned .nilIface ∧ Below w.heap.size w w' := by
  have hc := lcheck_calls A0 c0 l0 A1 c1 l1 w hr0 hc0 hr1 hc1
  rw [h] at hc
  exact hc
theorem lcheck_err {l0 : List S41} {l1 : List S41}  {n : Int} (h : layErr l0 l1 = some n) (A0 : Option Addr) (c0 : Nat) (A1 : Option Addr) (c1 : Nat) (w : World) (hr0 : Kd.C k41 w A0 l0.length l0) (hc0 : l0.length ≤ c0) (hr1 : Kd.C k41 w A1 l1.length l1) (hc1 : l1.length ≤ c1) :
    Calls Try.prog 33 #[.agg #[.slice A0 l0.length c0, .slice A1 l1.length c1]] w fun e w' => e = .returned (.iface 23 (.int .i64 n)) ∧ Below w.heap.size w w' := by
  have hc := lcheck_calls A0 c0 l0 A1 c1 l1 w hr0 hc0 hr1 hc1
  rw [h] at hc
  exact hc
theorem apply_ok {l0 : List S41} {l1 : List S41} {l2 : List S41} {u : List S41} (h : applyR l0 l1 l2 = (u, none)) (A0 : Option Addr) (c0 : Nat) (A1 : Option Addr) (c1 : Nat) (A2 : Option Addr) (c2 : Nat) (w : World) (hr0 : Kd.C k41 w A0 l0.length l0) (hc0 : l0.length ≤ c0) (hr1 : Kd.C k41 w A1 l1.length l1) (hc1 : l1.length ≤ c1) (hr2 : Kd.C k41 w A2 l2.length l2) (hc2 : l2.length ≤ c2) :
    Calls Try.prog 31 #[.slice A0 l0.length c0, .agg #[.slice A1 l1.length c1, .slice A2 l2.length c2]] w fun e w' => ∃ x, e = .returned (.tuple #[x, .nilIface]) ∧ Kd.R k41 41 w' w.heap.size (fun _ => True) x u ∧ Below w.heap.size w w' := by
  have hc := apply_calls A0 c0 l0 A1 c1 l1 A2 c2 l2 w hr0 hc0 hr1 hc1 hr2 hc2
  rw [h] at hc
  exact hc
theorem apply_err {l0 : List S41} {l1 : List S41} {l2 : List S41} {u : List S41} {n : Int} (h : applyR l0 l1 l2 = (u, some n)) (A0 : Option Addr) (c0 : Nat) (A1 : Option Addr) (c1 : Nat) (A2 : Option Addr) (c2 : Nat) (w : World) (hr0 : Kd.C k41 w A0 l0.length l0) (hc0 : l0.length ≤ c0) (hr1 : Kd.C k41 w A1 l1.length l1) (hc1 : l1.length ≤ c1) (hr2 : Kd.C k41 w A2 l2.length l2) (hc2 : l2.length ≤ c2) :
    Calls Try.prog 31 #[.slice A0 l0.length c0, .agg #[.slice A1 l1.length c1, .slice A2 l2.length c2]] w fun e w' => ∃ x, e = .returned (.tuple #[x, (.iface 23 (.int .i64 n))]) ∧ Kd.R k41 41 w' w.heap.size (fun _ => True) x u ∧ Below w.heap.size w w' := by
  have hc := apply_calls A0 c0 l0 A1 c1 l1 A2 c2 l2 w hr0 hc0 hr1 hc1 hr2 hc2
  rw [h] at hc
  exact hc
theorem then_ok {l1 : List S41} {l2 : List S41} {l3 : List S41} {l4 : List S41} {u v : List S41} (h : thenR l1 l2 l3 l4 = ((u, v), none)) (A1 : Option Addr) (c1 : Nat) (A2 : Option Addr) (c2 : Nat) (A3 : Option Addr) (c3 : Nat) (A4 : Option Addr) (c4 : Nat) (w : World) (hr1 : Kd.C k41 w A1 l1.length l1) (hc1 : l1.length ≤ c1) (hr2 : Kd.C k41 w A2 l2.length l2) (hc2 : l2.length ≤ c2) (hr3 : Kd.C k41 w A3 l3.length l3) (hc3 : l3.length ≤ c3) (hr4 : Kd.C k41 w A4 l4.length l4) (hc4 : l4.length ≤ c4) :
    Calls Try.prog 34 #[.agg #[.slice A1 l1.length c1, .slice A2 l2.length c2], .agg #[.slice A3 l3.length c3, .slice A4 l4.length c4]] w fun e w' => ∃ x, e = .returned (.tuple #[x, .nilIface]) ∧ LRow w' w.heap.size x u v ∧ Below w.heap.size w w' := by
  have hc := then_calls A1 c1 l1 A2 c2 l2 A3 c3 l3 A4 c4 l4 w hr1 hc1 hr2 hc2 hr3 hc3 hr4 hc4
  rw [h] at hc
  exact hc
theorem then_err {l1 : List S41} {l2 : List S41} {l3 : List S41} {l4 : List S41} {u v : List S41} {n : Int} (h : thenR l1 l2 l3 l4 = ((u, v), some n)) (A1 : Option Addr) (c1 : Nat) (A2 : Option Addr) (c2 : Nat) (A3 : Option Addr) (c3 : Nat) (A4 : Option Addr) (c4 : Nat) (w : World) (hr1 : Kd.C k41 w A1 l1.length l1) (hc1 : l1.length ≤ c1) (hr2 : Kd.C k41 w A2 l2.length l2) (hc2 : l2.length ≤ c2) (hr3 : Kd.C k41 w A3 l3.length l3) (hc3 : l3.length ≤ c3) (hr4 : Kd.C k41 w A4 l4.length l4) (hc4 : l4.length ≤ c4) :
    Calls Try.prog 34 #[.agg #[.slice A1 l1.length c1, .slice A2 l2.length c2], .agg #[.slice A3 l3.length c3, .slice A4 l4.length c4]] w fun e w' => ∃ x, e = .returned (.tuple #[x, (.iface 23 (.int .i64 n))]) ∧ LRow w' w.heap.size x u v ∧ Below w.heap.size w w' := by
  have hc := then_calls A1 c1 l1 A2 c2 l2 A3 c3 l3 A4 c4 l4 w hr1 hc1 hr2 hc2 hr3 hc3 hr4 hc4
  rw [h] at hc
  exact hc
theorem turn_ok {l1 : List S41} {l2 : List S41} (h : layErr l1 l2 = none) (A1 : Option Addr) (c1 : Nat) (A2 : Option Addr) (c2 : Nat) (w : World) (hr1 : Kd.C k41 w A1 l1.length l1) (hc1 : l1.length ≤ c1) (hr2 : Kd.C k41 w A2 l2.length l2) (hc2 : l2.length ≤ c2) :
    Calls Try.prog 32 #[.agg #[.slice A1 l1.length c1, .slice A2 l2.length c2]] w fun e w' => ∃ x, e = .returned (.tuple #[x, .nilIface]) ∧ LRow w' w.heap.size x l2 l1 ∧ Below w.heap.size w w' := by
  have hc := turn_calls A1 c1 l1 A2 c2 l2 w hr1 hc1 hr2 hc2
  rw [h, if_pos rfl, if_pos rfl] at hc
  exact hc
theorem sameL_true {l1 : List S41} {l2 : List S41} {l3 : List S41} {l4 : List S41} (h : l1 = l3) (h' : l2 = l4) (A1 : Option Addr) (c1 : Nat) (A2 : Option Addr) (c2 : Nat) (A3 : Option Addr) (c3 : Nat) (A4 : Option Addr) (c4 : Nat) (w : World) (hr1 : Kd.C k41 w A1 l1.length l1) (hr2 : Kd.C k41 w A2 l2.length l2) (hr3 : Kd.C k41 w A3 l3.length l3) (hr4 : Kd.C k41 w A4 l4.length l4) :
    Calls Try.prog 35 #[.agg #[.slice A1 l1.length c1, .slice A2 l2.length c2], .agg #[.slice A3 l3.length c3, .slice A4 l4.length c4]] w fun e w' => e = .returned (.bool true) ∧ Below w.heap.size w w' := by
  have hc := sameL_calls A1 c1 l1 A2 c2 l2 A3 c3 l3 A4 c4 l4 w hr1 hr2 hr3 hr4
  rw [decide_eq_true h, decide_eq_true h'] at hc
  exact hc
theorem betw_xabc : betwR [] [xabc] = (([xabc], []), none) := by
  rw [betw_ok sorted_nil (sorted_one chk_xabc)]
  rfl
theorem row_two (w : World) (o1 : Obj) : Kd.C k41 ((w.alloc o1).alloc (.cells (celR xabc) 41)) (some ⟨w.heap.size + 1, 0, none⟩) 1 [xabc] := by
  have h := row_one (w.alloc o1) xabc
  rw [alloc_size1] at h
  exact h
theorem LRow.rows {w : World} {base : Nat} {v : Value} {a t : List S41} (h : LRow w base v a t) : ∃ A c A' c', v = .agg #[.slice A a.length c, .slice A' t.length c'] ∧ Kd.C k41 w A a.length a ∧ a.length ≤ c ∧ Kd.C k41 w A' t.length t ∧ t.length ≤ c' := by
  obtain ⟨v1, v2, e, h1, h2⟩ := h
  obtain ⟨A, c, e1, C1, L1⟩ := Row.of_R h1
  obtain ⟨A', c', e2, C2, L2⟩ := Row.of_R h2
  exact ⟨A, c, A', c', by rw [e, e1, e2], C1, L1, C2, L2⟩
end Go.Proofs.Ytdjamphmndbmjaa.M

/- The law LayerBack, walked by hand (printed by wip/gen_layerback.py): which way it goes is known ahead of each branch. -/
namespace Go.Proofs.Ytdjamphmndbmjaa.M
open Go.RowKit Go.Proofs.YtdjamphmndbmjaaW.PrintWords Go.Proofs.YtdjamphmndbmjaaW.PrintLast Go.Proofs.YtdjamphmndbmjaaW.PrintMore
set_option linter.unusedVariables false
set_option linter.unusedSimpArgs false

attribute [local go_sem high] eqTR
set_option maxHeartbeats 16000000 in
set_option maxRecDepth 100000 in
theorem layerBack_walk (Aa Ab Ac : Option Addr) (ca cb cc : Nat) (a b c : List S41) (w : World) (hra : Kd.C k41 w Aa a.length a) (hca : a.length ≤ ca) (hrb : Kd.C k41 w Ab b.length b) (hcb : b.length ≤ cb) (hrc : Kd.C k41 w Ac c.length c) (hcc : c.length ≤ cc) :
    Calls Try.prog 8 #[.slice Aa a.length ca, .slice Ab b.length cb, .slice Ac c.length cc] w fun e w' => e = .returned (.bool true) ∧ Below w.heap.size w w' := by
  have HW := Aside0.mk (Below.refl w.heap.size w)
  have Ha := Aside0.mk hra; have HLa := Aside0.mk hca
  have Hb := Aside0.mk hrb; have HLb := Aside0.mk hcb
  have Hc := Aside0.mk hrc; have HLc := Aside0.mk hcc
  clear hra hrb hrc hca hcb hcc
  have Bx : Aside0 (Box (w.alloc (.cells #[.int .i64 1, .string ⟨#[97]⟩, .string ⟨#[]⟩, .int .i64 1, .string ⟨#[98]⟩, .string ⟨#[]⟩, .int .i64 1, .string ⟨#[99]⟩, .string ⟨#[]⟩] 41)) w.heap.size #[.int .i64 1, .string ⟨#[97]⟩, .string ⟨#[]⟩, .int .i64 1, .string ⟨#[98]⟩, .string ⟨#[]⟩, .int .i64 1, .string ⟨#[99]⟩, .string ⟨#[]⟩]) := ⟨Box.new _ _ _⟩
  go_enter Try.func8, Try.ntmps8
  go_wp2_with (first | (go_at_call 30; refine stop_ ?_) | (go_at_call 31; refine stop_ ?_) | (go_at_call 32; refine stop_ ?_) | (go_at_call 33; refine stop_ ?_) | (go_at_call 34; refine stop_ ?_) | (go_at_call 19; refine stop_ ?_) | (go_at_call 20; refine stop_ ?_) | (go_at_call 35; refine stop_ ?_))
  repeat (go_quiet (fail); try (go_wp2_with (first | (go_at_call 30; refine stop_ ?_) | (go_at_call 31; refine stop_ ?_) | (go_at_call 32; refine stop_ ?_) | (go_at_call 33; refine stop_ ?_) | (go_at_call 34; refine stop_ ?_) | (go_at_call 19; refine stop_ ?_) | (go_at_call 20; refine stop_ ?_) | (go_at_call 35; refine stop_ ?_))))
  refine ⟨?_⟩
  refine Calls.mono (between_ok betw_xabc none 0 (some ⟨w.heap.size + 1, 0, none⟩) 1 _ (C_none _) (Nat.le_refl _) (row_two w _) (Nat.le_refl _)) ?_
  rintro e w' ⟨v, rfl, hv, hb⟩
  replace Ha := Aside0.mk (Kd.C_below (Kd.C_below Ha.out (by repeat (first | exact Below.refl _ _ | refine below_alloc ?_ _ | refine pw_below_drewN ?_ _ | refine below_drew1 ?_))) hb)
  replace Hb := Aside0.mk (Kd.C_below (Kd.C_below Hb.out (by repeat (first | exact Below.refl _ _ | refine below_alloc ?_ _ | refine pw_below_drewN ?_ _ | refine below_drew1 ?_))) hb)
  replace Hc := Aside0.mk (Kd.C_below (Kd.C_below Hc.out (by repeat (first | exact Below.refl _ _ | refine below_alloc ?_ _ | refine pw_below_drewN ?_ _ | refine below_drew1 ?_))) hb)
  replace Bx := Aside0.mk (Box.keep (by repeat (first | exact Below.refl _ _ | refine below_alloc ?_ _ | refine pw_below_drewN ?_ _ | refine below_drew1 ?_)) hb Bx.out)
  replace HW := Aside0.mk (below_step (below_step HW.out (by repeat (first | exact Below.refl _ _ | refine below_alloc ?_ _ | refine pw_below_drewN ?_ _ | refine below_drew1 ?_))) hb)
  obtain ⟨Afa, cfa, Aft, cft, ev, hC, hL, hC', hL'⟩ := hv.rows
  subst ev
  have Hfa := Aside0.mk hC
  have HLfa := Aside0.mk hL
  have Hft := Aside0.mk hC'
  have HLft := Aside0.mk hL'
  clear hC hL hC' hL' hv
  clear hb
  have x0 := fun (o : Obj) => cell?_alloc_old' (Bx.out 0 (.int .i64 1) rfl) o
  have x1 := fun (o : Obj) => cell?_alloc_old' (Bx.out 1 (.string ⟨#[97]⟩) rfl) o
  have x2 := fun (o : Obj) => cell?_alloc_old' (Bx.out 2 (.string ⟨#[]⟩) rfl) o
  have x3 := fun (o : Obj) => cell?_alloc_old' (Bx.out 3 (.int .i64 1) rfl) o
  have x4 := fun (o : Obj) => cell?_alloc_old' (Bx.out 4 (.string ⟨#[98]⟩) rfl) o
  have x5 := fun (o : Obj) => cell?_alloc_old' (Bx.out 5 (.string ⟨#[]⟩) rfl) o
  have x6 := fun (o : Obj) => cell?_alloc_old' (Bx.out 6 (.int .i64 1) rfl) o
  have x7 := fun (o : Obj) => cell?_alloc_old' (Bx.out 7 (.string ⟨#[99]⟩) rfl) o
  have x8 := fun (o : Obj) => cell?_alloc_old' (Bx.out 8 (.string ⟨#[]⟩) rfl) o
  obtain ⟨ad, e0, z0, z1, z2, z3, z4, z5, z6, z7, z8⟩ := one_cells Hfa.out
  subst e0
  have y0 := fun (o : Obj) => cell?_alloc_old' (show w'.cell? ad = some (.int .i64 1) from z0) o
  have y1 := fun (o : Obj) => cell?_alloc_old' (show w'.cell? ⟨ad.block, ad.off + 1, none⟩ = some (.string ⟨#[97]⟩) from z1) o
  have y2 := fun (o : Obj) => cell?_alloc_old' (show w'.cell? ⟨ad.block, ad.off + 2, none⟩ = some (.string ⟨#[]⟩) from z2) o
  have y3 := fun (o : Obj) => cell?_alloc_old' (show w'.cell? ⟨ad.block, ad.off + 3, none⟩ = some (.int .i64 1) from z3) o
  have y4 := fun (o : Obj) => cell?_alloc_old' (show w'.cell? ⟨ad.block, ad.off + 4, none⟩ = some (.string ⟨#[98]⟩) from z4) o
  have y5 := fun (o : Obj) => cell?_alloc_old' (show w'.cell? ⟨ad.block, ad.off + 5, none⟩ = some (.string ⟨#[]⟩) from z5) o
  have y6 := fun (o : Obj) => cell?_alloc_old' (show w'.cell? ⟨ad.block, ad.off + 6, none⟩ = some (.int .i64 1) from z6) o
  have y7 := fun (o : Obj) => cell?_alloc_old' (show w'.cell? ⟨ad.block, ad.off + 7, none⟩ = some (.string ⟨#[99]⟩) from z7) o
  have y8 := fun (o : Obj) => cell?_alloc_old' (show w'.cell? ⟨ad.block, ad.off + 8, none⟩ = some (.string ⟨#[]⟩) from z8) o
  clear z0 z1 z2 z3 z4 z5 z6 z7 z8
  have hxx : eqE (⟨⟨1, ⟨#[97]⟩, ⟨#[]⟩⟩, ⟨1, ⟨#[98]⟩, ⟨#[]⟩⟩, ⟨1, ⟨#[99]⟩, ⟨#[]⟩⟩⟩ : S41) (⟨⟨1, ⟨#[97]⟩, ⟨#[]⟩⟩, ⟨1, ⟨#[98]⟩, ⟨#[]⟩⟩, ⟨1, ⟨#[99]⟩, ⟨#[]⟩⟩⟩ : S41) = true := (eqE_decide xabc xabc).trans (decide_eq_true rfl)
  go_wp2_with (first | (go_at_call 30; refine stop_ ?_) | (go_at_call 31; refine stop_ ?_) | (go_at_call 32; refine stop_ ?_) | (go_at_call 33; refine stop_ ?_) | (go_at_call 34; refine stop_ ?_) | (go_at_call 19; refine stop_ ?_) | (go_at_call 20; refine stop_ ?_) | (go_at_call 35; refine stop_ ?_))
  repeat (go_quiet (fail); try (go_wp2_with (first | (go_at_call 30; refine stop_ ?_) | (go_at_call 31; refine stop_ ?_) | (go_at_call 32; refine stop_ ?_) | (go_at_call 33; refine stop_ ?_) | (go_at_call 34; refine stop_ ?_) | (go_at_call 19; refine stop_ ?_) | (go_at_call 20; refine stop_ ?_) | (go_at_call 35; refine stop_ ?_))))
  clear x0 x1 x2 x3 x4 x5 x6 x7 x8
  clear y0 y1 y2 y3 y4 y5 y6 y7 y8 hxx Bx Hfa HLfa Hft HLft
  cases ha : sortedR a with
  | some n =>
    have HE : Aside0 (betwR a b = (([], []), some n)) := ⟨by unfold betwR right2; rw [ha]⟩
    have HSA := Aside0.mk ha; clear ha
    refine ⟨?_⟩
    refine Calls.mono (between_err HE.out Aa ca Ab cb _ (Kd.C_below Ha.out (by repeat (first | exact Below.refl _ _ | refine below_alloc ?_ _ | refine pw_below_drewN ?_ _ | refine below_drew1 ?_))) HLa.out (Kd.C_below Hb.out (by repeat (first | exact Below.refl _ _ | refine below_alloc ?_ _ | refine pw_below_drewN ?_ _ | refine below_drew1 ?_))) HLb.out) ?_
    rintro e w' ⟨v, rfl, hv, hb⟩
    replace Ha := Aside0.mk (Kd.C_below (Kd.C_below Ha.out (by repeat (first | exact Below.refl _ _ | refine below_alloc ?_ _ | refine pw_below_drewN ?_ _ | refine below_drew1 ?_))) hb)
    replace Hb := Aside0.mk (Kd.C_below (Kd.C_below Hb.out (by repeat (first | exact Below.refl _ _ | refine below_alloc ?_ _ | refine pw_below_drewN ?_ _ | refine below_drew1 ?_))) hb)
    replace Hc := Aside0.mk (Kd.C_below (Kd.C_below Hc.out (by repeat (first | exact Below.refl _ _ | refine below_alloc ?_ _ | refine pw_below_drewN ?_ _ | refine below_drew1 ?_))) hb)
    replace HW := Aside0.mk (below_step (below_step HW.out (by repeat (first | exact Below.refl _ _ | refine below_alloc ?_ _ | refine pw_below_drewN ?_ _ | refine below_drew1 ?_))) hb)
    obtain ⟨v1, v2, ev, hv1, hv2⟩ := hv
    subst ev
    obtain ⟨Ae, ce, ee⟩ := Kd.R_slice hv1
    obtain ⟨Ag, cg, eg⟩ := Kd.R_slice hv2
    subst ee
    subst eg
    clear hv1 hv2
    clear hb
    go_wp2_with (first | (go_at_call 30; refine stop_ ?_) | (go_at_call 31; refine stop_ ?_) | (go_at_call 32; refine stop_ ?_) | (go_at_call 33; refine stop_ ?_) | (go_at_call 34; refine stop_ ?_) | (go_at_call 19; refine stop_ ?_) | (go_at_call 20; refine stop_ ?_) | (go_at_call 35; refine stop_ ?_))
    repeat (go_quiet (fail); try (go_wp2_with (first | (go_at_call 30; refine stop_ ?_) | (go_at_call 31; refine stop_ ?_) | (go_at_call 32; refine stop_ ?_) | (go_at_call 33; refine stop_ ?_) | (go_at_call 34; refine stop_ ?_) | (go_at_call 19; refine stop_ ?_) | (go_at_call 20; refine stop_ ?_) | (go_at_call 35; refine stop_ ?_))))
    refine ⟨?_⟩
    refine Calls.mono (sorted_err HSA.out Aa ca _ (Kd.C_below Ha.out (by repeat (first | exact Below.refl _ _ | refine below_alloc ?_ _ | refine pw_below_drewN ?_ _ | refine below_drew1 ?_))) HLa.out) ?_
    rintro e w' ⟨rfl, hb⟩
    replace Ha := Aside0.mk (Kd.C_below (Kd.C_below Ha.out (by repeat (first | exact Below.refl _ _ | refine below_alloc ?_ _ | refine pw_below_drewN ?_ _ | refine below_drew1 ?_))) hb)
    replace Hb := Aside0.mk (Kd.C_below (Kd.C_below Hb.out (by repeat (first | exact Below.refl _ _ | refine below_alloc ?_ _ | refine pw_below_drewN ?_ _ | refine below_drew1 ?_))) hb)
    replace Hc := Aside0.mk (Kd.C_below (Kd.C_below Hc.out (by repeat (first | exact Below.refl _ _ | refine below_alloc ?_ _ | refine pw_below_drewN ?_ _ | refine below_drew1 ?_))) hb)
    replace HW := Aside0.mk (below_step (below_step HW.out (by repeat (first | exact Below.refl _ _ | refine below_alloc ?_ _ | refine pw_below_drewN ?_ _ | refine below_drew1 ?_))) hb)
    clear hb
    go_wp2_with (first | (go_at_call 30; refine stop_ ?_) | (go_at_call 31; refine stop_ ?_) | (go_at_call 32; refine stop_ ?_) | (go_at_call 33; refine stop_ ?_) | (go_at_call 34; refine stop_ ?_) | (go_at_call 19; refine stop_ ?_) | (go_at_call 20; refine stop_ ?_) | (go_at_call 35; refine stop_ ?_))
    repeat (go_quiet (fail); try (go_wp2_with (first | (go_at_call 30; refine stop_ ?_) | (go_at_call 31; refine stop_ ?_) | (go_at_call 32; refine stop_ ?_) | (go_at_call 33; refine stop_ ?_) | (go_at_call 34; refine stop_ ?_) | (go_at_call 19; refine stop_ ?_) | (go_at_call 20; refine stop_ ?_) | (go_at_call 35; refine stop_ ?_))))
    go_ret
    exact ⟨by first | rfl | (simp; done) | (simp [*]; done) | (simp; omega), below_step HW.out (by repeat (first | exact Below.refl _ _ | refine below_alloc ?_ _ | refine pw_below_drewN ?_ _ | refine below_drew1 ?_))⟩
  | none =>
    cases hb0 : sortedR b with
    | some n =>
      have HE : Aside0 (betwR a b = (([], []), some n)) := ⟨by unfold betwR right2; rw [ha, hb0]⟩
      have HSA := Aside0.mk ha; clear ha; have HSB := Aside0.mk hb0; clear hb0
      refine ⟨?_⟩
      refine Calls.mono (between_err HE.out Aa ca Ab cb _ (Kd.C_below Ha.out (by repeat (first | exact Below.refl _ _ | refine below_alloc ?_ _ | refine pw_below_drewN ?_ _ | refine below_drew1 ?_))) HLa.out (Kd.C_below Hb.out (by repeat (first | exact Below.refl _ _ | refine below_alloc ?_ _ | refine pw_below_drewN ?_ _ | refine below_drew1 ?_))) HLb.out) ?_
      rintro e w' ⟨v, rfl, hv, hb⟩
      replace Ha := Aside0.mk (Kd.C_below (Kd.C_below Ha.out (by repeat (first | exact Below.refl _ _ | refine below_alloc ?_ _ | refine pw_below_drewN ?_ _ | refine below_drew1 ?_))) hb)
      replace Hb := Aside0.mk (Kd.C_below (Kd.C_below Hb.out (by repeat (first | exact Below.refl _ _ | refine below_alloc ?_ _ | refine pw_below_drewN ?_ _ | refine below_drew1 ?_))) hb)
      replace Hc := Aside0.mk (Kd.C_below (Kd.C_below Hc.out (by repeat (first | exact Below.refl _ _ | refine below_alloc ?_ _ | refine pw_below_drewN ?_ _ | refine below_drew1 ?_))) hb)
      replace HW := Aside0.mk (below_step (below_step HW.out (by repeat (first | exact Below.refl _ _ | refine below_alloc ?_ _ | refine pw_below_drewN ?_ _ | refine below_drew1 ?_))) hb)
      obtain ⟨v1, v2, ev, hv1, hv2⟩ := hv
      subst ev
      obtain ⟨Ae, ce, ee⟩ := Kd.R_slice hv1
      obtain ⟨Ag, cg, eg⟩ := Kd.R_slice hv2
      subst ee
      subst eg
      clear hv1 hv2
      clear hb
      go_wp2_with (first | (go_at_call 30; refine stop_ ?_) | (go_at_call 31; refine stop_ ?_) | (go_at_call 32; refine stop_ ?_) | (go_at_call 33; refine stop_ ?_) | (go_at_call 34; refine stop_ ?_) | (go_at_call 19; refine stop_ ?_) | (go_at_call 20; refine stop_ ?_) | (go_at_call 35; refine stop_ ?_))
      repeat (go_quiet (fail); try (go_wp2_with (first | (go_at_call 30; refine stop_ ?_) | (go_at_call 31; refine stop_ ?_) | (go_at_call 32; refine stop_ ?_) | (go_at_call 33; refine stop_ ?_) | (go_at_call 34; refine stop_ ?_) | (go_at_call 19; refine stop_ ?_) | (go_at_call 20; refine stop_ ?_) | (go_at_call 35; refine stop_ ?_))))
      refine ⟨?_⟩
      refine Calls.mono (sorted_ok HSA.out Aa ca _ (Kd.C_below Ha.out (by repeat (first | exact Below.refl _ _ | refine below_alloc ?_ _ | refine pw_below_drewN ?_ _ | refine below_drew1 ?_))) HLa.out) ?_
      rintro e w' ⟨rfl, hb⟩
      replace Ha := Aside0.mk (Kd.C_below (Kd.C_below Ha.out (by repeat (first | exact Below.refl _ _ | refine below_alloc ?_ _ | refine pw_below_drewN ?_ _ | refine below_drew1 ?_))) hb)
      replace Hb := Aside0.mk (Kd.C_below (Kd.C_below Hb.out (by repeat (first | exact Below.refl _ _ | refine below_alloc ?_ _ | refine pw_below_drewN ?_ _ | refine below_drew1 ?_))) hb)
      replace Hc := Aside0.mk (Kd.C_below (Kd.C_below Hc.out (by repeat (first | exact Below.refl _ _ | refine below_alloc ?_ _ | refine pw_below_drewN ?_ _ | refine below_drew1 ?_))) hb)
      replace HW := Aside0.mk (below_step (below_step HW.out (by repeat (first | exact Below.refl _ _ | refine below_alloc ?_ _ | refine pw_below_drewN ?_ _ | refine below_drew1 ?_))) hb)
      clear hb
      go_wp2_with (first | (go_at_call 30; refine stop_ ?_) | (go_at_call 31; refine stop_ ?_) | (go_at_call 32; refine stop_ ?_) | (go_at_call 33; refine stop_ ?_) | (go_at_call 34; refine stop_ ?_) | (go_at_call 19; refine stop_ ?_) | (go_at_call 20; refine stop_ ?_) | (go_at_call 35; refine stop_ ?_))
      repeat (go_quiet (fail); try (go_wp2_with (first | (go_at_call 30; refine stop_ ?_) | (go_at_call 31; refine stop_ ?_) | (go_at_call 32; refine stop_ ?_) | (go_at_call 33; refine stop_ ?_) | (go_at_call 34; refine stop_ ?_) | (go_at_call 19; refine stop_ ?_) | (go_at_call 20; refine stop_ ?_) | (go_at_call 35; refine stop_ ?_))))
      refine ⟨?_⟩
      refine Calls.mono (sorted_err HSB.out Ab cb _ (Kd.C_below Hb.out (by repeat (first | exact Below.refl _ _ | refine below_alloc ?_ _ | refine pw_below_drewN ?_ _ | refine below_drew1 ?_))) HLb.out) ?_
      rintro e w' ⟨rfl, hb⟩
      replace Ha := Aside0.mk (Kd.C_below (Kd.C_below Ha.out (by repeat (first | exact Below.refl _ _ | refine below_alloc ?_ _ | refine pw_below_drewN ?_ _ | refine below_drew1 ?_))) hb)
      replace Hb := Aside0.mk (Kd.C_below (Kd.C_below Hb.out (by repeat (first | exact Below.refl _ _ | refine below_alloc ?_ _ | refine pw_below_drewN ?_ _ | refine below_drew1 ?_))) hb)
      replace Hc := Aside0.mk (Kd.C_below (Kd.C_below Hc.out (by repeat (first | exact Below.refl _ _ | refine below_alloc ?_ _ | refine pw_below_drewN ?_ _ | refine below_drew1 ?_))) hb)
      replace HW := Aside0.mk (below_step (below_step HW.out (by repeat (first | exact Below.refl _ _ | refine below_alloc ?_ _ | refine pw_below_drewN ?_ _ | refine below_drew1 ?_))) hb)
      clear hb
      go_wp2_with (first | (go_at_call 30; refine stop_ ?_) | (go_at_call 31; refine stop_ ?_) | (go_at_call 32; refine stop_ ?_) | (go_at_call 33; refine stop_ ?_) | (go_at_call 34; refine stop_ ?_) | (go_at_call 19; refine stop_ ?_) | (go_at_call 20; refine stop_ ?_) | (go_at_call 35; refine stop_ ?_))
      repeat (go_quiet (fail); try (go_wp2_with (first | (go_at_call 30; refine stop_ ?_) | (go_at_call 31; refine stop_ ?_) | (go_at_call 32; refine stop_ ?_) | (go_at_call 33; refine stop_ ?_) | (go_at_call 34; refine stop_ ?_) | (go_at_call 19; refine stop_ ?_) | (go_at_call 20; refine stop_ ?_) | (go_at_call 35; refine stop_ ?_))))
      go_ret
      exact ⟨by first | rfl | (simp; done) | (simp [*]; done) | (simp; omega), below_step HW.out (by repeat (first | exact Below.refl _ _ | refine below_alloc ?_ _ | refine pw_below_drewN ?_ _ | refine below_drew1 ?_))⟩
    | none =>
      have P1 := Aside0.mk (betw_ok ha hb0); have P2 := Aside0.mk (apply_betw ha hb0); have P3 := Aside0.mk (betw_lay ha hb0); have P4 := Aside0.mk (apply_betw hb0 ha)
      have P5 : Aside0 (sortedR c = none → thenR (partR b a false) (partR a b false) (partR c b false) (partR b c false) = ((partR c a false, partR a c false), none)) := ⟨fun hc => then_betw ha hb0 hc⟩
      have HSA := Aside0.mk ha; have HSB := Aside0.mk hb0; clear ha hb0
      generalize partR b a false = u at *
      generalize partR a b false = v at *
      refine ⟨?_⟩
      refine Calls.mono (between_ok P1.out Aa ca Ab cb _ (Kd.C_below Ha.out (by repeat (first | exact Below.refl _ _ | refine below_alloc ?_ _ | refine pw_below_drewN ?_ _ | refine below_drew1 ?_))) HLa.out (Kd.C_below Hb.out (by repeat (first | exact Below.refl _ _ | refine below_alloc ?_ _ | refine pw_below_drewN ?_ _ | refine below_drew1 ?_))) HLb.out) ?_
      rintro e w' ⟨vv, rfl, hv, hb⟩
      replace Ha := Aside0.mk (Kd.C_below (Kd.C_below Ha.out (by repeat (first | exact Below.refl _ _ | refine below_alloc ?_ _ | refine pw_below_drewN ?_ _ | refine below_drew1 ?_))) hb)
      replace Hb := Aside0.mk (Kd.C_below (Kd.C_below Hb.out (by repeat (first | exact Below.refl _ _ | refine below_alloc ?_ _ | refine pw_below_drewN ?_ _ | refine below_drew1 ?_))) hb)
      replace Hc := Aside0.mk (Kd.C_below (Kd.C_below Hc.out (by repeat (first | exact Below.refl _ _ | refine below_alloc ?_ _ | refine pw_below_drewN ?_ _ | refine below_drew1 ?_))) hb)
      replace HW := Aside0.mk (below_step (below_step HW.out (by repeat (first | exact Below.refl _ _ | refine below_alloc ?_ _ | refine pw_below_drewN ?_ _ | refine below_drew1 ?_))) hb)
      obtain ⟨Ala, cla, Alt, clt, ev, hC, hL, hC', hL'⟩ := hv.rows
      subst ev
      have Hla := Aside0.mk hC
      have HLla := Aside0.mk hL
      have Hlt := Aside0.mk hC'
      have HLlt := Aside0.mk hL'
      clear hC hL hC' hL' hv
      clear hb
      obtain ⟨w1, hwk⟩ : ∃ wk, wk = w' := ⟨_, rfl⟩
      subst hwk
      have Bl : Aside0 (Box (w1.alloc (.cells #[.slice Ala (u).length cla, .slice Alt (v).length clt] 69)) w1.heap.size #[.slice Ala (u).length cla, .slice Alt (v).length clt]) := ⟨Box.new _ _ _⟩
      go_wp2_with (first | (go_at_call 30; refine stop_ ?_) | (go_at_call 31; refine stop_ ?_) | (go_at_call 32; refine stop_ ?_) | (go_at_call 33; refine stop_ ?_) | (go_at_call 34; refine stop_ ?_) | (go_at_call 19; refine stop_ ?_) | (go_at_call 20; refine stop_ ?_) | (go_at_call 35; refine stop_ ?_))
      repeat (go_quiet (fail); try (go_wp2_with (first | (go_at_call 30; refine stop_ ?_) | (go_at_call 31; refine stop_ ?_) | (go_at_call 32; refine stop_ ?_) | (go_at_call 33; refine stop_ ?_) | (go_at_call 34; refine stop_ ?_) | (go_at_call 19; refine stop_ ?_) | (go_at_call 20; refine stop_ ?_) | (go_at_call 35; refine stop_ ?_))))
      refine ⟨?_⟩
      refine Calls.mono (apply_ok P2.out Aa ca Ala cla Alt clt _ (Kd.C_below Ha.out (by repeat (first | exact Below.refl _ _ | refine below_alloc ?_ _ | refine pw_below_drewN ?_ _ | refine below_drew1 ?_))) HLa.out (Kd.C_below Hla.out (by repeat (first | exact Below.refl _ _ | refine below_alloc ?_ _ | refine pw_below_drewN ?_ _ | refine below_drew1 ?_))) HLla.out (Kd.C_below Hlt.out (by repeat (first | exact Below.refl _ _ | refine below_alloc ?_ _ | refine pw_below_drewN ?_ _ | refine below_drew1 ?_))) HLlt.out) ?_
      rintro e w' ⟨vv, rfl, hR, hb⟩
      replace Ha := Aside0.mk (Kd.C_below (Kd.C_below Ha.out (by repeat (first | exact Below.refl _ _ | refine below_alloc ?_ _ | refine pw_below_drewN ?_ _ | refine below_drew1 ?_))) hb)
      replace Hb := Aside0.mk (Kd.C_below (Kd.C_below Hb.out (by repeat (first | exact Below.refl _ _ | refine below_alloc ?_ _ | refine pw_below_drewN ?_ _ | refine below_drew1 ?_))) hb)
      replace Hc := Aside0.mk (Kd.C_below (Kd.C_below Hc.out (by repeat (first | exact Below.refl _ _ | refine below_alloc ?_ _ | refine pw_below_drewN ?_ _ | refine below_drew1 ?_))) hb)
      replace Hla := Aside0.mk (Kd.C_below (Kd.C_below Hla.out (by repeat (first | exact Below.refl _ _ | refine below_alloc ?_ _ | refine pw_below_drewN ?_ _ | refine below_drew1 ?_))) hb)
      replace Hlt := Aside0.mk (Kd.C_below (Kd.C_below Hlt.out (by repeat (first | exact Below.refl _ _ | refine below_alloc ?_ _ | refine pw_below_drewN ?_ _ | refine below_drew1 ?_))) hb)
      replace Bl := Aside0.mk (Box.keep (by repeat (first | exact Below.refl _ _ | refine below_alloc ?_ _ | refine pw_below_drewN ?_ _ | refine below_drew1 ?_)) hb Bl.out)
      replace HW := Aside0.mk (below_step (below_step HW.out (by repeat (first | exact Below.refl _ _ | refine below_alloc ?_ _ | refine pw_below_drewN ?_ _ | refine below_drew1 ?_))) hb)
      have hv := Row.of_R hR
      clear hR
      obtain ⟨Ato, cto, ev, hC, hL⟩ := hv
      subst ev
      have Hto := Aside0.mk hC
      have HLto := Aside0.mk hL
      clear hC hL
      clear hb
      have l0 := Bl.out 0 (.slice Ala (u).length cla) rfl
      have l1 := Bl.out 1 (.slice Alt (v).length clt) rfl
      go_wp2_with (first | (go_at_call 30; refine stop_ ?_) | (go_at_call 31; refine stop_ ?_) | (go_at_call 32; refine stop_ ?_) | (go_at_call 33; refine stop_ ?_) | (go_at_call 34; refine stop_ ?_) | (go_at_call 19; refine stop_ ?_) | (go_at_call 20; refine stop_ ?_) | (go_at_call 35; refine stop_ ?_))
      repeat (go_quiet (fail); try (go_wp2_with (first | (go_at_call 30; refine stop_ ?_) | (go_at_call 31; refine stop_ ?_) | (go_at_call 32; refine stop_ ?_) | (go_at_call 33; refine stop_ ?_) | (go_at_call 34; refine stop_ ?_) | (go_at_call 19; refine stop_ ?_) | (go_at_call 20; refine stop_ ?_) | (go_at_call 35; refine stop_ ?_))))
      refine ⟨?_⟩
      clear l0 l1
      refine Calls.mono (turn_ok P3.out Ala cla Alt clt _ (Kd.C_below Hla.out (by repeat (first | exact Below.refl _ _ | refine below_alloc ?_ _ | refine pw_below_drewN ?_ _ | refine below_drew1 ?_))) HLla.out (Kd.C_below Hlt.out (by repeat (first | exact Below.refl _ _ | refine below_alloc ?_ _ | refine pw_below_drewN ?_ _ | refine below_drew1 ?_))) HLlt.out) ?_
      rintro e w' ⟨vv, rfl, hv, hb⟩
      replace Ha := Aside0.mk (Kd.C_below (Kd.C_below Ha.out (by repeat (first | exact Below.refl _ _ | refine below_alloc ?_ _ | refine pw_below_drewN ?_ _ | refine below_drew1 ?_))) hb)
      replace Hb := Aside0.mk (Kd.C_below (Kd.C_below Hb.out (by repeat (first | exact Below.refl _ _ | refine below_alloc ?_ _ | refine pw_below_drewN ?_ _ | refine below_drew1 ?_))) hb)
      replace Hc := Aside0.mk (Kd.C_below (Kd.C_below Hc.out (by repeat (first | exact Below.refl _ _ | refine below_alloc ?_ _ | refine pw_below_drewN ?_ _ | refine below_drew1 ?_))) hb)
      replace Hla := Aside0.mk (Kd.C_below (Kd.C_below Hla.out (by repeat (first | exact Below.refl _ _ | refine below_alloc ?_ _ | refine pw_below_drewN ?_ _ | refine below_drew1 ?_))) hb)
      replace Hlt := Aside0.mk (Kd.C_below (Kd.C_below Hlt.out (by repeat (first | exact Below.refl _ _ | refine below_alloc ?_ _ | refine pw_below_drewN ?_ _ | refine below_drew1 ?_))) hb)
      replace Hto := Aside0.mk (Kd.C_below (Kd.C_below Hto.out (by repeat (first | exact Below.refl _ _ | refine below_alloc ?_ _ | refine pw_below_drewN ?_ _ | refine below_drew1 ?_))) hb)
      replace Bl := Aside0.mk (Box.keep (by repeat (first | exact Below.refl _ _ | refine below_alloc ?_ _ | refine pw_below_drewN ?_ _ | refine below_drew1 ?_)) hb Bl.out)
      replace HW := Aside0.mk (below_step (below_step HW.out (by repeat (first | exact Below.refl _ _ | refine below_alloc ?_ _ | refine pw_below_drewN ?_ _ | refine below_drew1 ?_))) hb)
      obtain ⟨Aka, cka, Akt, ckt, ev, hC, hL, hC', hL'⟩ := hv.rows
      subst ev
      have Hka := Aside0.mk hC
      have HLka := Aside0.mk hL
      have Hkt := Aside0.mk hC'
      have HLkt := Aside0.mk hL'
      clear hC hL hC' hL' hv
      clear hb
      obtain ⟨w2, hwk⟩ : ∃ wk, wk = w' := ⟨_, rfl⟩
      subst hwk
      have Bk : Aside0 (Box (w2.alloc (.cells #[.slice Aka (v).length cka, .slice Akt (u).length ckt] 69)) w2.heap.size #[.slice Aka (v).length cka, .slice Akt (u).length ckt]) := ⟨Box.new _ _ _⟩
      go_wp2_with (first | (go_at_call 30; refine stop_ ?_) | (go_at_call 31; refine stop_ ?_) | (go_at_call 32; refine stop_ ?_) | (go_at_call 33; refine stop_ ?_) | (go_at_call 34; refine stop_ ?_) | (go_at_call 19; refine stop_ ?_) | (go_at_call 20; refine stop_ ?_) | (go_at_call 35; refine stop_ ?_))
      repeat (go_quiet (fail); try (go_wp2_with (first | (go_at_call 30; refine stop_ ?_) | (go_at_call 31; refine stop_ ?_) | (go_at_call 32; refine stop_ ?_) | (go_at_call 33; refine stop_ ?_) | (go_at_call 34; refine stop_ ?_) | (go_at_call 19; refine stop_ ?_) | (go_at_call 20; refine stop_ ?_) | (go_at_call 35; refine stop_ ?_))))
      refine ⟨?_⟩
      refine Calls.mono (apply_ok P4.out Ab cb Aka cka Akt ckt _ (Kd.C_below Hb.out (by repeat (first | exact Below.refl _ _ | refine below_alloc ?_ _ | refine pw_below_drewN ?_ _ | refine below_drew1 ?_))) HLb.out (Kd.C_below Hka.out (by repeat (first | exact Below.refl _ _ | refine below_alloc ?_ _ | refine pw_below_drewN ?_ _ | refine below_drew1 ?_))) HLka.out (Kd.C_below Hkt.out (by repeat (first | exact Below.refl _ _ | refine below_alloc ?_ _ | refine pw_below_drewN ?_ _ | refine below_drew1 ?_))) HLkt.out) ?_
      rintro e w' ⟨vv, rfl, hR, hb⟩
      replace Ha := Aside0.mk (Kd.C_below (Kd.C_below Ha.out (by repeat (first | exact Below.refl _ _ | refine below_alloc ?_ _ | refine pw_below_drewN ?_ _ | refine below_drew1 ?_))) hb)
      replace Hb := Aside0.mk (Kd.C_below (Kd.C_below Hb.out (by repeat (first | exact Below.refl _ _ | refine below_alloc ?_ _ | refine pw_below_drewN ?_ _ | refine below_drew1 ?_))) hb)
      replace Hc := Aside0.mk (Kd.C_below (Kd.C_below Hc.out (by repeat (first | exact Below.refl _ _ | refine below_alloc ?_ _ | refine pw_below_drewN ?_ _ | refine below_drew1 ?_))) hb)
      replace Hla := Aside0.mk (Kd.C_below (Kd.C_below Hla.out (by repeat (first | exact Below.refl _ _ | refine below_alloc ?_ _ | refine pw_below_drewN ?_ _ | refine below_drew1 ?_))) hb)
      replace Hlt := Aside0.mk (Kd.C_below (Kd.C_below Hlt.out (by repeat (first | exact Below.refl _ _ | refine below_alloc ?_ _ | refine pw_below_drewN ?_ _ | refine below_drew1 ?_))) hb)
      replace Hto := Aside0.mk (Kd.C_below (Kd.C_below Hto.out (by repeat (first | exact Below.refl _ _ | refine below_alloc ?_ _ | refine pw_below_drewN ?_ _ | refine below_drew1 ?_))) hb)
      replace Hka := Aside0.mk (Kd.C_below (Kd.C_below Hka.out (by repeat (first | exact Below.refl _ _ | refine below_alloc ?_ _ | refine pw_below_drewN ?_ _ | refine below_drew1 ?_))) hb)
      replace Hkt := Aside0.mk (Kd.C_below (Kd.C_below Hkt.out (by repeat (first | exact Below.refl _ _ | refine below_alloc ?_ _ | refine pw_below_drewN ?_ _ | refine below_drew1 ?_))) hb)
      replace Bl := Aside0.mk (Box.keep (by repeat (first | exact Below.refl _ _ | refine below_alloc ?_ _ | refine pw_below_drewN ?_ _ | refine below_drew1 ?_)) hb Bl.out)
      replace Bk := Aside0.mk (Box.keep (by repeat (first | exact Below.refl _ _ | refine below_alloc ?_ _ | refine pw_below_drewN ?_ _ | refine below_drew1 ?_)) hb Bk.out)
      replace HW := Aside0.mk (below_step (below_step HW.out (by repeat (first | exact Below.refl _ _ | refine below_alloc ?_ _ | refine pw_below_drewN ?_ _ | refine below_drew1 ?_))) hb)
      have hv := Row.of_R hR
      clear hR
      obtain ⟨Afr, cfr, ev, hC, hL⟩ := hv
      subst ev
      have Hfr := Aside0.mk hC
      have HLfr := Aside0.mk hL
      clear hC hL
      clear hb
      go_wp2_with (first | (go_at_call 30; refine stop_ ?_) | (go_at_call 31; refine stop_ ?_) | (go_at_call 32; refine stop_ ?_) | (go_at_call 33; refine stop_ ?_) | (go_at_call 34; refine stop_ ?_) | (go_at_call 19; refine stop_ ?_) | (go_at_call 20; refine stop_ ?_) | (go_at_call 35; refine stop_ ?_))
      repeat (go_quiet (fail); try (go_wp2_with (first | (go_at_call 30; refine stop_ ?_) | (go_at_call 31; refine stop_ ?_) | (go_at_call 32; refine stop_ ?_) | (go_at_call 33; refine stop_ ?_) | (go_at_call 34; refine stop_ ?_) | (go_at_call 19; refine stop_ ?_) | (go_at_call 20; refine stop_ ?_) | (go_at_call 35; refine stop_ ?_))))
      refine ⟨?_⟩
      refine Calls.mono (same_true rfl Ato Ab cto cb _ (Kd.C_below Hto.out (by repeat (first | exact Below.refl _ _ | refine below_alloc ?_ _ | refine pw_below_drewN ?_ _ | refine below_drew1 ?_))) (Kd.C_below Hb.out (by repeat (first | exact Below.refl _ _ | refine below_alloc ?_ _ | refine pw_below_drewN ?_ _ | refine below_drew1 ?_)))) ?_
      rintro e w' ⟨rfl, hb⟩
      replace Ha := Aside0.mk (Kd.C_below (Kd.C_below Ha.out (by repeat (first | exact Below.refl _ _ | refine below_alloc ?_ _ | refine pw_below_drewN ?_ _ | refine below_drew1 ?_))) hb)
      replace Hb := Aside0.mk (Kd.C_below (Kd.C_below Hb.out (by repeat (first | exact Below.refl _ _ | refine below_alloc ?_ _ | refine pw_below_drewN ?_ _ | refine below_drew1 ?_))) hb)
      replace Hc := Aside0.mk (Kd.C_below (Kd.C_below Hc.out (by repeat (first | exact Below.refl _ _ | refine below_alloc ?_ _ | refine pw_below_drewN ?_ _ | refine below_drew1 ?_))) hb)
      replace Hla := Aside0.mk (Kd.C_below (Kd.C_below Hla.out (by repeat (first | exact Below.refl _ _ | refine below_alloc ?_ _ | refine pw_below_drewN ?_ _ | refine below_drew1 ?_))) hb)
      replace Hlt := Aside0.mk (Kd.C_below (Kd.C_below Hlt.out (by repeat (first | exact Below.refl _ _ | refine below_alloc ?_ _ | refine pw_below_drewN ?_ _ | refine below_drew1 ?_))) hb)
      replace Hto := Aside0.mk (Kd.C_below (Kd.C_below Hto.out (by repeat (first | exact Below.refl _ _ | refine below_alloc ?_ _ | refine pw_below_drewN ?_ _ | refine below_drew1 ?_))) hb)
      replace Hka := Aside0.mk (Kd.C_below (Kd.C_below Hka.out (by repeat (first | exact Below.refl _ _ | refine below_alloc ?_ _ | refine pw_below_drewN ?_ _ | refine below_drew1 ?_))) hb)
      replace Hkt := Aside0.mk (Kd.C_below (Kd.C_below Hkt.out (by repeat (first | exact Below.refl _ _ | refine below_alloc ?_ _ | refine pw_below_drewN ?_ _ | refine below_drew1 ?_))) hb)
      replace Hfr := Aside0.mk (Kd.C_below (Kd.C_below Hfr.out (by repeat (first | exact Below.refl _ _ | refine below_alloc ?_ _ | refine pw_below_drewN ?_ _ | refine below_drew1 ?_))) hb)
      replace Bl := Aside0.mk (Box.keep (by repeat (first | exact Below.refl _ _ | refine below_alloc ?_ _ | refine pw_below_drewN ?_ _ | refine below_drew1 ?_)) hb Bl.out)
      replace Bk := Aside0.mk (Box.keep (by repeat (first | exact Below.refl _ _ | refine below_alloc ?_ _ | refine pw_below_drewN ?_ _ | refine below_drew1 ?_)) hb Bk.out)
      replace HW := Aside0.mk (below_step (below_step HW.out (by repeat (first | exact Below.refl _ _ | refine below_alloc ?_ _ | refine pw_below_drewN ?_ _ | refine below_drew1 ?_))) hb)
      clear hb
      go_wp2_with (first | (go_at_call 30; refine stop_ ?_) | (go_at_call 31; refine stop_ ?_) | (go_at_call 32; refine stop_ ?_) | (go_at_call 33; refine stop_ ?_) | (go_at_call 34; refine stop_ ?_) | (go_at_call 19; refine stop_ ?_) | (go_at_call 20; refine stop_ ?_) | (go_at_call 35; refine stop_ ?_))
      repeat (go_quiet (fail); try (go_wp2_with (first | (go_at_call 30; refine stop_ ?_) | (go_at_call 31; refine stop_ ?_) | (go_at_call 32; refine stop_ ?_) | (go_at_call 33; refine stop_ ?_) | (go_at_call 34; refine stop_ ?_) | (go_at_call 19; refine stop_ ?_) | (go_at_call 20; refine stop_ ?_) | (go_at_call 35; refine stop_ ?_))))
      refine ⟨?_⟩
      refine Calls.mono (same_true rfl Afr Aa cfr ca _ (Kd.C_below Hfr.out (by repeat (first | exact Below.refl _ _ | refine below_alloc ?_ _ | refine pw_below_drewN ?_ _ | refine below_drew1 ?_))) (Kd.C_below Ha.out (by repeat (first | exact Below.refl _ _ | refine below_alloc ?_ _ | refine pw_below_drewN ?_ _ | refine below_drew1 ?_)))) ?_
      rintro e w' ⟨rfl, hb⟩
      replace Ha := Aside0.mk (Kd.C_below (Kd.C_below Ha.out (by repeat (first | exact Below.refl _ _ | refine below_alloc ?_ _ | refine pw_below_drewN ?_ _ | refine below_drew1 ?_))) hb)
      replace Hb := Aside0.mk (Kd.C_below (Kd.C_below Hb.out (by repeat (first | exact Below.refl _ _ | refine below_alloc ?_ _ | refine pw_below_drewN ?_ _ | refine below_drew1 ?_))) hb)
      replace Hc := Aside0.mk (Kd.C_below (Kd.C_below Hc.out (by repeat (first | exact Below.refl _ _ | refine below_alloc ?_ _ | refine pw_below_drewN ?_ _ | refine below_drew1 ?_))) hb)
      replace Hla := Aside0.mk (Kd.C_below (Kd.C_below Hla.out (by repeat (first | exact Below.refl _ _ | refine below_alloc ?_ _ | refine pw_below_drewN ?_ _ | refine below_drew1 ?_))) hb)
      replace Hlt := Aside0.mk (Kd.C_below (Kd.C_below Hlt.out (by repeat (first | exact Below.refl _ _ | refine below_alloc ?_ _ | refine pw_below_drewN ?_ _ | refine below_drew1 ?_))) hb)
      replace Hto := Aside0.mk (Kd.C_below (Kd.C_below Hto.out (by repeat (first | exact Below.refl _ _ | refine below_alloc ?_ _ | refine pw_below_drewN ?_ _ | refine below_drew1 ?_))) hb)
      replace Hka := Aside0.mk (Kd.C_below (Kd.C_below Hka.out (by repeat (first | exact Below.refl _ _ | refine below_alloc ?_ _ | refine pw_below_drewN ?_ _ | refine below_drew1 ?_))) hb)
      replace Hkt := Aside0.mk (Kd.C_below (Kd.C_below Hkt.out (by repeat (first | exact Below.refl _ _ | refine below_alloc ?_ _ | refine pw_below_drewN ?_ _ | refine below_drew1 ?_))) hb)
      replace Hfr := Aside0.mk (Kd.C_below (Kd.C_below Hfr.out (by repeat (first | exact Below.refl _ _ | refine below_alloc ?_ _ | refine pw_below_drewN ?_ _ | refine below_drew1 ?_))) hb)
      replace Bl := Aside0.mk (Box.keep (by repeat (first | exact Below.refl _ _ | refine below_alloc ?_ _ | refine pw_below_drewN ?_ _ | refine below_drew1 ?_)) hb Bl.out)
      replace Bk := Aside0.mk (Box.keep (by repeat (first | exact Below.refl _ _ | refine below_alloc ?_ _ | refine pw_below_drewN ?_ _ | refine below_drew1 ?_)) hb Bk.out)
      replace HW := Aside0.mk (below_step (below_step HW.out (by repeat (first | exact Below.refl _ _ | refine below_alloc ?_ _ | refine pw_below_drewN ?_ _ | refine below_drew1 ?_))) hb)
      clear hb
      have l0 := Bl.out 0 (.slice Ala (u).length cla) rfl
      have l1 := Bl.out 1 (.slice Alt (v).length clt) rfl
      go_wp2_with (first | (go_at_call 30; refine stop_ ?_) | (go_at_call 31; refine stop_ ?_) | (go_at_call 32; refine stop_ ?_) | (go_at_call 33; refine stop_ ?_) | (go_at_call 34; refine stop_ ?_) | (go_at_call 19; refine stop_ ?_) | (go_at_call 20; refine stop_ ?_) | (go_at_call 35; refine stop_ ?_))
      repeat (go_quiet (fail); try (go_wp2_with (first | (go_at_call 30; refine stop_ ?_) | (go_at_call 31; refine stop_ ?_) | (go_at_call 32; refine stop_ ?_) | (go_at_call 33; refine stop_ ?_) | (go_at_call 34; refine stop_ ?_) | (go_at_call 19; refine stop_ ?_) | (go_at_call 20; refine stop_ ?_) | (go_at_call 35; refine stop_ ?_))))
      refine ⟨?_⟩
      clear l0 l1
      refine Calls.mono (lcheck_ok P3.out Ala cla Alt clt _ (Kd.C_below Hla.out (by repeat (first | exact Below.refl _ _ | refine below_alloc ?_ _ | refine pw_below_drewN ?_ _ | refine below_drew1 ?_))) HLla.out (Kd.C_below Hlt.out (by repeat (first | exact Below.refl _ _ | refine below_alloc ?_ _ | refine pw_below_drewN ?_ _ | refine below_drew1 ?_))) HLlt.out) ?_
      rintro e w' ⟨rfl, hb⟩
      replace Ha := Aside0.mk (Kd.C_below (Kd.C_below Ha.out (by repeat (first | exact Below.refl _ _ | refine below_alloc ?_ _ | refine pw_below_drewN ?_ _ | refine below_drew1 ?_))) hb)
      replace Hb := Aside0.mk (Kd.C_below (Kd.C_below Hb.out (by repeat (first | exact Below.refl _ _ | refine below_alloc ?_ _ | refine pw_below_drewN ?_ _ | refine below_drew1 ?_))) hb)
      replace Hc := Aside0.mk (Kd.C_below (Kd.C_below Hc.out (by repeat (first | exact Below.refl _ _ | refine below_alloc ?_ _ | refine pw_below_drewN ?_ _ | refine below_drew1 ?_))) hb)
      replace Hla := Aside0.mk (Kd.C_below (Kd.C_below Hla.out (by repeat (first | exact Below.refl _ _ | refine below_alloc ?_ _ | refine pw_below_drewN ?_ _ | refine below_drew1 ?_))) hb)
      replace Hlt := Aside0.mk (Kd.C_below (Kd.C_below Hlt.out (by repeat (first | exact Below.refl _ _ | refine below_alloc ?_ _ | refine pw_below_drewN ?_ _ | refine below_drew1 ?_))) hb)
      replace Hto := Aside0.mk (Kd.C_below (Kd.C_below Hto.out (by repeat (first | exact Below.refl _ _ | refine below_alloc ?_ _ | refine pw_below_drewN ?_ _ | refine below_drew1 ?_))) hb)
      replace Hka := Aside0.mk (Kd.C_below (Kd.C_below Hka.out (by repeat (first | exact Below.refl _ _ | refine below_alloc ?_ _ | refine pw_below_drewN ?_ _ | refine below_drew1 ?_))) hb)
      replace Hkt := Aside0.mk (Kd.C_below (Kd.C_below Hkt.out (by repeat (first | exact Below.refl _ _ | refine below_alloc ?_ _ | refine pw_below_drewN ?_ _ | refine below_drew1 ?_))) hb)
      replace Hfr := Aside0.mk (Kd.C_below (Kd.C_below Hfr.out (by repeat (first | exact Below.refl _ _ | refine below_alloc ?_ _ | refine pw_below_drewN ?_ _ | refine below_drew1 ?_))) hb)
      replace Bl := Aside0.mk (Box.keep (by repeat (first | exact Below.refl _ _ | refine below_alloc ?_ _ | refine pw_below_drewN ?_ _ | refine below_drew1 ?_)) hb Bl.out)
      replace Bk := Aside0.mk (Box.keep (by repeat (first | exact Below.refl _ _ | refine below_alloc ?_ _ | refine pw_below_drewN ?_ _ | refine below_drew1 ?_)) hb Bk.out)
      replace HW := Aside0.mk (below_step (below_step HW.out (by repeat (first | exact Below.refl _ _ | refine below_alloc ?_ _ | refine pw_below_drewN ?_ _ | refine below_drew1 ?_))) hb)
      clear hb
      go_wp2_with (first | (go_at_call 30; refine stop_ ?_) | (go_at_call 31; refine stop_ ?_) | (go_at_call 32; refine stop_ ?_) | (go_at_call 33; refine stop_ ?_) | (go_at_call 34; refine stop_ ?_) | (go_at_call 19; refine stop_ ?_) | (go_at_call 20; refine stop_ ?_) | (go_at_call 35; refine stop_ ?_))
      repeat (go_quiet (fail); try (go_wp2_with (first | (go_at_call 30; refine stop_ ?_) | (go_at_call 31; refine stop_ ?_) | (go_at_call 32; refine stop_ ?_) | (go_at_call 33; refine stop_ ?_) | (go_at_call 34; refine stop_ ?_) | (go_at_call 19; refine stop_ ?_) | (go_at_call 20; refine stop_ ?_) | (go_at_call 35; refine stop_ ?_))))
      clear Hto HLto Hfr HLfr Hka HLka Hkt HLkt Bk
      cases hc0 : sortedR c with
      | some n =>
        have HE : Aside0 (betwR b c = (([], []), some n)) := ⟨by unfold betwR right2; rw [HSB.out, hc0]⟩
        clear hc0
        refine ⟨?_⟩
        refine Calls.mono (between_err HE.out Ab cb Ac cc _ (Kd.C_below Hb.out (by repeat (first | exact Below.refl _ _ | refine below_alloc ?_ _ | refine pw_below_drewN ?_ _ | refine below_drew1 ?_))) HLb.out (Kd.C_below Hc.out (by repeat (first | exact Below.refl _ _ | refine below_alloc ?_ _ | refine pw_below_drewN ?_ _ | refine below_drew1 ?_))) HLc.out) ?_
        rintro e w' ⟨v, rfl, hv, hb⟩
        replace Ha := Aside0.mk (Kd.C_below (Kd.C_below Ha.out (by repeat (first | exact Below.refl _ _ | refine below_alloc ?_ _ | refine pw_below_drewN ?_ _ | refine below_drew1 ?_))) hb)
        replace Hb := Aside0.mk (Kd.C_below (Kd.C_below Hb.out (by repeat (first | exact Below.refl _ _ | refine below_alloc ?_ _ | refine pw_below_drewN ?_ _ | refine below_drew1 ?_))) hb)
        replace Hc := Aside0.mk (Kd.C_below (Kd.C_below Hc.out (by repeat (first | exact Below.refl _ _ | refine below_alloc ?_ _ | refine pw_below_drewN ?_ _ | refine below_drew1 ?_))) hb)
        replace Hla := Aside0.mk (Kd.C_below (Kd.C_below Hla.out (by repeat (first | exact Below.refl _ _ | refine below_alloc ?_ _ | refine pw_below_drewN ?_ _ | refine below_drew1 ?_))) hb)
        replace Hlt := Aside0.mk (Kd.C_below (Kd.C_below Hlt.out (by repeat (first | exact Below.refl _ _ | refine below_alloc ?_ _ | refine pw_below_drewN ?_ _ | refine below_drew1 ?_))) hb)
        replace Bl := Aside0.mk (Box.keep (by repeat (first | exact Below.refl _ _ | refine below_alloc ?_ _ | refine pw_below_drewN ?_ _ | refine below_drew1 ?_)) hb Bl.out)
        replace HW := Aside0.mk (below_step (below_step HW.out (by repeat (first | exact Below.refl _ _ | refine below_alloc ?_ _ | refine pw_below_drewN ?_ _ | refine below_drew1 ?_))) hb)
        obtain ⟨v1, v2, ev, hv1, hv2⟩ := hv
        subst ev
        obtain ⟨Ae, ce, ee⟩ := Kd.R_slice hv1
        obtain ⟨Ag, cg, eg⟩ := Kd.R_slice hv2
        subst ee
        subst eg
        clear hv1 hv2
        clear hb
        go_wp2_with (first | (go_at_call 30; refine stop_ ?_) | (go_at_call 31; refine stop_ ?_) | (go_at_call 32; refine stop_ ?_) | (go_at_call 33; refine stop_ ?_) | (go_at_call 34; refine stop_ ?_) | (go_at_call 19; refine stop_ ?_) | (go_at_call 20; refine stop_ ?_) | (go_at_call 35; refine stop_ ?_))
        repeat (go_quiet (fail); try (go_wp2_with (first | (go_at_call 30; refine stop_ ?_) | (go_at_call 31; refine stop_ ?_) | (go_at_call 32; refine stop_ ?_) | (go_at_call 33; refine stop_ ?_) | (go_at_call 34; refine stop_ ?_) | (go_at_call 19; refine stop_ ?_) | (go_at_call 20; refine stop_ ?_) | (go_at_call 35; refine stop_ ?_))))
        go_ret
        exact ⟨by first | rfl | (simp; done) | (simp [*]; done) | (simp; omega), below_step HW.out (by repeat (first | exact Below.refl _ _ | refine below_alloc ?_ _ | refine pw_below_drewN ?_ _ | refine below_drew1 ?_))⟩
      | none =>
        have P6 := Aside0.mk (betw_ok HSB.out hc0); have P7 := Aside0.mk (betw_ok HSA.out hc0); have P8 := Aside0.mk (P5.out hc0)
        clear hc0 P5 HSA HSB P1 P2 P3 P4
        generalize partR c b false = p at *
        generalize partR b c false = q at *
        generalize partR c a false = r at *
        generalize partR a c false = s at *
        refine ⟨?_⟩
        refine Calls.mono (between_ok P6.out Ab cb Ac cc _ (Kd.C_below Hb.out (by repeat (first | exact Below.refl _ _ | refine below_alloc ?_ _ | refine pw_below_drewN ?_ _ | refine below_drew1 ?_))) HLb.out (Kd.C_below Hc.out (by repeat (first | exact Below.refl _ _ | refine below_alloc ?_ _ | refine pw_below_drewN ?_ _ | refine below_drew1 ?_))) HLc.out) ?_
        rintro e w' ⟨vv, rfl, hv, hb⟩
        replace Ha := Aside0.mk (Kd.C_below (Kd.C_below Ha.out (by repeat (first | exact Below.refl _ _ | refine below_alloc ?_ _ | refine pw_below_drewN ?_ _ | refine below_drew1 ?_))) hb)
        replace Hb := Aside0.mk (Kd.C_below (Kd.C_below Hb.out (by repeat (first | exact Below.refl _ _ | refine below_alloc ?_ _ | refine pw_below_drewN ?_ _ | refine below_drew1 ?_))) hb)
        replace Hc := Aside0.mk (Kd.C_below (Kd.C_below Hc.out (by repeat (first | exact Below.refl _ _ | refine below_alloc ?_ _ | refine pw_below_drewN ?_ _ | refine below_drew1 ?_))) hb)
        replace Hla := Aside0.mk (Kd.C_below (Kd.C_below Hla.out (by repeat (first | exact Below.refl _ _ | refine below_alloc ?_ _ | refine pw_below_drewN ?_ _ | refine below_drew1 ?_))) hb)
        replace Hlt := Aside0.mk (Kd.C_below (Kd.C_below Hlt.out (by repeat (first | exact Below.refl _ _ | refine below_alloc ?_ _ | refine pw_below_drewN ?_ _ | refine below_drew1 ?_))) hb)
        replace Bl := Aside0.mk (Box.keep (by repeat (first | exact Below.refl _ _ | refine below_alloc ?_ _ | refine pw_below_drewN ?_ _ | refine below_drew1 ?_)) hb Bl.out)
        replace HW := Aside0.mk (below_step (below_step HW.out (by repeat (first | exact Below.refl _ _ | refine below_alloc ?_ _ | refine pw_below_drewN ?_ _ | refine below_drew1 ?_))) hb)
        obtain ⟨Ama, cma, Amt, cmt, ev, hC, hL, hC', hL'⟩ := hv.rows
        subst ev
        have Hma := Aside0.mk hC
        have HLma := Aside0.mk hL
        have Hmt := Aside0.mk hC'
        have HLmt := Aside0.mk hL'
        clear hC hL hC' hL' hv
        clear hb
        obtain ⟨w3, hwk⟩ : ∃ wk, wk = w' := ⟨_, rfl⟩
        subst hwk
        have Bm : Aside0 (Box (w3.alloc (.cells #[.slice Ama (p).length cma, .slice Amt (q).length cmt] 69)) w3.heap.size #[.slice Ama (p).length cma, .slice Amt (q).length cmt]) := ⟨Box.new _ _ _⟩
        go_wp2_with (first | (go_at_call 30; refine stop_ ?_) | (go_at_call 31; refine stop_ ?_) | (go_at_call 32; refine stop_ ?_) | (go_at_call 33; refine stop_ ?_) | (go_at_call 34; refine stop_ ?_) | (go_at_call 19; refine stop_ ?_) | (go_at_call 20; refine stop_ ?_) | (go_at_call 35; refine stop_ ?_))
        repeat (go_quiet (fail); try (go_wp2_with (first | (go_at_call 30; refine stop_ ?_) | (go_at_call 31; refine stop_ ?_) | (go_at_call 32; refine stop_ ?_) | (go_at_call 33; refine stop_ ?_) | (go_at_call 34; refine stop_ ?_) | (go_at_call 19; refine stop_ ?_) | (go_at_call 20; refine stop_ ?_) | (go_at_call 35; refine stop_ ?_))))
        refine ⟨?_⟩
        refine Calls.mono (between_ok P7.out Aa ca Ac cc _ (Kd.C_below Ha.out (by repeat (first | exact Below.refl _ _ | refine below_alloc ?_ _ | refine pw_below_drewN ?_ _ | refine below_drew1 ?_))) HLa.out (Kd.C_below Hc.out (by repeat (first | exact Below.refl _ _ | refine below_alloc ?_ _ | refine pw_below_drewN ?_ _ | refine below_drew1 ?_))) HLc.out) ?_
        rintro e w' ⟨vv, rfl, hv, hb⟩
        replace Ha := Aside0.mk (Kd.C_below (Kd.C_below Ha.out (by repeat (first | exact Below.refl _ _ | refine below_alloc ?_ _ | refine pw_below_drewN ?_ _ | refine below_drew1 ?_))) hb)
        replace Hb := Aside0.mk (Kd.C_below (Kd.C_below Hb.out (by repeat (first | exact Below.refl _ _ | refine below_alloc ?_ _ | refine pw_below_drewN ?_ _ | refine below_drew1 ?_))) hb)
        replace Hc := Aside0.mk (Kd.C_below (Kd.C_below Hc.out (by repeat (first | exact Below.refl _ _ | refine below_alloc ?_ _ | refine pw_below_drewN ?_ _ | refine below_drew1 ?_))) hb)
        replace Hla := Aside0.mk (Kd.C_below (Kd.C_below Hla.out (by repeat (first | exact Below.refl _ _ | refine below_alloc ?_ _ | refine pw_below_drewN ?_ _ | refine below_drew1 ?_))) hb)
        replace Hlt := Aside0.mk (Kd.C_below (Kd.C_below Hlt.out (by repeat (first | exact Below.refl _ _ | refine below_alloc ?_ _ | refine pw_below_drewN ?_ _ | refine below_drew1 ?_))) hb)
        replace Hma := Aside0.mk (Kd.C_below (Kd.C_below Hma.out (by repeat (first | exact Below.refl _ _ | refine below_alloc ?_ _ | refine pw_below_drewN ?_ _ | refine below_drew1 ?_))) hb)
        replace Hmt := Aside0.mk (Kd.C_below (Kd.C_below Hmt.out (by repeat (first | exact Below.refl _ _ | refine below_alloc ?_ _ | refine pw_below_drewN ?_ _ | refine below_drew1 ?_))) hb)
        replace Bl := Aside0.mk (Box.keep (by repeat (first | exact Below.refl _ _ | refine below_alloc ?_ _ | refine pw_below_drewN ?_ _ | refine below_drew1 ?_)) hb Bl.out)
        replace Bm := Aside0.mk (Box.keep (by repeat (first | exact Below.refl _ _ | refine below_alloc ?_ _ | refine pw_below_drewN ?_ _ | refine below_drew1 ?_)) hb Bm.out)
        replace HW := Aside0.mk (below_step (below_step HW.out (by repeat (first | exact Below.refl _ _ | refine below_alloc ?_ _ | refine pw_below_drewN ?_ _ | refine below_drew1 ?_))) hb)
        obtain ⟨Ana, cna, Ant, cnt, ev, hC, hL, hC', hL'⟩ := hv.rows
        subst ev
        have Hna := Aside0.mk hC
        have HLna := Aside0.mk hL
        have Hnt := Aside0.mk hC'
        have HLnt := Aside0.mk hL'
        clear hC hL hC' hL' hv
        clear hb
        obtain ⟨w4, hwk⟩ : ∃ wk, wk = w' := ⟨_, rfl⟩
        subst hwk
        have Bn : Aside0 (Box (w4.alloc (.cells #[.slice Ana (r).length cna, .slice Ant (s).length cnt] 69)) w4.heap.size #[.slice Ana (r).length cna, .slice Ant (s).length cnt]) := ⟨Box.new _ _ _⟩
        have l0 := fun (o : Obj) => cell?_alloc_old' (Bl.out 0 (.slice Ala (u).length cla) rfl) o
        have l1 := fun (o : Obj) => cell?_alloc_old' (Bl.out 1 (.slice Alt (v).length clt) rfl) o
        have m0 := fun (o : Obj) => cell?_alloc_old' (Bm.out 0 (.slice Ama (p).length cma) rfl) o
        have m1 := fun (o : Obj) => cell?_alloc_old' (Bm.out 1 (.slice Amt (q).length cmt) rfl) o
        go_wp2_with (first | (go_at_call 30; refine stop_ ?_) | (go_at_call 31; refine stop_ ?_) | (go_at_call 32; refine stop_ ?_) | (go_at_call 33; refine stop_ ?_) | (go_at_call 34; refine stop_ ?_) | (go_at_call 19; refine stop_ ?_) | (go_at_call 20; refine stop_ ?_) | (go_at_call 35; refine stop_ ?_))
        repeat (go_quiet (fail); try (go_wp2_with (first | (go_at_call 30; refine stop_ ?_) | (go_at_call 31; refine stop_ ?_) | (go_at_call 32; refine stop_ ?_) | (go_at_call 33; refine stop_ ?_) | (go_at_call 34; refine stop_ ?_) | (go_at_call 19; refine stop_ ?_) | (go_at_call 20; refine stop_ ?_) | (go_at_call 35; refine stop_ ?_))))
        refine ⟨?_⟩
        clear l0 l1 m0 m1
        refine Calls.mono (then_ok P8.out Ala cla Alt clt Ama cma Amt cmt _ (Kd.C_below Hla.out (by repeat (first | exact Below.refl _ _ | refine below_alloc ?_ _ | refine pw_below_drewN ?_ _ | refine below_drew1 ?_))) HLla.out (Kd.C_below Hlt.out (by repeat (first | exact Below.refl _ _ | refine below_alloc ?_ _ | refine pw_below_drewN ?_ _ | refine below_drew1 ?_))) HLlt.out (Kd.C_below Hma.out (by repeat (first | exact Below.refl _ _ | refine below_alloc ?_ _ | refine pw_below_drewN ?_ _ | refine below_drew1 ?_))) HLma.out (Kd.C_below Hmt.out (by repeat (first | exact Below.refl _ _ | refine below_alloc ?_ _ | refine pw_below_drewN ?_ _ | refine below_drew1 ?_))) HLmt.out) ?_
        rintro e w' ⟨vv, rfl, hv, hb⟩
        replace Ha := Aside0.mk (Kd.C_below (Kd.C_below Ha.out (by repeat (first | exact Below.refl _ _ | refine below_alloc ?_ _ | refine pw_below_drewN ?_ _ | refine below_drew1 ?_))) hb)
        replace Hb := Aside0.mk (Kd.C_below (Kd.C_below Hb.out (by repeat (first | exact Below.refl _ _ | refine below_alloc ?_ _ | refine pw_below_drewN ?_ _ | refine below_drew1 ?_))) hb)
        replace Hc := Aside0.mk (Kd.C_below (Kd.C_below Hc.out (by repeat (first | exact Below.refl _ _ | refine below_alloc ?_ _ | refine pw_below_drewN ?_ _ | refine below_drew1 ?_))) hb)
        replace Hla := Aside0.mk (Kd.C_below (Kd.C_below Hla.out (by repeat (first | exact Below.refl _ _ | refine below_alloc ?_ _ | refine pw_below_drewN ?_ _ | refine below_drew1 ?_))) hb)
        replace Hlt := Aside0.mk (Kd.C_below (Kd.C_below Hlt.out (by repeat (first | exact Below.refl _ _ | refine below_alloc ?_ _ | refine pw_below_drewN ?_ _ | refine below_drew1 ?_))) hb)
        replace Hma := Aside0.mk (Kd.C_below (Kd.C_below Hma.out (by repeat (first | exact Below.refl _ _ | refine below_alloc ?_ _ | refine pw_below_drewN ?_ _ | refine below_drew1 ?_))) hb)
        replace Hmt := Aside0.mk (Kd.C_below (Kd.C_below Hmt.out (by repeat (first | exact Below.refl _ _ | refine below_alloc ?_ _ | refine pw_below_drewN ?_ _ | refine below_drew1 ?_))) hb)
        replace Hna := Aside0.mk (Kd.C_below (Kd.C_below Hna.out (by repeat (first | exact Below.refl _ _ | refine below_alloc ?_ _ | refine pw_below_drewN ?_ _ | refine below_drew1 ?_))) hb)
        replace Hnt := Aside0.mk (Kd.C_below (Kd.C_below Hnt.out (by repeat (first | exact Below.refl _ _ | refine below_alloc ?_ _ | refine pw_below_drewN ?_ _ | refine below_drew1 ?_))) hb)
        replace Bl := Aside0.mk (Box.keep (by repeat (first | exact Below.refl _ _ | refine below_alloc ?_ _ | refine pw_below_drewN ?_ _ | refine below_drew1 ?_)) hb Bl.out)
        replace Bm := Aside0.mk (Box.keep (by repeat (first | exact Below.refl _ _ | refine below_alloc ?_ _ | refine pw_below_drewN ?_ _ | refine below_drew1 ?_)) hb Bm.out)
        replace Bn := Aside0.mk (Box.keep (by repeat (first | exact Below.refl _ _ | refine below_alloc ?_ _ | refine pw_below_drewN ?_ _ | refine below_drew1 ?_)) hb Bn.out)
        replace HW := Aside0.mk (below_step (below_step HW.out (by repeat (first | exact Below.refl _ _ | refine below_alloc ?_ _ | refine pw_below_drewN ?_ _ | refine below_drew1 ?_))) hb)
        obtain ⟨Aoa, coa, Aot, cot, ev, hC, hL, hC', hL'⟩ := hv.rows
        subst ev
        have Hoa := Aside0.mk hC
        have HLoa := Aside0.mk hL
        have Hot := Aside0.mk hC'
        have HLot := Aside0.mk hL'
        clear hC hL hC' hL' hv
        clear hb
        obtain ⟨w5, hwk⟩ : ∃ wk, wk = w' := ⟨_, rfl⟩
        subst hwk
        have Bo : Aside0 (Box (w5.alloc (.cells #[.slice Aoa (r).length coa, .slice Aot (s).length cot] 69)) w5.heap.size #[.slice Aoa (r).length coa, .slice Aot (s).length cot]) := ⟨Box.new _ _ _⟩
        have n0 := fun (o : Obj) => cell?_alloc_old' (Bn.out 0 (.slice Ana (r).length cna) rfl) o
        have n1 := fun (o : Obj) => cell?_alloc_old' (Bn.out 1 (.slice Ant (s).length cnt) rfl) o
        go_wp2_with (first | (go_at_call 30; refine stop_ ?_) | (go_at_call 31; refine stop_ ?_) | (go_at_call 32; refine stop_ ?_) | (go_at_call 33; refine stop_ ?_) | (go_at_call 34; refine stop_ ?_) | (go_at_call 19; refine stop_ ?_) | (go_at_call 20; refine stop_ ?_) | (go_at_call 35; refine stop_ ?_))
        repeat (go_quiet (fail); try (go_wp2_with (first | (go_at_call 30; refine stop_ ?_) | (go_at_call 31; refine stop_ ?_) | (go_at_call 32; refine stop_ ?_) | (go_at_call 33; refine stop_ ?_) | (go_at_call 34; refine stop_ ?_) | (go_at_call 19; refine stop_ ?_) | (go_at_call 20; refine stop_ ?_) | (go_at_call 35; refine stop_ ?_))))
        refine ⟨?_⟩
        clear n0 n1
        refine Calls.mono (sameL_true rfl rfl Ana cna Ant cnt Aoa coa Aot cot _ (Kd.C_below Hna.out (by repeat (first | exact Below.refl _ _ | refine below_alloc ?_ _ | refine pw_below_drewN ?_ _ | refine below_drew1 ?_))) (Kd.C_below Hnt.out (by repeat (first | exact Below.refl _ _ | refine below_alloc ?_ _ | refine pw_below_drewN ?_ _ | refine below_drew1 ?_))) (Kd.C_below Hoa.out (by repeat (first | exact Below.refl _ _ | refine below_alloc ?_ _ | refine pw_below_drewN ?_ _ | refine below_drew1 ?_))) (Kd.C_below Hot.out (by repeat (first | exact Below.refl _ _ | refine below_alloc ?_ _ | refine pw_below_drewN ?_ _ | refine below_drew1 ?_)))) ?_
        rintro e w' ⟨rfl, hb⟩
        replace Ha := Aside0.mk (Kd.C_below (Kd.C_below Ha.out (by repeat (first | exact Below.refl _ _ | refine below_alloc ?_ _ | refine pw_below_drewN ?_ _ | refine below_drew1 ?_))) hb)
        replace Hb := Aside0.mk (Kd.C_below (Kd.C_below Hb.out (by repeat (first | exact Below.refl _ _ | refine below_alloc ?_ _ | refine pw_below_drewN ?_ _ | refine below_drew1 ?_))) hb)
        replace Hc := Aside0.mk (Kd.C_below (Kd.C_below Hc.out (by repeat (first | exact Below.refl _ _ | refine below_alloc ?_ _ | refine pw_below_drewN ?_ _ | refine below_drew1 ?_))) hb)
        replace Hla := Aside0.mk (Kd.C_below (Kd.C_below Hla.out (by repeat (first | exact Below.refl _ _ | refine below_alloc ?_ _ | refine pw_below_drewN ?_ _ | refine below_drew1 ?_))) hb)
        replace Hlt := Aside0.mk (Kd.C_below (Kd.C_below Hlt.out (by repeat (first | exact Below.refl _ _ | refine below_alloc ?_ _ | refine pw_below_drewN ?_ _ | refine below_drew1 ?_))) hb)
        replace Hma := Aside0.mk (Kd.C_below (Kd.C_below Hma.out (by repeat (first | exact Below.refl _ _ | refine below_alloc ?_ _ | refine pw_below_drewN ?_ _ | refine below_drew1 ?_))) hb)
        replace Hmt := Aside0.mk (Kd.C_below (Kd.C_below Hmt.out (by repeat (first | exact Below.refl _ _ | refine below_alloc ?_ _ | refine pw_below_drewN ?_ _ | refine below_drew1 ?_))) hb)
        replace Hna := Aside0.mk (Kd.C_below (Kd.C_below Hna.out (by repeat (first | exact Below.refl _ _ | refine below_alloc ?_ _ | refine pw_below_drewN ?_ _ | refine below_drew1 ?_))) hb)
        replace Hnt := Aside0.mk (Kd.C_below (Kd.C_below Hnt.out (by repeat (first | exact Below.refl _ _ | refine below_alloc ?_ _ | refine pw_below_drewN ?_ _ | refine below_drew1 ?_))) hb)
        replace Hoa := Aside0.mk (Kd.C_below (Kd.C_below Hoa.out (by repeat (first | exact Below.refl _ _ | refine below_alloc ?_ _ | refine pw_below_drewN ?_ _ | refine below_drew1 ?_))) hb)
        replace Hot := Aside0.mk (Kd.C_below (Kd.C_below Hot.out (by repeat (first | exact Below.refl _ _ | refine below_alloc ?_ _ | refine pw_below_drewN ?_ _ | refine below_drew1 ?_))) hb)
        replace Bl := Aside0.mk (Box.keep (by repeat (first | exact Below.refl _ _ | refine below_alloc ?_ _ | refine pw_below_drewN ?_ _ | refine below_drew1 ?_)) hb Bl.out)
        replace Bm := Aside0.mk (Box.keep (by repeat (first | exact Below.refl _ _ | refine below_alloc ?_ _ | refine pw_below_drewN ?_ _ | refine below_drew1 ?_)) hb Bm.out)
        replace Bn := Aside0.mk (Box.keep (by repeat (first | exact Below.refl _ _ | refine below_alloc ?_ _ | refine pw_below_drewN ?_ _ | refine below_drew1 ?_)) hb Bn.out)
        replace Bo := Aside0.mk (Box.keep (by repeat (first | exact Below.refl _ _ | refine below_alloc ?_ _ | refine pw_below_drewN ?_ _ | refine below_drew1 ?_)) hb Bo.out)
        replace HW := Aside0.mk (below_step (below_step HW.out (by repeat (first | exact Below.refl _ _ | refine below_alloc ?_ _ | refine pw_below_drewN ?_ _ | refine below_drew1 ?_))) hb)
        clear hb
        go_wp2_with (first | (go_at_call 30; refine stop_ ?_) | (go_at_call 31; refine stop_ ?_) | (go_at_call 32; refine stop_ ?_) | (go_at_call 33; refine stop_ ?_) | (go_at_call 34; refine stop_ ?_) | (go_at_call 19; refine stop_ ?_) | (go_at_call 20; refine stop_ ?_) | (go_at_call 35; refine stop_ ?_))
        repeat (go_quiet (fail); try (go_wp2_with (first | (go_at_call 30; refine stop_ ?_) | (go_at_call 31; refine stop_ ?_) | (go_at_call 32; refine stop_ ?_) | (go_at_call 33; refine stop_ ?_) | (go_at_call 34; refine stop_ ?_) | (go_at_call 19; refine stop_ ?_) | (go_at_call 20; refine stop_ ?_) | (go_at_call 35; refine stop_ ?_))))
        go_ret
        exact ⟨by first | rfl | (simp; done) | (simp [*]; done) | (simp; omega), below_step HW.out (by repeat (first | exact Below.refl _ _ | refine below_alloc ?_ _ | refine pw_below_drewN ?_ _ | refine below_drew1 ?_))⟩
end Go.Proofs.Ytdjamphmndbmjaa.M

/- What a law is handed, in plain words: a term, a triple, a row of triples. -/
namespace Go.Proofs.Ytdjamphmndbmjaa.M
open Go.RowKit Go.Proofs.YtdjamphmndbmjaaW.PrintWords Go.Proofs.YtdjamphmndbmjaaW.PrintLast Go.Proofs.YtdjamphmndbmjaaW.PrintMore
set_option linter.unusedVariables false
set_option linter.unusedSimpArgs false

set_option maxRecDepth 100000
open Go.Deep
section
variable {H : Type} {enc : TypeId × Value → H} {w : World} {base : Nat} {spare : Nat → Bool} {held : Bool}
theorem cells_int : Try.prog.cellsOf 3 = 1 := by kernel_rfl
theorem cells_str : Try.prog.cellsOf 9 = 1 := by kernel_rfl
theorem cells_TM : Try.prog.cellsOf 35 = 3 := by kernel_rfl
theorem cells_TR : Try.prog.cellsOf 41 = 9 := by kernel_rfl
theorem open_TM {fuel : Nat} {cs : List Value} {x : DataW H × List MemPlace} (h : DataW.trod enc Try.prog w base spare held fuel 35 cs = some x) :
    ∃ s : S35, cs = [.int .i64 s.f0, .string s.f1, .string s.f2] := by
  obtain ⟨y0, y1, y2, n, _, hl, h0, h1, h2⟩ := trod_struct3 Try.underlying35 h
  rw [cells_TM] at hl
  match cs, hl with
  | [a, b, c], _ =>
    simp only [cells_int, cells_str] at h0 h1 h2
    obtain ⟨i, e0, _, _⟩ := DataW.trod_int Try.underlying3 h0
    obtain ⟨s1, e1, _, _⟩ := DataW.trod_string Try.underlying9 h1
    obtain ⟨s2, e2, _, _⟩ := DataW.trod_string Try.underlying9 h2
    simp at e0 e1 e2
    exact ⟨⟨i, s1, s2⟩, by rw [e0, e1, e2]⟩
theorem open_TR {fuel : Nat} {cs : List Value} {x : DataW H × List MemPlace} (h : DataW.trod enc Try.prog w base spare held fuel 41 cs = some x) :
    ∃ s : S41, cs = [.int .i64 s.f0.f0, .string s.f0.f1, .string s.f0.f2, .int .i64 s.f1.f0, .string s.f1.f1, .string s.f1.f2, .int .i64 s.f2.f0, .string s.f2.f1, .string s.f2.f2] := by
  obtain ⟨y0, y1, y2, n, _, hl, h0, h1, h2⟩ := trod_struct3 Try.underlying41 h
  rw [cells_TR] at hl
  match cs, hl with
  | [a0, a1, a2, a3, a4, a5, a6, a7, a8], _ =>
    simp only [cells_TM] at h0 h1 h2
    obtain ⟨s0, e0⟩ := open_TM h0
    obtain ⟨s1, e1⟩ := open_TM h1
    obtain ⟨s2, e2⟩ := open_TM h2
    simp at e0 e1 e2
    obtain ⟨rfl, rfl, rfl⟩ := e0
    obtain ⟨rfl, rfl, rfl⟩ := e1
    obtain ⟨rfl, rfl, rfl⟩ := e2
    exact ⟨⟨s0, s1, s2⟩, rfl⟩
theorem open_row {A : Option Addr} {len cap : Nat} {d : DataW H} {ps : List MemPlace} (h : DataW.Trod enc Try.prog w base spare held 26 (.slice A len cap) d ps) :
    ∃ l : List S41, l.length = len ∧ Kd.C k41 w A l.length l ∧ l.length ≤ cap := by
  obtain ⟨fuel, hf⟩ := h
  rcases open_slice Try.underlying26 hf with ⟨hcs, _⟩ | ⟨a, l, c, m, n, D, Pl, hcs, _, hl, hm, hmm, _, hx⟩
  · simp [Value.cells] at hcs
    obtain ⟨rfl, rfl, rfl⟩ := hcs
    exact ⟨[], rfl, ⟨rfl, by simp, fun h => absurd h (Nat.lt_irrefl 0)⟩, Nat.le_refl _⟩
  · simp [Value.cells] at hcs
    obtain ⟨rfl, rfl, rfl⟩ := hcs
    haveI : Inhabited S41 := ⟨z41⟩
    have hlm : len ≤ m := by rw [hmm]; split <;> omega
    rw [cells_TR] at hx
    obtain ⟨V, hV⟩ := choose_lt (α := S41) (n := len) (p := fun i s => ∀ q u, [Value.int .i64 s.f0.f0, .string s.f0.f1, .string s.f0.f2, .int .i64 s.f1.f0, .string s.f1.f1, .string s.f1.f2, .int .i64 s.f2.f0, .string s.f2.f1, .string s.f2.f2][q]? = some u → w.cell? (a.add (i * 9 + q)) = some u) (fun i hi => by
      obtain ⟨cs', h1, h2⟩ := hx i (by omega)
      obtain ⟨s, rfl⟩ := open_TR h2
      obtain ⟨_, hlen, hc⟩ := World.cells?_some h1
      refine ⟨s, fun q u hq => ?_⟩
      have hq9 : q < 9 := by
        rcases Nat.lt_or_ge q 9 with h | h
        · exact h
        · rw [List.getElem?_eq_none (by simpa using h)] at hq; cases hq
      rw [← Go.Deep.add_add, hc q hq9]
      exact hq)
    refine ⟨(List.range len).map V, by simp, ?_, by simpa using hl⟩
    refine ⟨rfl, by simp [maxLen] at hm ⊢; omega, fun hp => ⟨a, rfl, fun j p hj => ?_⟩⟩
    have hjl : j < len := by
      rcases Nat.lt_or_ge j len with h | h
      · exact h
      · rw [List.getElem?_eq_none (by simpa using h)] at hj; cases hj
    have hpj : V j = p := by simpa [hjl] using hj
    subst hpj
    exact ⟨_, rfl, k41_mk w (V j), fun i u hu => hV j hjl i u hu⟩
theorem open_triple {v : Value} {r : Reach} {b0 : Nat} {d : DataW H} {ps : List MemPlace} (hval : Value.okWide Try.prog w r b0 41 v) (h : DataW.Trod enc Try.prog w base spare held 41 v d ps) :
    ∃ s : S41, v = .agg #[.int .i64 s.f0.f0, .string s.f0.f1, .string s.f0.f2, .int .i64 s.f1.f0, .string s.f1.f1, .string s.f1.f2, .int .i64 s.f2.f0, .string s.f2.f1, .string s.f2.f2] := by
  obtain ⟨cs, rfl, _⟩ := Go.WideShapes.okWide_struct Try.underlying41 hval
  obtain ⟨fuel, hf⟩ := h
  obtain ⟨s, hs⟩ := open_TR hf
  refine ⟨s, ?_⟩
  have : cs = (cs.toList).toArray := by simp
  have e : cs.toList = _ := hs
  rw [this, e]
end
end Go.Proofs.Ytdjamphmndbmjaa.M

/- The row of the law LayerBack: what it is handed is opened, the walk does the rest (printed by wip/genrow.py). -/
namespace Go.Proofs.Ytdjamphmndbmjaa.layerBack
open Go.ChangeShapes Go.WideShapes Go.ChangeAt Go.RowKit
set_option linter.unusedVariables false
theorem own : ownKnob Try.prog.godebug = none := by kernel_rfl
theorem laidOut : laidOutB Try.prog = true := by kernel_rfl
set_option maxRecDepth 100000 in
theorem lifted (os : Os) (started : os.Started) (H : Type) (enc : TypeId × Value → H) :
    ReturnsInHanded {} Try.checked os 8 .any (Rows.layerBackSpec.pre6 enc Try.prog Try.f8 Rows.layerBackRow.domain false) (Rows.layerBackSpec.post enc Try.prog Try.f8 false true false false) := by
  refine returnsInHanded_of_change_sized (C := Try.checked) own started (by kernel_rfl) Try.func8
    (ChangeSpec.witness6 (enc := enc) (C := Try.checked) false ⟨#[], #[.slice none 0 0, .slice none 0 0, .slice none 0 0], []⟩ 8 (by kernel_rfl) (by kernel_rfl) (by kernel_rfl) (by kernel_rfl)) ?_
  intro W base args ds gs before hval0 hW hcnd hsz0 _
  have hval : ∀ (j : Nat) t v, Try.f8.params[j]? = some t → args[j]? = some v → Value.okWide Try.prog W .any base t v := hval0
  have hW' := hW
  obtain ⟨p, q, hA0, hV, rfl, hfz, hnd⟩ := hW
  have hA : DataW.TrodAll enc Try.prog W 0 (fun _ => true) true Try.f8.params.toList args.toList ds p := hA0
  rw [Try.params8] at hA hval
  obtain ⟨v0, vs0, d0, ds0, p0, q0, hargs, rfl, rfl, h0, r0⟩ := trodAll_cons hA
  obtain ⟨v1, vs1, d1, ds1, p1, q1, rfl, rfl, rfl, h1, r1⟩ := trodAll_cons r0
  obtain ⟨v2, vs2, d2, ds2, p2, q2, rfl, rfl, rfl, h2, r2⟩ := trodAll_cons r1
  obtain ⟨rfl, rfl, rfl⟩ := trodAll_nil r2
  obtain rfl : args = #[v0, v1, v2] := by cases args; simp_all
  obtain ⟨rfl, rfl⟩ := trodVars_none hV
  have k0 := h0
  have lt0 : ∀ x ∈ p0, x.block < W.heap.size := by obtain ⟨m, hm⟩ := k0; exact DataW.trod_lt m _ _ _ hm
  obtain ⟨A0, len0, c0, rfl⟩ := okWide_slice Try.underlying26 (hval 0 26 v0 rfl rfl)
  obtain ⟨l0, rfl, hC0, hL0⟩ := M.open_row h0
  have k1 := h1
  have lt1 : ∀ x ∈ p1, x.block < W.heap.size := by obtain ⟨m, hm⟩ := k1; exact DataW.trod_lt m _ _ _ hm
  obtain ⟨A1, len1, c1, rfl⟩ := okWide_slice Try.underlying26 (hval 1 26 v1 rfl rfl)
  obtain ⟨l1, rfl, hC1, hL1⟩ := M.open_row h1
  have k2 := h2
  have lt2 : ∀ x ∈ p2, x.block < W.heap.size := by obtain ⟨m, hm⟩ := k2; exact DataW.trod_lt m _ _ _ hm
  obtain ⟨A2, len2, c2, rfl⟩ := okWide_slice Try.underlying26 (hval 2 26 v2 rfl rfl)
  obtain ⟨l2, rfl, hC2, hL2⟩ := M.open_row h2
  clear hA0 hval0 hsz0
  refine (M.layerBack_walk A0 A1 A2 c0 c1 c2 l0 l1 l2 W hC0 hL0 hC1 hL1 hC2 hL2).mono fun e W' ⟨he, bel⟩ => ?_
  subst he
  exact ⟨_, rfl, _, _, _, [], _, [], hW', trodAll_mk1 (shut_bool Try.underlying4 _), ⟨_, _, (Below.trod laidOut (by kernel_rfl) (of_decide_eq_true (by kernel_rfl)) k0 bel lt0), ⟨_, _, (Below.trod laidOut (by kernel_rfl) (of_decide_eq_true (by kernel_rfl)) k1 bel lt1), ⟨_, _, (Below.trod laidOut (by kernel_rfl) (of_decide_eq_true (by kernel_rfl)) k2 bel lt2), rfl, rfl⟩, rfl⟩, rfl⟩, rfl, bel.frame _, fun h => by cases h⟩
theorem over : Rows.layerBackRow.holds Try.pinned (OpenSpec.ofChange Rows.layerBackSpec) :=
  OpenClaim.holds_of_wide 8 Try.f8 rfl rfl rfl rfl rfl rfl rfl ⟨rfl, rfl, rfl, rfl, rfl⟩ rfl rfl rfl rfl rfl (by kernel_rfl) Try.func8 (by kernel_rfl)
    (of_decide_eq_true (by kernel_rfl)) (by unfold Func.isWrapper; first | (rw [if_pos (by decide +kernel)]; kernel_rfl) | (rw [if_neg (by decide +kernel)]; exact ⟨rfl, rfl⟩))
    (fun os started H enc _ => lifted os started H enc)
theorem proved : Rows.LayerBackSaid := over
end Go.Proofs.Ytdjamphmndbmjaa.layerBack
namespace Go.Proofs.Ytdjamphmndbmjaa
/-- The row, under a short name, for the claim. -/
theorem layerBack_holds : Rows.LayerBackSaid := layerBack.proved
end Go.Proofs.Ytdjamphmndbmjaa
