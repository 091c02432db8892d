/- The law SetLaws, walked by hand (printed by wip/gen_setlaws.py): which way it goes is known ahead of each branch. -/
import Derived.Test.YtdjamphmndbmjaaXlaw0
namespace Go.Proofs.Ytdjamphmndbmjaa.M
open Go.RowKit Go.Proofs.YtdjamphmndbmjaaW.PrintWords Go.Proofs.YtdjamphmndbmjaaW.PrintLast Go.Proofs.YtdjamphmndbmjaaW.PrintMore
set_option linter.unusedVariables false
set_option linter.unusedSimpArgs false

attribute [local go_sem high] eqTR
set_option maxHeartbeats 8000000 in
set_option maxRecDepth 100000 in
theorem setLaws_walk (Aa Ab : Option Addr) (ca cb : Nat) (a b : List S41) (t : S41) (w : World) (hr0 : Kd.C k41 w Aa a.length a) (hc0 : a.length ≤ ca) (hr1 : Kd.C k41 w Ab b.length b) (hc1 : b.length ≤ cb) :
    Calls Try.prog 7 #[.slice Aa a.length ca, .slice Ab b.length cb, .agg #[.int .i64 t.f0.f0, .string t.f0.f1, .string t.f0.f2, .int .i64 t.f1.f0, .string t.f1.f1, .string t.f1.f2, .int .i64 t.f2.f0, .string t.f2.f1, .string t.f2.f2]] w fun e w' => e = .returned (.bool true) ∧ Below w.heap.size w w' := by
  have HW := Aside0.mk (Below.refl w.heap.size w)
  have Ha := Aside0.mk hr0
  have HLa := Aside0.mk hc0
  have Hb := Aside0.mk hr1
  have HLb := Aside0.mk hc1
  have HT : Aside0 (∀ (c : Nat) (v : Value), (#[.int .i64 t.f0.f0, .string t.f0.f1, .string t.f0.f2, .int .i64 t.f1.f0, .string t.f1.f1, .string t.f1.f2, .int .i64 t.f2.f0, .string t.f2.f1, .string t.f2.f2] : Array Value)[c]? = some v → (w.alloc (.cells #[.int .i64 t.f0.f0, .string t.f0.f1, .string t.f0.f2, .int .i64 t.f1.f0, .string t.f1.f1, .string t.f1.f2, .int .i64 t.f2.f0, .string t.f2.f1, .string t.f2.f2] 41)).cell? ⟨w.heap.size, c, none⟩ = some v) := ⟨fun c v h => (blk_cell (blk_new w _) c).trans h⟩
  have HX : Aside0 (∀ (c : Nat) (v : Value), (#[.int .i64 1, .string ⟨#[97]⟩, .string ⟨#[]⟩, .int .i64 1, .string ⟨#[98]⟩, .string ⟨#[]⟩, .int .i64 1, .string ⟨#[99]⟩, .string ⟨#[]⟩] : Array Value)[c]? = some v → ((w.alloc (.cells #[.int .i64 t.f0.f0, .string t.f0.f1, .string t.f0.f2, .int .i64 t.f1.f0, .string t.f1.f1, .string t.f1.f2, .int .i64 t.f2.f0, .string t.f2.f1, .string t.f2.f2] 41)).alloc (.cells #[.int .i64 1, .string ⟨#[97]⟩, .string ⟨#[]⟩, .int .i64 1, .string ⟨#[98]⟩, .string ⟨#[]⟩, .int .i64 1, .string ⟨#[99]⟩, .string ⟨#[]⟩] 41)).cell? ⟨w.heap.size + 1, c, none⟩ = some v) := ⟨fun c v h => by rw [← alloc_size1 w (.cells #[.int .i64 t.f0.f0, .string t.f0.f1, .string t.f0.f2, .int .i64 t.f1.f0, .string t.f1.f1, .string t.f1.f2, .int .i64 t.f2.f0, .string t.f2.f1, .string t.f2.f2] 41)]; exact (blk_cell (blk_new _ _) c).trans h⟩
  clear hr0 hr1 hc0 hc1
  go_enter Try.func7, Try.ntmps7
  go_wp2_with (first | (go_at_call 28; refine stop_ ?_) | (go_at_call 29; refine stop_ ?_) | (go_at_call 23; refine stop_ ?_) | (go_at_call 22; refine stop_ ?_) | (go_at_call 20; refine stop_ ?_))
  repeat (go_quiet (fail); try (go_wp2_with (first | (go_at_call 28; refine stop_ ?_) | (go_at_call 29; refine stop_ ?_) | (go_at_call 23; refine stop_ ?_) | (go_at_call 22; refine stop_ ?_) | (go_at_call 20; refine stop_ ?_))))
  refine ⟨?_⟩
  refine Calls.mono (join_ok join_xabc (some ⟨w.heap.size + 1 + 1, 0, none⟩) none 1 0 _ (row_three w _ _) (Nat.le_refl _) (C_none _) (Nat.le_refl _)) ?_
  rintro e w' ⟨v, rfl, hv, hb⟩
  replace Ha := Aside0.mk (Kd.C_below (Kd.C_below Ha.out (by repeat (first | exact Below.refl _ _ | refine below_alloc ?_ _ | refine pw_below_drewN ?_ _ | refine below_drew1 ?_))) hb)
  replace Hb := Aside0.mk (Kd.C_below (Kd.C_below Hb.out (by repeat (first | exact Below.refl _ _ | refine below_alloc ?_ _ | refine pw_below_drewN ?_ _ | refine below_drew1 ?_))) hb)
  replace HW := Aside0.mk (below_step (below_step HW.out (by repeat (first | exact Below.refl _ _ | refine below_alloc ?_ _ | refine pw_below_drewN ?_ _ | refine below_drew1 ?_))) hb)
  replace HT := Aside0.mk (fun (c : Nat) (v : Value) h => cell_keep (by repeat (first | exact Below.refl _ _ | refine below_alloc ?_ _ | refine pw_below_drewN ?_ _ | refine below_drew1 ?_)) hb (HT.out c v h))
  replace HX := Aside0.mk (fun (c : Nat) (v : Value) h => cell_keep (by repeat (first | exact Below.refl _ _ | refine below_alloc ?_ _ | refine pw_below_drewN ?_ _ | refine below_drew1 ?_)) hb (HX.out c v h))
  obtain ⟨Af, cf, ev, hC, hL⟩ := hv
  subst ev
  have Hf := Aside0.mk hC
  have HLf := Aside0.mk hL
  clear hC hL
  clear hb
  have x0 := HX.out 0 (.int .i64 1) rfl
  have x1 := HX.out 1 (.string ⟨#[97]⟩) rfl
  have x2 := HX.out 2 (.string ⟨#[]⟩) rfl
  have x3 := HX.out 3 (.int .i64 1) rfl
  have x4 := HX.out 4 (.string ⟨#[98]⟩) rfl
  have x5 := HX.out 5 (.string ⟨#[]⟩) rfl
  have x6 := HX.out 6 (.int .i64 1) rfl
  have x7 := HX.out 7 (.string ⟨#[99]⟩) rfl
  have x8 := HX.out 8 (.string ⟨#[]⟩) rfl
  obtain ⟨ad, e0, z0, z1, z2, z3, z4, z5, z6, z7, z8⟩ := one_cells Hf.out
  subst e0
  have y0 : w'.cell? ad = some (.int .i64 1) := z0
  have y1 : w'.cell? ⟨ad.block, ad.off + 1, none⟩ = some (.string ⟨#[97]⟩) := z1
  have y2 : w'.cell? ⟨ad.block, ad.off + 2, none⟩ = some (.string ⟨#[]⟩) := z2
  have y3 : w'.cell? ⟨ad.block, ad.off + 3, none⟩ = some (.int .i64 1) := z3
  have y4 : w'.cell? ⟨ad.block, ad.off + 4, none⟩ = some (.string ⟨#[98]⟩) := z4
  have y5 : w'.cell? ⟨ad.block, ad.off + 5, none⟩ = some (.string ⟨#[]⟩) := z5
  have y6 : w'.cell? ⟨ad.block, ad.off + 6, none⟩ = some (.int .i64 1) := z6
  have y7 : w'.cell? ⟨ad.block, ad.off + 7, none⟩ = some (.string ⟨#[99]⟩) := z7
  have y8 : w'.cell? ⟨ad.block, ad.off + 8, none⟩ = some (.string ⟨#[]⟩) := z8
  clear z0 z1 z2 z3 z4 z5 z6 z7 z8
  have hxx : eqE (⟨⟨1, ⟨#[97]⟩, ⟨#[]⟩⟩, ⟨1, ⟨#[98]⟩, ⟨#[]⟩⟩, ⟨1, ⟨#[99]⟩, ⟨#[]⟩⟩⟩ : S41) (⟨⟨1, ⟨#[97]⟩, ⟨#[]⟩⟩, ⟨1, ⟨#[98]⟩, ⟨#[]⟩⟩, ⟨1, ⟨#[99]⟩, ⟨#[]⟩⟩⟩ : S41) = true := (eqE_decide xabc xabc).trans (decide_eq_true rfl)
  go_wp2_with (first | (go_at_call 28; refine stop_ ?_) | (go_at_call 29; refine stop_ ?_) | (go_at_call 23; refine stop_ ?_) | (go_at_call 22; refine stop_ ?_) | (go_at_call 20; refine stop_ ?_))
  repeat (go_quiet (fail); try (go_wp2_with (first | (go_at_call 28; refine stop_ ?_) | (go_at_call 29; refine stop_ ?_) | (go_at_call 23; refine stop_ ?_) | (go_at_call 22; refine stop_ ?_) | (go_at_call 20; refine stop_ ?_))))
  clear x0 x1 x2 x3 x4 x5 x6 x7 x8 y0 y1 y2 y3 y4 y5 y6 y7 y8 hxx HX Hf HLf
  obtain ⟨r, hr⟩ : ∃ r, right2 a b = r := ⟨_, rfl⟩
  cases r with
  | some n =>
    obtain ⟨n', hr'⟩ := right2_turn hr
    have J1 : Aside0 (joinR a b = ([], some n)) := ⟨by unfold joinR; rw [hr]⟩
    have J2 : Aside0 (joinR b a = ([], some n')) := ⟨by unfold joinR; rw [hr']⟩
    have L1 : Aside0 (bothR a b false = ([], some n)) := ⟨by unfold bothR; rw [hr]⟩
    have L2 : Aside0 (bothR b a false = ([], some n')) := ⟨by unfold bothR; rw [hr']⟩
    have B1 : Aside0 (bothR a b true = ([], some n)) := ⟨by unfold bothR; rw [hr]⟩
    clear hr hr'
    refine ⟨?_⟩
    refine Calls.mono (join_err J1.out Aa Ab ca cb _ (Kd.C_below Ha.out (by repeat (first | exact Below.refl _ _ | refine below_alloc ?_ _ | refine pw_below_drewN ?_ _ | refine below_drew1 ?_))) HLa.out (Kd.C_below Hb.out (by repeat (first | exact Below.refl _ _ | refine below_alloc ?_ _ | refine pw_below_drewN ?_ _ | refine below_drew1 ?_))) HLb.out) ?_
    rintro e w' ⟨v, rfl, hv, hb⟩
    replace Ha := Aside0.mk (Kd.C_below (Kd.C_below Ha.out (by repeat (first | exact Below.refl _ _ | refine below_alloc ?_ _ | refine pw_below_drewN ?_ _ | refine below_drew1 ?_))) hb)
    replace Hb := Aside0.mk (Kd.C_below (Kd.C_below Hb.out (by repeat (first | exact Below.refl _ _ | refine below_alloc ?_ _ | refine pw_below_drewN ?_ _ | refine below_drew1 ?_))) hb)
    replace HW := Aside0.mk (below_step (below_step HW.out (by repeat (first | exact Below.refl _ _ | refine below_alloc ?_ _ | refine pw_below_drewN ?_ _ | refine below_drew1 ?_))) hb)
    replace HT := Aside0.mk (fun (c : Nat) (v : Value) h => cell_keep (by repeat (first | exact Below.refl _ _ | refine below_alloc ?_ _ | refine pw_below_drewN ?_ _ | refine below_drew1 ?_)) hb (HT.out c v h))
    obtain ⟨Aj, cj, ev, hC, hL⟩ := hv
    subst ev
    have Hj := Aside0.mk hC
    have HLj := Aside0.mk hL
    clear hC hL
    clear hb
    go_wp2_with (first | (go_at_call 28; refine stop_ ?_) | (go_at_call 29; refine stop_ ?_) | (go_at_call 23; refine stop_ ?_) | (go_at_call 22; refine stop_ ?_) | (go_at_call 20; refine stop_ ?_))
    repeat (go_quiet (fail); try (go_wp2_with (first | (go_at_call 28; refine stop_ ?_) | (go_at_call 29; refine stop_ ?_) | (go_at_call 23; refine stop_ ?_) | (go_at_call 22; refine stop_ ?_) | (go_at_call 20; refine stop_ ?_))))
    refine ⟨?_⟩
    refine Calls.mono (join_err J2.out Ab Aa cb ca _ (Kd.C_below Hb.out (by repeat (first | exact Below.refl _ _ | refine below_alloc ?_ _ | refine pw_below_drewN ?_ _ | refine below_drew1 ?_))) HLb.out (Kd.C_below Ha.out (by repeat (first | exact Below.refl _ _ | refine below_alloc ?_ _ | refine pw_below_drewN ?_ _ | refine below_drew1 ?_))) HLa.out) ?_
    rintro e w' ⟨v, rfl, hv, hb⟩
    replace Ha := Aside0.mk (Kd.C_below (Kd.C_below Ha.out (by repeat (first | exact Below.refl _ _ | refine below_alloc ?_ _ | refine pw_below_drewN ?_ _ | refine below_drew1 ?_))) hb)
    replace Hb := Aside0.mk (Kd.C_below (Kd.C_below Hb.out (by repeat (first | exact Below.refl _ _ | refine below_alloc ?_ _ | refine pw_below_drewN ?_ _ | refine below_drew1 ?_))) hb)
    replace Hj := Aside0.mk (Kd.C_below (Kd.C_below Hj.out (by repeat (first | exact Below.refl _ _ | refine below_alloc ?_ _ | refine pw_below_drewN ?_ _ | refine below_drew1 ?_))) hb)
    replace HW := Aside0.mk (below_step (below_step HW.out (by repeat (first | exact Below.refl _ _ | refine below_alloc ?_ _ | refine pw_below_drewN ?_ _ | refine below_drew1 ?_))) hb)
    replace HT := Aside0.mk (fun (c : Nat) (v : Value) h => cell_keep (by repeat (first | exact Below.refl _ _ | refine below_alloc ?_ _ | refine pw_below_drewN ?_ _ | refine below_drew1 ?_)) hb (HT.out c v h))
    obtain ⟨At, ct, ev, hC, hL⟩ := hv
    subst ev
    have Ht := Aside0.mk hC
    have HLt := Aside0.mk hL
    clear hC hL
    clear hb
    go_wp2_with (first | (go_at_call 28; refine stop_ ?_) | (go_at_call 29; refine stop_ ?_) | (go_at_call 23; refine stop_ ?_) | (go_at_call 22; refine stop_ ?_) | (go_at_call 20; refine stop_ ?_))
    repeat (go_quiet (fail); try (go_wp2_with (first | (go_at_call 28; refine stop_ ?_) | (go_at_call 29; refine stop_ ?_) | (go_at_call 23; refine stop_ ?_) | (go_at_call 22; refine stop_ ?_) | (go_at_call 20; refine stop_ ?_))))
    refine ⟨?_⟩
    refine Calls.mono (less_err L1.out Aa Ab ca cb _ (Kd.C_below Ha.out (by repeat (first | exact Below.refl _ _ | refine below_alloc ?_ _ | refine pw_below_drewN ?_ _ | refine below_drew1 ?_))) HLa.out (Kd.C_below Hb.out (by repeat (first | exact Below.refl _ _ | refine below_alloc ?_ _ | refine pw_below_drewN ?_ _ | refine below_drew1 ?_))) HLb.out) ?_
    rintro e w' ⟨v, rfl, hv, hb⟩
    replace Ha := Aside0.mk (Kd.C_below (Kd.C_below Ha.out (by repeat (first | exact Below.refl _ _ | refine below_alloc ?_ _ | refine pw_below_drewN ?_ _ | refine below_drew1 ?_))) hb)
    replace Hb := Aside0.mk (Kd.C_below (Kd.C_below Hb.out (by repeat (first | exact Below.refl _ _ | refine below_alloc ?_ _ | refine pw_below_drewN ?_ _ | refine below_drew1 ?_))) hb)
    replace Hj := Aside0.mk (Kd.C_below (Kd.C_below Hj.out (by repeat (first | exact Below.refl _ _ | refine below_alloc ?_ _ | refine pw_below_drewN ?_ _ | refine below_drew1 ?_))) hb)
    replace Ht := Aside0.mk (Kd.C_below (Kd.C_below Ht.out (by repeat (first | exact Below.refl _ _ | refine below_alloc ?_ _ | refine pw_below_drewN ?_ _ | refine below_drew1 ?_))) hb)
    replace HW := Aside0.mk (below_step (below_step HW.out (by repeat (first | exact Below.refl _ _ | refine below_alloc ?_ _ | refine pw_below_drewN ?_ _ | refine below_drew1 ?_))) hb)
    replace HT := Aside0.mk (fun (c : Nat) (v : Value) h => cell_keep (by repeat (first | exact Below.refl _ _ | refine below_alloc ?_ _ | refine pw_below_drewN ?_ _ | refine below_drew1 ?_)) hb (HT.out c v h))
    obtain ⟨Al, cl, ev, hC, hL⟩ := hv
    subst ev
    have Hl := Aside0.mk hC
    have HLl := Aside0.mk hL
    clear hC hL
    clear hb
    go_wp2_with (first | (go_at_call 28; refine stop_ ?_) | (go_at_call 29; refine stop_ ?_) | (go_at_call 23; refine stop_ ?_) | (go_at_call 22; refine stop_ ?_) | (go_at_call 20; refine stop_ ?_))
    repeat (go_quiet (fail); try (go_wp2_with (first | (go_at_call 28; refine stop_ ?_) | (go_at_call 29; refine stop_ ?_) | (go_at_call 23; refine stop_ ?_) | (go_at_call 22; refine stop_ ?_) | (go_at_call 20; refine stop_ ?_))))
    refine ⟨?_⟩
    refine Calls.mono (less_err L2.out Ab Aa cb ca _ (Kd.C_below Hb.out (by repeat (first | exact Below.refl _ _ | refine below_alloc ?_ _ | refine pw_below_drewN ?_ _ | refine below_drew1 ?_))) HLb.out (Kd.C_below Ha.out (by repeat (first | exact Below.refl _ _ | refine below_alloc ?_ _ | refine pw_below_drewN ?_ _ | refine below_drew1 ?_))) HLa.out) ?_
    rintro e w' ⟨v, rfl, hv, hb⟩
    replace Ha := Aside0.mk (Kd.C_below (Kd.C_below Ha.out (by repeat (first | exact Below.refl _ _ | refine below_alloc ?_ _ | refine pw_below_drewN ?_ _ | refine below_drew1 ?_))) hb)
    replace Hb := Aside0.mk (Kd.C_below (Kd.C_below Hb.out (by repeat (first | exact Below.refl _ _ | refine below_alloc ?_ _ | refine pw_below_drewN ?_ _ | refine below_drew1 ?_))) hb)
    replace Hj := Aside0.mk (Kd.C_below (Kd.C_below Hj.out (by repeat (first | exact Below.refl _ _ | refine below_alloc ?_ _ | refine pw_below_drewN ?_ _ | refine below_drew1 ?_))) hb)
    replace Ht := Aside0.mk (Kd.C_below (Kd.C_below Ht.out (by repeat (first | exact Below.refl _ _ | refine below_alloc ?_ _ | refine pw_below_drewN ?_ _ | refine below_drew1 ?_))) hb)
    replace Hl := Aside0.mk (Kd.C_below (Kd.C_below Hl.out (by repeat (first | exact Below.refl _ _ | refine below_alloc ?_ _ | refine pw_below_drewN ?_ _ | refine below_drew1 ?_))) hb)
    replace HW := Aside0.mk (below_step (below_step HW.out (by repeat (first | exact Below.refl _ _ | refine below_alloc ?_ _ | refine pw_below_drewN ?_ _ | refine below_drew1 ?_))) hb)
    replace HT := Aside0.mk (fun (c : Nat) (v : Value) h => cell_keep (by repeat (first | exact Below.refl _ _ | refine below_alloc ?_ _ | refine pw_below_drewN ?_ _ | refine below_drew1 ?_)) hb (HT.out c v h))
    obtain ⟨Am, cm, ev, hC, hL⟩ := hv
    subst ev
    have Hm := Aside0.mk hC
    have HLm := Aside0.mk hL
    clear hC hL
    clear hb
    go_wp2_with (first | (go_at_call 28; refine stop_ ?_) | (go_at_call 29; refine stop_ ?_) | (go_at_call 23; refine stop_ ?_) | (go_at_call 22; refine stop_ ?_) | (go_at_call 20; refine stop_ ?_))
    repeat (go_quiet (fail); try (go_wp2_with (first | (go_at_call 28; refine stop_ ?_) | (go_at_call 29; refine stop_ ?_) | (go_at_call 23; refine stop_ ?_) | (go_at_call 22; refine stop_ ?_) | (go_at_call 20; refine stop_ ?_))))
    refine ⟨?_⟩
    refine Calls.mono (both_err B1.out Aa Ab ca cb _ (Kd.C_below Ha.out (by repeat (first | exact Below.refl _ _ | refine below_alloc ?_ _ | refine pw_below_drewN ?_ _ | refine below_drew1 ?_))) HLa.out (Kd.C_below Hb.out (by repeat (first | exact Below.refl _ _ | refine below_alloc ?_ _ | refine pw_below_drewN ?_ _ | refine below_drew1 ?_))) HLb.out) ?_
    rintro e w' ⟨v, rfl, hv, hb⟩
    replace Ha := Aside0.mk (Kd.C_below (Kd.C_below Ha.out (by repeat (first | exact Below.refl _ _ | refine below_alloc ?_ _ | refine pw_below_drewN ?_ _ | refine below_drew1 ?_))) hb)
    replace Hb := Aside0.mk (Kd.C_below (Kd.C_below Hb.out (by repeat (first | exact Below.refl _ _ | refine below_alloc ?_ _ | refine pw_below_drewN ?_ _ | refine below_drew1 ?_))) hb)
    replace Hj := Aside0.mk (Kd.C_below (Kd.C_below Hj.out (by repeat (first | exact Below.refl _ _ | refine below_alloc ?_ _ | refine pw_below_drewN ?_ _ | refine below_drew1 ?_))) hb)
    replace Ht := Aside0.mk (Kd.C_below (Kd.C_below Ht.out (by repeat (first | exact Below.refl _ _ | refine below_alloc ?_ _ | refine pw_below_drewN ?_ _ | refine below_drew1 ?_))) hb)
    replace Hl := Aside0.mk (Kd.C_below (Kd.C_below Hl.out (by repeat (first | exact Below.refl _ _ | refine below_alloc ?_ _ | refine pw_below_drewN ?_ _ | refine below_drew1 ?_))) hb)
    replace Hm := Aside0.mk (Kd.C_below (Kd.C_below Hm.out (by repeat (first | exact Below.refl _ _ | refine below_alloc ?_ _ | refine pw_below_drewN ?_ _ | refine below_drew1 ?_))) hb)
    replace HW := Aside0.mk (below_step (below_step HW.out (by repeat (first | exact Below.refl _ _ | refine below_alloc ?_ _ | refine pw_below_drewN ?_ _ | refine below_drew1 ?_))) hb)
    replace HT := Aside0.mk (fun (c : Nat) (v : Value) h => cell_keep (by repeat (first | exact Below.refl _ _ | refine below_alloc ?_ _ | refine pw_below_drewN ?_ _ | refine below_drew1 ?_)) hb (HT.out c v h))
    obtain ⟨Ao, co, ev, hC, hL⟩ := hv
    subst ev
    have Ho := Aside0.mk hC
    have HLo := Aside0.mk hL
    clear hC hL
    clear hb
    go_wp2_with (first | (go_at_call 28; refine stop_ ?_) | (go_at_call 29; refine stop_ ?_) | (go_at_call 23; refine stop_ ?_) | (go_at_call 22; refine stop_ ?_) | (go_at_call 20; refine stop_ ?_))
    repeat (go_quiet (fail); try (go_wp2_with (first | (go_at_call 28; refine stop_ ?_) | (go_at_call 29; refine stop_ ?_) | (go_at_call 23; refine stop_ ?_) | (go_at_call 22; refine stop_ ?_) | (go_at_call 20; refine stop_ ?_))))
    go_ret
    exact ⟨by first | rfl | (simp; done) | (simp [*]; done), below_step HW.out (by repeat (first | exact Below.refl _ _ | refine below_alloc ?_ _ | refine pw_below_drewN ?_ _ | refine below_drew1 ?_))⟩
  | none =>
    obtain ⟨hsa, hsb⟩ := right2_none.1 hr
    have hr' : right2 b a = none := right2_none.2 ⟨hsb, hsa⟩
    obtain ⟨hla, hca, hta⟩ := sortedR_iff.1 hsa
    obtain ⟨hlb, hcb, htb⟩ := sortedR_iff.1 hsb
    have hls := union_lengths hta htb
    have hcom := unionR_comm b a
    have h1 := part_lengths a b
    have h2 := part_lengths b a
    have L1 : Aside0 (bothR a b false = (partR a b false, none)) := ⟨by unfold bothR; rw [hr]⟩
    have L2 : Aside0 (bothR b a false = (partR b a false, none)) := ⟨by unfold bothR; rw [hr']⟩
    have B1 : Aside0 (bothR a b true = (partR a b true, none)) := ⟨by unfold bothR; rw [hr]⟩
    by_cases hu : (unionR a b).length > 200
    · -- more than may be
      have J1 : Aside0 (joinR a b = ([], some 4)) := ⟨by unfold joinR; rw [hr]; simp only; rw [if_pos hu]⟩
      have J2 : Aside0 (joinR b a = ([], some 4)) := ⟨by unfold joinR; rw [hr']; simp only; rw [hcom, if_pos hu]⟩
      rw [hls] at hu
      clear hr hr' hls hcom hta htb hca hcb hsa hsb
      generalize partR a b false = lf at *
      generalize partR b a false = mf at *
      generalize partR a b true = of at *
      have hw1 : IntKind.i64.wrap ((lf.length : Int) + (mf.length : Int)) = (lf.length : Int) + (mf.length : Int) := i64_wrap_id _ (by omega) (by omega)
      have hw2 : IntKind.i64.wrap ((lf.length : Int) + (mf.length : Int) + (of.length : Int)) = (lf.length : Int) + (mf.length : Int) + (of.length : Int) := i64_wrap_id _ (by omega) (by omega)
      have hgt : (lf.length : Int) + (mf.length : Int) + (of.length : Int) > 200 := by omega
      clear h1 h2 hu hla hlb
      refine ⟨?_⟩
      refine Calls.mono (join_err J1.out Aa Ab ca cb _ (Kd.C_below Ha.out (by repeat (first | exact Below.refl _ _ | refine below_alloc ?_ _ | refine pw_below_drewN ?_ _ | refine below_drew1 ?_))) HLa.out (Kd.C_below Hb.out (by repeat (first | exact Below.refl _ _ | refine below_alloc ?_ _ | refine pw_below_drewN ?_ _ | refine below_drew1 ?_))) HLb.out) ?_
      rintro e w' ⟨v, rfl, hv, hb⟩
      replace Ha := Aside0.mk (Kd.C_below (Kd.C_below Ha.out (by repeat (first | exact Below.refl _ _ | refine below_alloc ?_ _ | refine pw_below_drewN ?_ _ | refine below_drew1 ?_))) hb)
      replace Hb := Aside0.mk (Kd.C_below (Kd.C_below Hb.out (by repeat (first | exact Below.refl _ _ | refine below_alloc ?_ _ | refine pw_below_drewN ?_ _ | refine below_drew1 ?_))) hb)
      replace HW := Aside0.mk (below_step (below_step HW.out (by repeat (first | exact Below.refl _ _ | refine below_alloc ?_ _ | refine pw_below_drewN ?_ _ | refine below_drew1 ?_))) hb)
      replace HT := Aside0.mk (fun (c : Nat) (v : Value) h => cell_keep (by repeat (first | exact Below.refl _ _ | refine below_alloc ?_ _ | refine pw_below_drewN ?_ _ | refine below_drew1 ?_)) hb (HT.out c v h))
      obtain ⟨Aj, cj, ev, hC, hL⟩ := hv
      subst ev
      have Hj := Aside0.mk hC
      have HLj := Aside0.mk hL
      clear hC hL
      clear hb
      go_wp2_with (first | (go_at_call 28; refine stop_ ?_) | (go_at_call 29; refine stop_ ?_) | (go_at_call 23; refine stop_ ?_) | (go_at_call 22; refine stop_ ?_) | (go_at_call 20; refine stop_ ?_))
      repeat (go_quiet (fail); try (go_wp2_with (first | (go_at_call 28; refine stop_ ?_) | (go_at_call 29; refine stop_ ?_) | (go_at_call 23; refine stop_ ?_) | (go_at_call 22; refine stop_ ?_) | (go_at_call 20; refine stop_ ?_))))
      refine ⟨?_⟩
      refine Calls.mono (join_err J2.out Ab Aa cb ca _ (Kd.C_below Hb.out (by repeat (first | exact Below.refl _ _ | refine below_alloc ?_ _ | refine pw_below_drewN ?_ _ | refine below_drew1 ?_))) HLb.out (Kd.C_below Ha.out (by repeat (first | exact Below.refl _ _ | refine below_alloc ?_ _ | refine pw_below_drewN ?_ _ | refine below_drew1 ?_))) HLa.out) ?_
      rintro e w' ⟨v, rfl, hv, hb⟩
      replace Ha := Aside0.mk (Kd.C_below (Kd.C_below Ha.out (by repeat (first | exact Below.refl _ _ | refine below_alloc ?_ _ | refine pw_below_drewN ?_ _ | refine below_drew1 ?_))) hb)
      replace Hb := Aside0.mk (Kd.C_below (Kd.C_below Hb.out (by repeat (first | exact Below.refl _ _ | refine below_alloc ?_ _ | refine pw_below_drewN ?_ _ | refine below_drew1 ?_))) hb)
      replace Hj := Aside0.mk (Kd.C_below (Kd.C_below Hj.out (by repeat (first | exact Below.refl _ _ | refine below_alloc ?_ _ | refine pw_below_drewN ?_ _ | refine below_drew1 ?_))) hb)
      replace HW := Aside0.mk (below_step (below_step HW.out (by repeat (first | exact Below.refl _ _ | refine below_alloc ?_ _ | refine pw_below_drewN ?_ _ | refine below_drew1 ?_))) hb)
      replace HT := Aside0.mk (fun (c : Nat) (v : Value) h => cell_keep (by repeat (first | exact Below.refl _ _ | refine below_alloc ?_ _ | refine pw_below_drewN ?_ _ | refine below_drew1 ?_)) hb (HT.out c v h))
      obtain ⟨At, ct, ev, hC, hL⟩ := hv
      subst ev
      have Ht := Aside0.mk hC
      have HLt := Aside0.mk hL
      clear hC hL
      clear hb
      go_wp2_with (first | (go_at_call 28; refine stop_ ?_) | (go_at_call 29; refine stop_ ?_) | (go_at_call 23; refine stop_ ?_) | (go_at_call 22; refine stop_ ?_) | (go_at_call 20; refine stop_ ?_))
      repeat (go_quiet (fail); try (go_wp2_with (first | (go_at_call 28; refine stop_ ?_) | (go_at_call 29; refine stop_ ?_) | (go_at_call 23; refine stop_ ?_) | (go_at_call 22; refine stop_ ?_) | (go_at_call 20; refine stop_ ?_))))
      refine ⟨?_⟩
      refine Calls.mono (less_ok L1.out Aa Ab ca cb _ (Kd.C_below Ha.out (by repeat (first | exact Below.refl _ _ | refine below_alloc ?_ _ | refine pw_below_drewN ?_ _ | refine below_drew1 ?_))) HLa.out (Kd.C_below Hb.out (by repeat (first | exact Below.refl _ _ | refine below_alloc ?_ _ | refine pw_below_drewN ?_ _ | refine below_drew1 ?_))) HLb.out) ?_
      rintro e w' ⟨v, rfl, hv, hb⟩
      replace Ha := Aside0.mk (Kd.C_below (Kd.C_below Ha.out (by repeat (first | exact Below.refl _ _ | refine below_alloc ?_ _ | refine pw_below_drewN ?_ _ | refine below_drew1 ?_))) hb)
      replace Hb := Aside0.mk (Kd.C_below (Kd.C_below Hb.out (by repeat (first | exact Below.refl _ _ | refine below_alloc ?_ _ | refine pw_below_drewN ?_ _ | refine below_drew1 ?_))) hb)
      replace Hj := Aside0.mk (Kd.C_below (Kd.C_below Hj.out (by repeat (first | exact Below.refl _ _ | refine below_alloc ?_ _ | refine pw_below_drewN ?_ _ | refine below_drew1 ?_))) hb)
      replace Ht := Aside0.mk (Kd.C_below (Kd.C_below Ht.out (by repeat (first | exact Below.refl _ _ | refine below_alloc ?_ _ | refine pw_below_drewN ?_ _ | refine below_drew1 ?_))) hb)
      replace HW := Aside0.mk (below_step (below_step HW.out (by repeat (first | exact Below.refl _ _ | refine below_alloc ?_ _ | refine pw_below_drewN ?_ _ | refine below_drew1 ?_))) hb)
      replace HT := Aside0.mk (fun (c : Nat) (v : Value) h => cell_keep (by repeat (first | exact Below.refl _ _ | refine below_alloc ?_ _ | refine pw_below_drewN ?_ _ | refine below_drew1 ?_)) hb (HT.out c v h))
      obtain ⟨Al, cl, ev, hC, hL⟩ := hv
      subst ev
      have Hl := Aside0.mk hC
      have HLl := Aside0.mk hL
      clear hC hL
      clear hb
      go_wp2_with (first | (go_at_call 28; refine stop_ ?_) | (go_at_call 29; refine stop_ ?_) | (go_at_call 23; refine stop_ ?_) | (go_at_call 22; refine stop_ ?_) | (go_at_call 20; refine stop_ ?_))
      repeat (go_quiet (fail); try (go_wp2_with (first | (go_at_call 28; refine stop_ ?_) | (go_at_call 29; refine stop_ ?_) | (go_at_call 23; refine stop_ ?_) | (go_at_call 22; refine stop_ ?_) | (go_at_call 20; refine stop_ ?_))))
      refine ⟨?_⟩
      refine Calls.mono (less_ok L2.out Ab Aa cb ca _ (Kd.C_below Hb.out (by repeat (first | exact Below.refl _ _ | refine below_alloc ?_ _ | refine pw_below_drewN ?_ _ | refine below_drew1 ?_))) HLb.out (Kd.C_below Ha.out (by repeat (first | exact Below.refl _ _ | refine below_alloc ?_ _ | refine pw_below_drewN ?_ _ | refine below_drew1 ?_))) HLa.out) ?_
      rintro e w' ⟨v, rfl, hv, hb⟩
      replace Ha := Aside0.mk (Kd.C_below (Kd.C_below Ha.out (by repeat (first | exact Below.refl _ _ | refine below_alloc ?_ _ | refine pw_below_drewN ?_ _ | refine below_drew1 ?_))) hb)
      replace Hb := Aside0.mk (Kd.C_below (Kd.C_below Hb.out (by repeat (first | exact Below.refl _ _ | refine below_alloc ?_ _ | refine pw_below_drewN ?_ _ | refine below_drew1 ?_))) hb)
      replace Hj := Aside0.mk (Kd.C_below (Kd.C_below Hj.out (by repeat (first | exact Below.refl _ _ | refine below_alloc ?_ _ | refine pw_below_drewN ?_ _ | refine below_drew1 ?_))) hb)
      replace Ht := Aside0.mk (Kd.C_below (Kd.C_below Ht.out (by repeat (first | exact Below.refl _ _ | refine below_alloc ?_ _ | refine pw_below_drewN ?_ _ | refine below_drew1 ?_))) hb)
      replace Hl := Aside0.mk (Kd.C_below (Kd.C_below Hl.out (by repeat (first | exact Below.refl _ _ | refine below_alloc ?_ _ | refine pw_below_drewN ?_ _ | refine below_drew1 ?_))) hb)
      replace HW := Aside0.mk (below_step (below_step HW.out (by repeat (first | exact Below.refl _ _ | refine below_alloc ?_ _ | refine pw_below_drewN ?_ _ | refine below_drew1 ?_))) hb)
      replace HT := Aside0.mk (fun (c : Nat) (v : Value) h => cell_keep (by repeat (first | exact Below.refl _ _ | refine below_alloc ?_ _ | refine pw_below_drewN ?_ _ | refine below_drew1 ?_)) hb (HT.out c v h))
      obtain ⟨Am, cm, ev, hC, hL⟩ := hv
      subst ev
      have Hm := Aside0.mk hC
      have HLm := Aside0.mk hL
      clear hC hL
      clear hb
      go_wp2_with (first | (go_at_call 28; refine stop_ ?_) | (go_at_call 29; refine stop_ ?_) | (go_at_call 23; refine stop_ ?_) | (go_at_call 22; refine stop_ ?_) | (go_at_call 20; refine stop_ ?_))
      repeat (go_quiet (fail); try (go_wp2_with (first | (go_at_call 28; refine stop_ ?_) | (go_at_call 29; refine stop_ ?_) | (go_at_call 23; refine stop_ ?_) | (go_at_call 22; refine stop_ ?_) | (go_at_call 20; refine stop_ ?_))))
      refine ⟨?_⟩
      refine Calls.mono (both_ok B1.out Aa Ab ca cb _ (Kd.C_below Ha.out (by repeat (first | exact Below.refl _ _ | refine below_alloc ?_ _ | refine pw_below_drewN ?_ _ | refine below_drew1 ?_))) HLa.out (Kd.C_below Hb.out (by repeat (first | exact Below.refl _ _ | refine below_alloc ?_ _ | refine pw_below_drewN ?_ _ | refine below_drew1 ?_))) HLb.out) ?_
      rintro e w' ⟨v, rfl, hv, hb⟩
      replace Ha := Aside0.mk (Kd.C_below (Kd.C_below Ha.out (by repeat (first | exact Below.refl _ _ | refine below_alloc ?_ _ | refine pw_below_drewN ?_ _ | refine below_drew1 ?_))) hb)
      replace Hb := Aside0.mk (Kd.C_below (Kd.C_below Hb.out (by repeat (first | exact Below.refl _ _ | refine below_alloc ?_ _ | refine pw_below_drewN ?_ _ | refine below_drew1 ?_))) hb)
      replace Hj := Aside0.mk (Kd.C_below (Kd.C_below Hj.out (by repeat (first | exact Below.refl _ _ | refine below_alloc ?_ _ | refine pw_below_drewN ?_ _ | refine below_drew1 ?_))) hb)
      replace Ht := Aside0.mk (Kd.C_below (Kd.C_below Ht.out (by repeat (first | exact Below.refl _ _ | refine below_alloc ?_ _ | refine pw_below_drewN ?_ _ | refine below_drew1 ?_))) hb)
      replace Hl := Aside0.mk (Kd.C_below (Kd.C_below Hl.out (by repeat (first | exact Below.refl _ _ | refine below_alloc ?_ _ | refine pw_below_drewN ?_ _ | refine below_drew1 ?_))) hb)
      replace Hm := Aside0.mk (Kd.C_below (Kd.C_below Hm.out (by repeat (first | exact Below.refl _ _ | refine below_alloc ?_ _ | refine pw_below_drewN ?_ _ | refine below_drew1 ?_))) hb)
      replace HW := Aside0.mk (below_step (below_step HW.out (by repeat (first | exact Below.refl _ _ | refine below_alloc ?_ _ | refine pw_below_drewN ?_ _ | refine below_drew1 ?_))) hb)
      replace HT := Aside0.mk (fun (c : Nat) (v : Value) h => cell_keep (by repeat (first | exact Below.refl _ _ | refine below_alloc ?_ _ | refine pw_below_drewN ?_ _ | refine below_drew1 ?_)) hb (HT.out c v h))
      obtain ⟨Ao, co, ev, hC, hL⟩ := hv
      subst ev
      have Ho := Aside0.mk hC
      have HLo := Aside0.mk hL
      clear hC hL
      clear hb
      go_wp2_with (first | (go_at_call 28; refine stop_ ?_) | (go_at_call 29; refine stop_ ?_) | (go_at_call 23; refine stop_ ?_) | (go_at_call 22; refine stop_ ?_) | (go_at_call 20; refine stop_ ?_))
      repeat (go_quiet (fail); try (go_wp2_with (first | (go_at_call 28; refine stop_ ?_) | (go_at_call 29; refine stop_ ?_) | (go_at_call 23; refine stop_ ?_) | (go_at_call 22; refine stop_ ?_) | (go_at_call 20; refine stop_ ?_))))
      go_ret
      exact ⟨by first | rfl | (simp; done) | (simp [*]; done), below_step HW.out (by repeat (first | exact Below.refl _ _ | refine below_alloc ?_ _ | refine pw_below_drewN ?_ _ | refine below_drew1 ?_))⟩
    · -- all may be
      have J1 : Aside0 (joinR a b = (unionR a b, none)) := ⟨by unfold joinR; rw [hr]; simp only; rw [if_neg hu]⟩
      have J2 : Aside0 (joinR b a = (unionR a b, none)) := ⟨by unfold joinR; rw [hr']; simp only; rw [hcom, if_neg hu]⟩
      have hsu := sorted_unionR hsa hsb (by omega)
      have hsl := sorted_partR (b := b) (is := false) hsa
      have hsm := sorted_partR (b := a) (is := false) hsb
      have hso := sorted_partR (b := b) (is := true) hsa
      have P1 : Aside0 (joinR (partR a b false) (partR a b true) = (a, none)) := ⟨by unfold joinR; rw [right2_none.2 ⟨hsl, hso⟩]; simp only; rw [union_parts hta, if_neg (by omega)]⟩
      have Q1 : Aside0 (joinR a (partR b a false) = (unionR a b, none)) := ⟨by unfold joinR; rw [right2_none.2 ⟨hsa, hsm⟩]; simp only; rw [union_more, if_neg (by omega)]⟩
      have hin := in_union (a := a) (b := b) (x := t)
      have hib := in_both (a := a) (b := b) (x := t)
      have HU : Aside0 (sortedR (unionR a b) = none) := ⟨hsu⟩
      have HO : Aside0 (sortedR (partR a b true) = none) := ⟨hso⟩
      have HIN := Aside0.mk hin
      have HIB := Aside0.mk hib
      have HSA := Aside0.mk hsa
      have HSB := Aside0.mk hsb
      clear hr hr' hcom hta htb hca hcb hsa hsb hsu hsl hsm hso hin hib
      generalize partR a b false = lf at *
      generalize partR b a false = mf at *
      generalize partR a b true = of at *
      generalize unionR a b = u at *
      have hw1 : IntKind.i64.wrap ((lf.length : Int) + (mf.length : Int)) = (lf.length : Int) + (mf.length : Int) := i64_wrap_id _ (by omega) (by omega)
      have hw2 : IntKind.i64.wrap ((lf.length : Int) + (mf.length : Int) + (of.length : Int)) = (lf.length : Int) + (mf.length : Int) + (of.length : Int) := i64_wrap_id _ (by omega) (by omega)
      have hne : ((u.length : Int) != (lf.length : Int) + (mf.length : Int) + (of.length : Int)) = false := by rw [bne_eq_false_iff_eq]; omega
      clear h1 h2 hu hla hlb hls
      refine ⟨?_⟩
      refine Calls.mono (join_ok J1.out Aa Ab ca cb _ (Kd.C_below Ha.out (by repeat (first | exact Below.refl _ _ | refine below_alloc ?_ _ | refine pw_below_drewN ?_ _ | refine below_drew1 ?_))) HLa.out (Kd.C_below Hb.out (by repeat (first | exact Below.refl _ _ | refine below_alloc ?_ _ | refine pw_below_drewN ?_ _ | refine below_drew1 ?_))) HLb.out) ?_
      rintro e w' ⟨v, rfl, hv, hb⟩
      replace Ha := Aside0.mk (Kd.C_below (Kd.C_below Ha.out (by repeat (first | exact Below.refl _ _ | refine below_alloc ?_ _ | refine pw_below_drewN ?_ _ | refine below_drew1 ?_))) hb)
      replace Hb := Aside0.mk (Kd.C_below (Kd.C_below Hb.out (by repeat (first | exact Below.refl _ _ | refine below_alloc ?_ _ | refine pw_below_drewN ?_ _ | refine below_drew1 ?_))) hb)
      replace HW := Aside0.mk (below_step (below_step HW.out (by repeat (first | exact Below.refl _ _ | refine below_alloc ?_ _ | refine pw_below_drewN ?_ _ | refine below_drew1 ?_))) hb)
      replace HT := Aside0.mk (fun (c : Nat) (v : Value) h => cell_keep (by repeat (first | exact Below.refl _ _ | refine below_alloc ?_ _ | refine pw_below_drewN ?_ _ | refine below_drew1 ?_)) hb (HT.out c v h))
      obtain ⟨Aj, cj, ev, hC, hL⟩ := hv
      subst ev
      have Hj := Aside0.mk hC
      have HLj := Aside0.mk hL
      clear hC hL
      clear hb
      go_wp2_with (first | (go_at_call 28; refine stop_ ?_) | (go_at_call 29; refine stop_ ?_) | (go_at_call 23; refine stop_ ?_) | (go_at_call 22; refine stop_ ?_) | (go_at_call 20; refine stop_ ?_))
      repeat (go_quiet (fail); try (go_wp2_with (first | (go_at_call 28; refine stop_ ?_) | (go_at_call 29; refine stop_ ?_) | (go_at_call 23; refine stop_ ?_) | (go_at_call 22; refine stop_ ?_) | (go_at_call 20; refine stop_ ?_))))
      refine ⟨?_⟩
      refine Calls.mono (join_ok J2.out Ab Aa cb ca _ (Kd.C_below Hb.out (by repeat (first | exact Below.refl _ _ | refine below_alloc ?_ _ | refine pw_below_drewN ?_ _ | refine below_drew1 ?_))) HLb.out (Kd.C_below Ha.out (by repeat (first | exact Below.refl _ _ | refine below_alloc ?_ _ | refine pw_below_drewN ?_ _ | refine below_drew1 ?_))) HLa.out) ?_
      rintro e w' ⟨v, rfl, hv, hb⟩
      replace Ha := Aside0.mk (Kd.C_below (Kd.C_below Ha.out (by repeat (first | exact Below.refl _ _ | refine below_alloc ?_ _ | refine pw_below_drewN ?_ _ | refine below_drew1 ?_))) hb)
      replace Hb := Aside0.mk (Kd.C_below (Kd.C_below Hb.out (by repeat (first | exact Below.refl _ _ | refine below_alloc ?_ _ | refine pw_below_drewN ?_ _ | refine below_drew1 ?_))) hb)
      replace Hj := Aside0.mk (Kd.C_below (Kd.C_below Hj.out (by repeat (first | exact Below.refl _ _ | refine below_alloc ?_ _ | refine pw_below_drewN ?_ _ | refine below_drew1 ?_))) hb)
      replace HW := Aside0.mk (below_step (below_step HW.out (by repeat (first | exact Below.refl _ _ | refine below_alloc ?_ _ | refine pw_below_drewN ?_ _ | refine below_drew1 ?_))) hb)
      replace HT := Aside0.mk (fun (c : Nat) (v : Value) h => cell_keep (by repeat (first | exact Below.refl _ _ | refine below_alloc ?_ _ | refine pw_below_drewN ?_ _ | refine below_drew1 ?_)) hb (HT.out c v h))
      obtain ⟨At, ct, ev, hC, hL⟩ := hv
      subst ev
      have Ht := Aside0.mk hC
      have HLt := Aside0.mk hL
      clear hC hL
      clear hb
      go_wp2_with (first | (go_at_call 28; refine stop_ ?_) | (go_at_call 29; refine stop_ ?_) | (go_at_call 23; refine stop_ ?_) | (go_at_call 22; refine stop_ ?_) | (go_at_call 20; refine stop_ ?_))
      repeat (go_quiet (fail); try (go_wp2_with (first | (go_at_call 28; refine stop_ ?_) | (go_at_call 29; refine stop_ ?_) | (go_at_call 23; refine stop_ ?_) | (go_at_call 22; refine stop_ ?_) | (go_at_call 20; refine stop_ ?_))))
      refine ⟨?_⟩
      refine Calls.mono (less_ok L1.out Aa Ab ca cb _ (Kd.C_below Ha.out (by repeat (first | exact Below.refl _ _ | refine below_alloc ?_ _ | refine pw_below_drewN ?_ _ | refine below_drew1 ?_))) HLa.out (Kd.C_below Hb.out (by repeat (first | exact Below.refl _ _ | refine below_alloc ?_ _ | refine pw_below_drewN ?_ _ | refine below_drew1 ?_))) HLb.out) ?_
      rintro e w' ⟨v, rfl, hv, hb⟩
      replace Ha := Aside0.mk (Kd.C_below (Kd.C_below Ha.out (by repeat (first | exact Below.refl _ _ | refine below_alloc ?_ _ | refine pw_below_drewN ?_ _ | refine below_drew1 ?_))) hb)
      replace Hb := Aside0.mk (Kd.C_below (Kd.C_below Hb.out (by repeat (first | exact Below.refl _ _ | refine below_alloc ?_ _ | refine pw_below_drewN ?_ _ | refine below_drew1 ?_))) hb)
      replace Hj := Aside0.mk (Kd.C_below (Kd.C_below Hj.out (by repeat (first | exact Below.refl _ _ | refine below_alloc ?_ _ | refine pw_below_drewN ?_ _ | refine below_drew1 ?_))) hb)
      replace Ht := Aside0.mk (Kd.C_below (Kd.C_below Ht.out (by repeat (first | exact Below.refl _ _ | refine below_alloc ?_ _ | refine pw_below_drewN ?_ _ | refine below_drew1 ?_))) hb)
      replace HW := Aside0.mk (below_step (below_step HW.out (by repeat (first | exact Below.refl _ _ | refine below_alloc ?_ _ | refine pw_below_drewN ?_ _ | refine below_drew1 ?_))) hb)
      replace HT := Aside0.mk (fun (c : Nat) (v : Value) h => cell_keep (by repeat (first | exact Below.refl _ _ | refine below_alloc ?_ _ | refine pw_below_drewN ?_ _ | refine below_drew1 ?_)) hb (HT.out c v h))
      obtain ⟨Al, cl, ev, hC, hL⟩ := hv
      subst ev
      have Hl := Aside0.mk hC
      have HLl := Aside0.mk hL
      clear hC hL
      clear hb
      go_wp2_with (first | (go_at_call 28; refine stop_ ?_) | (go_at_call 29; refine stop_ ?_) | (go_at_call 23; refine stop_ ?_) | (go_at_call 22; refine stop_ ?_) | (go_at_call 20; refine stop_ ?_))
      repeat (go_quiet (fail); try (go_wp2_with (first | (go_at_call 28; refine stop_ ?_) | (go_at_call 29; refine stop_ ?_) | (go_at_call 23; refine stop_ ?_) | (go_at_call 22; refine stop_ ?_) | (go_at_call 20; refine stop_ ?_))))
      refine ⟨?_⟩
      refine Calls.mono (less_ok L2.out Ab Aa cb ca _ (Kd.C_below Hb.out (by repeat (first | exact Below.refl _ _ | refine below_alloc ?_ _ | refine pw_below_drewN ?_ _ | refine below_drew1 ?_))) HLb.out (Kd.C_below Ha.out (by repeat (first | exact Below.refl _ _ | refine below_alloc ?_ _ | refine pw_below_drewN ?_ _ | refine below_drew1 ?_))) HLa.out) ?_
      rintro e w' ⟨v, rfl, hv, hb⟩
      replace Ha := Aside0.mk (Kd.C_below (Kd.C_below Ha.out (by repeat (first | exact Below.refl _ _ | refine below_alloc ?_ _ | refine pw_below_drewN ?_ _ | refine below_drew1 ?_))) hb)
      replace Hb := Aside0.mk (Kd.C_below (Kd.C_below Hb.out (by repeat (first | exact Below.refl _ _ | refine below_alloc ?_ _ | refine pw_below_drewN ?_ _ | refine below_drew1 ?_))) hb)
      replace Hj := Aside0.mk (Kd.C_below (Kd.C_below Hj.out (by repeat (first | exact Below.refl _ _ | refine below_alloc ?_ _ | refine pw_below_drewN ?_ _ | refine below_drew1 ?_))) hb)
      replace Ht := Aside0.mk (Kd.C_below (Kd.C_below Ht.out (by repeat (first | exact Below.refl _ _ | refine below_alloc ?_ _ | refine pw_below_drewN ?_ _ | refine below_drew1 ?_))) hb)
      replace Hl := Aside0.mk (Kd.C_below (Kd.C_below Hl.out (by repeat (first | exact Below.refl _ _ | refine below_alloc ?_ _ | refine pw_below_drewN ?_ _ | refine below_drew1 ?_))) hb)
      replace HW := Aside0.mk (below_step (below_step HW.out (by repeat (first | exact Below.refl _ _ | refine below_alloc ?_ _ | refine pw_below_drewN ?_ _ | refine below_drew1 ?_))) hb)
      replace HT := Aside0.mk (fun (c : Nat) (v : Value) h => cell_keep (by repeat (first | exact Below.refl _ _ | refine below_alloc ?_ _ | refine pw_below_drewN ?_ _ | refine below_drew1 ?_)) hb (HT.out c v h))
      obtain ⟨Am, cm, ev, hC, hL⟩ := hv
      subst ev
      have Hm := Aside0.mk hC
      have HLm := Aside0.mk hL
      clear hC hL
      clear hb
      go_wp2_with (first | (go_at_call 28; refine stop_ ?_) | (go_at_call 29; refine stop_ ?_) | (go_at_call 23; refine stop_ ?_) | (go_at_call 22; refine stop_ ?_) | (go_at_call 20; refine stop_ ?_))
      repeat (go_quiet (fail); try (go_wp2_with (first | (go_at_call 28; refine stop_ ?_) | (go_at_call 29; refine stop_ ?_) | (go_at_call 23; refine stop_ ?_) | (go_at_call 22; refine stop_ ?_) | (go_at_call 20; refine stop_ ?_))))
      refine ⟨?_⟩
      refine Calls.mono (both_ok B1.out Aa Ab ca cb _ (Kd.C_below Ha.out (by repeat (first | exact Below.refl _ _ | refine below_alloc ?_ _ | refine pw_below_drewN ?_ _ | refine below_drew1 ?_))) HLa.out (Kd.C_below Hb.out (by repeat (first | exact Below.refl _ _ | refine below_alloc ?_ _ | refine pw_below_drewN ?_ _ | refine below_drew1 ?_))) HLb.out) ?_
      rintro e w' ⟨v, rfl, hv, hb⟩
      replace Ha := Aside0.mk (Kd.C_below (Kd.C_below Ha.out (by repeat (first | exact Below.refl _ _ | refine below_alloc ?_ _ | refine pw_below_drewN ?_ _ | refine below_drew1 ?_))) hb)
      replace Hb := Aside0.mk (Kd.C_below (Kd.C_below Hb.out (by repeat (first | exact Below.refl _ _ | refine below_alloc ?_ _ | refine pw_below_drewN ?_ _ | refine below_drew1 ?_))) hb)
      replace Hj := Aside0.mk (Kd.C_below (Kd.C_below Hj.out (by repeat (first | exact Below.refl _ _ | refine below_alloc ?_ _ | refine pw_below_drewN ?_ _ | refine below_drew1 ?_))) hb)
      replace Ht := Aside0.mk (Kd.C_below (Kd.C_below Ht.out (by repeat (first | exact Below.refl _ _ | refine below_alloc ?_ _ | refine pw_below_drewN ?_ _ | refine below_drew1 ?_))) hb)
      replace Hl := Aside0.mk (Kd.C_below (Kd.C_below Hl.out (by repeat (first | exact Below.refl _ _ | refine below_alloc ?_ _ | refine pw_below_drewN ?_ _ | refine below_drew1 ?_))) hb)
      replace Hm := Aside0.mk (Kd.C_below (Kd.C_below Hm.out (by repeat (first | exact Below.refl _ _ | refine below_alloc ?_ _ | refine pw_below_drewN ?_ _ | refine below_drew1 ?_))) hb)
      replace HW := Aside0.mk (below_step (below_step HW.out (by repeat (first | exact Below.refl _ _ | refine below_alloc ?_ _ | refine pw_below_drewN ?_ _ | refine below_drew1 ?_))) hb)
      replace HT := Aside0.mk (fun (c : Nat) (v : Value) h => cell_keep (by repeat (first | exact Below.refl _ _ | refine below_alloc ?_ _ | refine pw_below_drewN ?_ _ | refine below_drew1 ?_)) hb (HT.out c v h))
      obtain ⟨Ao, co, ev, hC, hL⟩ := hv
      subst ev
      have Ho := Aside0.mk hC
      have HLo := Aside0.mk hL
      clear hC hL
      clear hb
      go_wp2_with (first | (go_at_call 28; refine stop_ ?_) | (go_at_call 29; refine stop_ ?_) | (go_at_call 23; refine stop_ ?_) | (go_at_call 22; refine stop_ ?_) | (go_at_call 20; refine stop_ ?_))
      repeat (go_quiet (fail); try (go_wp2_with (first | (go_at_call 28; refine stop_ ?_) | (go_at_call 29; refine stop_ ?_) | (go_at_call 23; refine stop_ ?_) | (go_at_call 22; refine stop_ ?_) | (go_at_call 20; refine stop_ ?_))))
      refine ⟨?_⟩
      refine Calls.mono (same_true rfl Aj At cj ct _ (Kd.C_below Hj.out (by repeat (first | exact Below.refl _ _ | refine below_alloc ?_ _ | refine pw_below_drewN ?_ _ | refine below_drew1 ?_))) (Kd.C_below Ht.out (by repeat (first | exact Below.refl _ _ | refine below_alloc ?_ _ | refine pw_below_drewN ?_ _ | refine below_drew1 ?_)))) ?_
      rintro e w' ⟨rfl, hb⟩
      replace Ha := Aside0.mk (Kd.C_below (Kd.C_below Ha.out (by repeat (first | exact Below.refl _ _ | refine below_alloc ?_ _ | refine pw_below_drewN ?_ _ | refine below_drew1 ?_))) hb)
      replace Hb := Aside0.mk (Kd.C_below (Kd.C_below Hb.out (by repeat (first | exact Below.refl _ _ | refine below_alloc ?_ _ | refine pw_below_drewN ?_ _ | refine below_drew1 ?_))) hb)
      replace Hj := Aside0.mk (Kd.C_below (Kd.C_below Hj.out (by repeat (first | exact Below.refl _ _ | refine below_alloc ?_ _ | refine pw_below_drewN ?_ _ | refine below_drew1 ?_))) hb)
      replace Ht := Aside0.mk (Kd.C_below (Kd.C_below Ht.out (by repeat (first | exact Below.refl _ _ | refine below_alloc ?_ _ | refine pw_below_drewN ?_ _ | refine below_drew1 ?_))) hb)
      replace Hl := Aside0.mk (Kd.C_below (Kd.C_below Hl.out (by repeat (first | exact Below.refl _ _ | refine below_alloc ?_ _ | refine pw_below_drewN ?_ _ | refine below_drew1 ?_))) hb)
      replace Hm := Aside0.mk (Kd.C_below (Kd.C_below Hm.out (by repeat (first | exact Below.refl _ _ | refine below_alloc ?_ _ | refine pw_below_drewN ?_ _ | refine below_drew1 ?_))) hb)
      replace Ho := Aside0.mk (Kd.C_below (Kd.C_below Ho.out (by repeat (first | exact Below.refl _ _ | refine below_alloc ?_ _ | refine pw_below_drewN ?_ _ | refine below_drew1 ?_))) hb)
      replace HW := Aside0.mk (below_step (below_step HW.out (by repeat (first | exact Below.refl _ _ | refine below_alloc ?_ _ | refine pw_below_drewN ?_ _ | refine below_drew1 ?_))) hb)
      replace HT := Aside0.mk (fun (c : Nat) (v : Value) h => cell_keep (by repeat (first | exact Below.refl _ _ | refine below_alloc ?_ _ | refine pw_below_drewN ?_ _ | refine below_drew1 ?_)) hb (HT.out c v h))
      clear hb
      go_wp2_with (first | (go_at_call 28; refine stop_ ?_) | (go_at_call 29; refine stop_ ?_) | (go_at_call 23; refine stop_ ?_) | (go_at_call 22; refine stop_ ?_) | (go_at_call 20; refine stop_ ?_))
      repeat (go_quiet (fail); try (go_wp2_with (first | (go_at_call 28; refine stop_ ?_) | (go_at_call 29; refine stop_ ?_) | (go_at_call 23; refine stop_ ?_) | (go_at_call 22; refine stop_ ?_) | (go_at_call 20; refine stop_ ?_))))
      refine ⟨?_⟩
      refine Calls.mono (join_ok P1.out Al Ao cl co _ (Kd.C_below Hl.out (by repeat (first | exact Below.refl _ _ | refine below_alloc ?_ _ | refine pw_below_drewN ?_ _ | refine below_drew1 ?_))) HLl.out (Kd.C_below Ho.out (by repeat (first | exact Below.refl _ _ | refine below_alloc ?_ _ | refine pw_below_drewN ?_ _ | refine below_drew1 ?_))) HLo.out) ?_
      rintro e w' ⟨v, rfl, hv, hb⟩
      replace Ha := Aside0.mk (Kd.C_below (Kd.C_below Ha.out (by repeat (first | exact Below.refl _ _ | refine below_alloc ?_ _ | refine pw_below_drewN ?_ _ | refine below_drew1 ?_))) hb)
      replace Hb := Aside0.mk (Kd.C_below (Kd.C_below Hb.out (by repeat (first | exact Below.refl _ _ | refine below_alloc ?_ _ | refine pw_below_drewN ?_ _ | refine below_drew1 ?_))) hb)
      replace Hj := Aside0.mk (Kd.C_below (Kd.C_below Hj.out (by repeat (first | exact Below.refl _ _ | refine below_alloc ?_ _ | refine pw_below_drewN ?_ _ | refine below_drew1 ?_))) hb)
      replace Ht := Aside0.mk (Kd.C_below (Kd.C_below Ht.out (by repeat (first | exact Below.refl _ _ | refine below_alloc ?_ _ | refine pw_below_drewN ?_ _ | refine below_drew1 ?_))) hb)
      replace Hl := Aside0.mk (Kd.C_below (Kd.C_below Hl.out (by repeat (first | exact Below.refl _ _ | refine below_alloc ?_ _ | refine pw_below_drewN ?_ _ | refine below_drew1 ?_))) hb)
      replace Hm := Aside0.mk (Kd.C_below (Kd.C_below Hm.out (by repeat (first | exact Below.refl _ _ | refine below_alloc ?_ _ | refine pw_below_drewN ?_ _ | refine below_drew1 ?_))) hb)
      replace Ho := Aside0.mk (Kd.C_below (Kd.C_below Ho.out (by repeat (first | exact Below.refl _ _ | refine below_alloc ?_ _ | refine pw_below_drewN ?_ _ | refine below_drew1 ?_))) hb)
      replace HW := Aside0.mk (below_step (below_step HW.out (by repeat (first | exact Below.refl _ _ | refine below_alloc ?_ _ | refine pw_below_drewN ?_ _ | refine below_drew1 ?_))) hb)
      replace HT := Aside0.mk (fun (c : Nat) (v : Value) h => cell_keep (by repeat (first | exact Below.refl _ _ | refine below_alloc ?_ _ | refine pw_below_drewN ?_ _ | refine below_drew1 ?_)) hb (HT.out c v h))
      obtain ⟨Ap, cp, ev, hC, hL⟩ := hv
      subst ev
      have Hp := Aside0.mk hC
      have HLp := Aside0.mk hL
      clear hC hL
      clear hb
      go_wp2_with (first | (go_at_call 28; refine stop_ ?_) | (go_at_call 29; refine stop_ ?_) | (go_at_call 23; refine stop_ ?_) | (go_at_call 22; refine stop_ ?_) | (go_at_call 20; refine stop_ ?_))
      repeat (go_quiet (fail); try (go_wp2_with (first | (go_at_call 28; refine stop_ ?_) | (go_at_call 29; refine stop_ ?_) | (go_at_call 23; refine stop_ ?_) | (go_at_call 22; refine stop_ ?_) | (go_at_call 20; refine stop_ ?_))))
      refine ⟨?_⟩
      refine Calls.mono (join_ok Q1.out Ap Am cp cm _ (Kd.C_below Hp.out (by repeat (first | exact Below.refl _ _ | refine below_alloc ?_ _ | refine pw_below_drewN ?_ _ | refine below_drew1 ?_))) HLp.out (Kd.C_below Hm.out (by repeat (first | exact Below.refl _ _ | refine below_alloc ?_ _ | refine pw_below_drewN ?_ _ | refine below_drew1 ?_))) HLm.out) ?_
      rintro e w' ⟨v, rfl, hv, hb⟩
      replace Ha := Aside0.mk (Kd.C_below (Kd.C_below Ha.out (by repeat (first | exact Below.refl _ _ | refine below_alloc ?_ _ | refine pw_below_drewN ?_ _ | refine below_drew1 ?_))) hb)
      replace Hb := Aside0.mk (Kd.C_below (Kd.C_below Hb.out (by repeat (first | exact Below.refl _ _ | refine below_alloc ?_ _ | refine pw_below_drewN ?_ _ | refine below_drew1 ?_))) hb)
      replace Hj := Aside0.mk (Kd.C_below (Kd.C_below Hj.out (by repeat (first | exact Below.refl _ _ | refine below_alloc ?_ _ | refine pw_below_drewN ?_ _ | refine below_drew1 ?_))) hb)
      replace Ht := Aside0.mk (Kd.C_below (Kd.C_below Ht.out (by repeat (first | exact Below.refl _ _ | refine below_alloc ?_ _ | refine pw_below_drewN ?_ _ | refine below_drew1 ?_))) hb)
      replace Hl := Aside0.mk (Kd.C_below (Kd.C_below Hl.out (by repeat (first | exact Below.refl _ _ | refine below_alloc ?_ _ | refine pw_below_drewN ?_ _ | refine below_drew1 ?_))) hb)
      replace Hm := Aside0.mk (Kd.C_below (Kd.C_below Hm.out (by repeat (first | exact Below.refl _ _ | refine below_alloc ?_ _ | refine pw_below_drewN ?_ _ | refine below_drew1 ?_))) hb)
      replace Ho := Aside0.mk (Kd.C_below (Kd.C_below Ho.out (by repeat (first | exact Below.refl _ _ | refine below_alloc ?_ _ | refine pw_below_drewN ?_ _ | refine below_drew1 ?_))) hb)
      replace Hp := Aside0.mk (Kd.C_below (Kd.C_below Hp.out (by repeat (first | exact Below.refl _ _ | refine below_alloc ?_ _ | refine pw_below_drewN ?_ _ | refine below_drew1 ?_))) hb)
      replace HW := Aside0.mk (below_step (below_step HW.out (by repeat (first | exact Below.refl _ _ | refine below_alloc ?_ _ | refine pw_below_drewN ?_ _ | refine below_drew1 ?_))) hb)
      replace HT := Aside0.mk (fun (c : Nat) (v : Value) h => cell_keep (by repeat (first | exact Below.refl _ _ | refine below_alloc ?_ _ | refine pw_below_drewN ?_ _ | refine below_drew1 ?_)) hb (HT.out c v h))
      obtain ⟨Aq, cq, ev, hC, hL⟩ := hv
      subst ev
      have Hq := Aside0.mk hC
      have HLq := Aside0.mk hL
      clear hC hL
      clear hb
      go_wp2_with (first | (go_at_call 28; refine stop_ ?_) | (go_at_call 29; refine stop_ ?_) | (go_at_call 23; refine stop_ ?_) | (go_at_call 22; refine stop_ ?_) | (go_at_call 20; refine stop_ ?_))
      repeat (go_quiet (fail); try (go_wp2_with (first | (go_at_call 28; refine stop_ ?_) | (go_at_call 29; refine stop_ ?_) | (go_at_call 23; refine stop_ ?_) | (go_at_call 22; refine stop_ ?_) | (go_at_call 20; refine stop_ ?_))))
      refine ⟨?_⟩
      refine Calls.mono (same_true rfl Ap Aa cp ca _ (Kd.C_below Hp.out (by repeat (first | exact Below.refl _ _ | refine below_alloc ?_ _ | refine pw_below_drewN ?_ _ | refine below_drew1 ?_))) (Kd.C_below Ha.out (by repeat (first | exact Below.refl _ _ | refine below_alloc ?_ _ | refine pw_below_drewN ?_ _ | refine below_drew1 ?_)))) ?_
      rintro e w' ⟨rfl, hb⟩
      replace Ha := Aside0.mk (Kd.C_below (Kd.C_below Ha.out (by repeat (first | exact Below.refl _ _ | refine below_alloc ?_ _ | refine pw_below_drewN ?_ _ | refine below_drew1 ?_))) hb)
      replace Hb := Aside0.mk (Kd.C_below (Kd.C_below Hb.out (by repeat (first | exact Below.refl _ _ | refine below_alloc ?_ _ | refine pw_below_drewN ?_ _ | refine below_drew1 ?_))) hb)
      replace Hj := Aside0.mk (Kd.C_below (Kd.C_below Hj.out (by repeat (first | exact Below.refl _ _ | refine below_alloc ?_ _ | refine pw_below_drewN ?_ _ | refine below_drew1 ?_))) hb)
      replace Ht := Aside0.mk (Kd.C_below (Kd.C_below Ht.out (by repeat (first | exact Below.refl _ _ | refine below_alloc ?_ _ | refine pw_below_drewN ?_ _ | refine below_drew1 ?_))) hb)
      replace Hl := Aside0.mk (Kd.C_below (Kd.C_below Hl.out (by repeat (first | exact Below.refl _ _ | refine below_alloc ?_ _ | refine pw_below_drewN ?_ _ | refine below_drew1 ?_))) hb)
      replace Hm := Aside0.mk (Kd.C_below (Kd.C_below Hm.out (by repeat (first | exact Below.refl _ _ | refine below_alloc ?_ _ | refine pw_below_drewN ?_ _ | refine below_drew1 ?_))) hb)
      replace Ho := Aside0.mk (Kd.C_below (Kd.C_below Ho.out (by repeat (first | exact Below.refl _ _ | refine below_alloc ?_ _ | refine pw_below_drewN ?_ _ | refine below_drew1 ?_))) hb)
      replace Hp := Aside0.mk (Kd.C_below (Kd.C_below Hp.out (by repeat (first | exact Below.refl _ _ | refine below_alloc ?_ _ | refine pw_below_drewN ?_ _ | refine below_drew1 ?_))) hb)
      replace Hq := Aside0.mk (Kd.C_below (Kd.C_below Hq.out (by repeat (first | exact Below.refl _ _ | refine below_alloc ?_ _ | refine pw_below_drewN ?_ _ | refine below_drew1 ?_))) hb)
      replace HW := Aside0.mk (below_step (below_step HW.out (by repeat (first | exact Below.refl _ _ | refine below_alloc ?_ _ | refine pw_below_drewN ?_ _ | refine below_drew1 ?_))) hb)
      replace HT := Aside0.mk (fun (c : Nat) (v : Value) h => cell_keep (by repeat (first | exact Below.refl _ _ | refine below_alloc ?_ _ | refine pw_below_drewN ?_ _ | refine below_drew1 ?_)) hb (HT.out c v h))
      clear hb
      go_wp2_with (first | (go_at_call 28; refine stop_ ?_) | (go_at_call 29; refine stop_ ?_) | (go_at_call 23; refine stop_ ?_) | (go_at_call 22; refine stop_ ?_) | (go_at_call 20; refine stop_ ?_))
      repeat (go_quiet (fail); try (go_wp2_with (first | (go_at_call 28; refine stop_ ?_) | (go_at_call 29; refine stop_ ?_) | (go_at_call 23; refine stop_ ?_) | (go_at_call 22; refine stop_ ?_) | (go_at_call 20; refine stop_ ?_))))
      refine ⟨?_⟩
      refine Calls.mono (same_true rfl Aq Aj cq cj _ (Kd.C_below Hq.out (by repeat (first | exact Below.refl _ _ | refine below_alloc ?_ _ | refine pw_below_drewN ?_ _ | refine below_drew1 ?_))) (Kd.C_below Hj.out (by repeat (first | exact Below.refl _ _ | refine below_alloc ?_ _ | refine pw_below_drewN ?_ _ | refine below_drew1 ?_)))) ?_
      rintro e w' ⟨rfl, hb⟩
      replace Ha := Aside0.mk (Kd.C_below (Kd.C_below Ha.out (by repeat (first | exact Below.refl _ _ | refine below_alloc ?_ _ | refine pw_below_drewN ?_ _ | refine below_drew1 ?_))) hb)
      replace Hb := Aside0.mk (Kd.C_below (Kd.C_below Hb.out (by repeat (first | exact Below.refl _ _ | refine below_alloc ?_ _ | refine pw_below_drewN ?_ _ | refine below_drew1 ?_))) hb)
      replace Hj := Aside0.mk (Kd.C_below (Kd.C_below Hj.out (by repeat (first | exact Below.refl _ _ | refine below_alloc ?_ _ | refine pw_below_drewN ?_ _ | refine below_drew1 ?_))) hb)
      replace Ht := Aside0.mk (Kd.C_below (Kd.C_below Ht.out (by repeat (first | exact Below.refl _ _ | refine below_alloc ?_ _ | refine pw_below_drewN ?_ _ | refine below_drew1 ?_))) hb)
      replace Hl := Aside0.mk (Kd.C_below (Kd.C_below Hl.out (by repeat (first | exact Below.refl _ _ | refine below_alloc ?_ _ | refine pw_below_drewN ?_ _ | refine below_drew1 ?_))) hb)
      replace Hm := Aside0.mk (Kd.C_below (Kd.C_below Hm.out (by repeat (first | exact Below.refl _ _ | refine below_alloc ?_ _ | refine pw_below_drewN ?_ _ | refine below_drew1 ?_))) hb)
      replace Ho := Aside0.mk (Kd.C_below (Kd.C_below Ho.out (by repeat (first | exact Below.refl _ _ | refine below_alloc ?_ _ | refine pw_below_drewN ?_ _ | refine below_drew1 ?_))) hb)
      replace Hp := Aside0.mk (Kd.C_below (Kd.C_below Hp.out (by repeat (first | exact Below.refl _ _ | refine below_alloc ?_ _ | refine pw_below_drewN ?_ _ | refine below_drew1 ?_))) hb)
      replace Hq := Aside0.mk (Kd.C_below (Kd.C_below Hq.out (by repeat (first | exact Below.refl _ _ | refine below_alloc ?_ _ | refine pw_below_drewN ?_ _ | refine below_drew1 ?_))) hb)
      replace HW := Aside0.mk (below_step (below_step HW.out (by repeat (first | exact Below.refl _ _ | refine below_alloc ?_ _ | refine pw_below_drewN ?_ _ | refine below_drew1 ?_))) hb)
      replace HT := Aside0.mk (fun (c : Nat) (v : Value) h => cell_keep (by repeat (first | exact Below.refl _ _ | refine below_alloc ?_ _ | refine pw_below_drewN ?_ _ | refine below_drew1 ?_)) hb (HT.out c v h))
      have t0 := HT.out 0 (.int .i64 t.f0.f0) rfl
      have t1 := HT.out 1 (.string t.f0.f1) rfl
      have t2 := HT.out 2 (.string t.f0.f2) rfl
      have t3 := HT.out 3 (.int .i64 t.f1.f0) rfl
      have t4 := HT.out 4 (.string t.f1.f1) rfl
      have t5 := HT.out 5 (.string t.f1.f2) rfl
      have t6 := HT.out 6 (.int .i64 t.f2.f0) rfl
      have t7 := HT.out 7 (.string t.f2.f1) rfl
      have t8 := HT.out 8 (.string t.f2.f2) rfl
      clear hb
      obtain ⟨ct, hct⟩ : ∃ ct, chkR t = ct := ⟨_, rfl⟩
      cases ct with
      | some n =>
        have K1 : Aside0 (hasR a t = (false, some n)) := ⟨by unfold hasR; rw [HSA.out, hct]⟩
        have K2 : Aside0 (hasR b t = (false, some n)) := ⟨by unfold hasR; rw [HSB.out, hct]⟩
        have K3 : Aside0 (hasR u t = (false, some n)) := ⟨by unfold hasR; rw [HU.out, hct]⟩
        have K4 : Aside0 (hasR of t = (false, some n)) := ⟨by unfold hasR; rw [HO.out, hct]⟩
        clear hct
        go_wp2_with (first | (go_at_call 28; refine stop_ ?_) | (go_at_call 29; refine stop_ ?_) | (go_at_call 23; refine stop_ ?_) | (go_at_call 22; refine stop_ ?_) | (go_at_call 20; refine stop_ ?_))
        repeat (go_quiet (fail); try (go_wp2_with (first | (go_at_call 28; refine stop_ ?_) | (go_at_call 29; refine stop_ ?_) | (go_at_call 23; refine stop_ ?_) | (go_at_call 22; refine stop_ ?_) | (go_at_call 20; refine stop_ ?_))))
        refine ⟨?_⟩
        refine Calls.mono (has_err K1.out Aa ca _ (Kd.C_below Ha.out (by repeat (first | exact Below.refl _ _ | refine below_alloc ?_ _ | refine pw_below_drewN ?_ _ | refine below_drew1 ?_))) HLa.out) ?_
        rintro e w' ⟨rfl, hb⟩
        replace Ha := Aside0.mk (Kd.C_below (Kd.C_below Ha.out (by repeat (first | exact Below.refl _ _ | refine below_alloc ?_ _ | refine pw_below_drewN ?_ _ | refine below_drew1 ?_))) hb)
        replace Hb := Aside0.mk (Kd.C_below (Kd.C_below Hb.out (by repeat (first | exact Below.refl _ _ | refine below_alloc ?_ _ | refine pw_below_drewN ?_ _ | refine below_drew1 ?_))) hb)
        replace Hj := Aside0.mk (Kd.C_below (Kd.C_below Hj.out (by repeat (first | exact Below.refl _ _ | refine below_alloc ?_ _ | refine pw_below_drewN ?_ _ | refine below_drew1 ?_))) hb)
        replace Ht := Aside0.mk (Kd.C_below (Kd.C_below Ht.out (by repeat (first | exact Below.refl _ _ | refine below_alloc ?_ _ | refine pw_below_drewN ?_ _ | refine below_drew1 ?_))) hb)
        replace Hl := Aside0.mk (Kd.C_below (Kd.C_below Hl.out (by repeat (first | exact Below.refl _ _ | refine below_alloc ?_ _ | refine pw_below_drewN ?_ _ | refine below_drew1 ?_))) hb)
        replace Hm := Aside0.mk (Kd.C_below (Kd.C_below Hm.out (by repeat (first | exact Below.refl _ _ | refine below_alloc ?_ _ | refine pw_below_drewN ?_ _ | refine below_drew1 ?_))) hb)
        replace Ho := Aside0.mk (Kd.C_below (Kd.C_below Ho.out (by repeat (first | exact Below.refl _ _ | refine below_alloc ?_ _ | refine pw_below_drewN ?_ _ | refine below_drew1 ?_))) hb)
        replace Hp := Aside0.mk (Kd.C_below (Kd.C_below Hp.out (by repeat (first | exact Below.refl _ _ | refine below_alloc ?_ _ | refine pw_below_drewN ?_ _ | refine below_drew1 ?_))) hb)
        replace Hq := Aside0.mk (Kd.C_below (Kd.C_below Hq.out (by repeat (first | exact Below.refl _ _ | refine below_alloc ?_ _ | refine pw_below_drewN ?_ _ | refine below_drew1 ?_))) hb)
        replace HW := Aside0.mk (below_step (below_step HW.out (by repeat (first | exact Below.refl _ _ | refine below_alloc ?_ _ | refine pw_below_drewN ?_ _ | refine below_drew1 ?_))) hb)
        clear t0 t1 t2 t3 t4 t5 t6 t7 t8
        replace HT := Aside0.mk (fun (c : Nat) (v : Value) h => cell_keep (by repeat (first | exact Below.refl _ _ | refine below_alloc ?_ _ | refine pw_below_drewN ?_ _ | refine below_drew1 ?_)) hb (HT.out c v h))
        have t0 := HT.out 0 (.int .i64 t.f0.f0) rfl
        have t1 := HT.out 1 (.string t.f0.f1) rfl
        have t2 := HT.out 2 (.string t.f0.f2) rfl
        have t3 := HT.out 3 (.int .i64 t.f1.f0) rfl
        have t4 := HT.out 4 (.string t.f1.f1) rfl
        have t5 := HT.out 5 (.string t.f1.f2) rfl
        have t6 := HT.out 6 (.int .i64 t.f2.f0) rfl
        have t7 := HT.out 7 (.string t.f2.f1) rfl
        have t8 := HT.out 8 (.string t.f2.f2) rfl
        clear hb
        go_wp2_with (first | (go_at_call 28; refine stop_ ?_) | (go_at_call 29; refine stop_ ?_) | (go_at_call 23; refine stop_ ?_) | (go_at_call 22; refine stop_ ?_) | (go_at_call 20; refine stop_ ?_))
        repeat (go_quiet (fail); try (go_wp2_with (first | (go_at_call 28; refine stop_ ?_) | (go_at_call 29; refine stop_ ?_) | (go_at_call 23; refine stop_ ?_) | (go_at_call 22; refine stop_ ?_) | (go_at_call 20; refine stop_ ?_))))
        refine ⟨?_⟩
        refine Calls.mono (has_err K2.out Ab cb _ (Kd.C_below Hb.out (by repeat (first | exact Below.refl _ _ | refine below_alloc ?_ _ | refine pw_below_drewN ?_ _ | refine below_drew1 ?_))) HLb.out) ?_
        rintro e w' ⟨rfl, hb⟩
        replace Ha := Aside0.mk (Kd.C_below (Kd.C_below Ha.out (by repeat (first | exact Below.refl _ _ | refine below_alloc ?_ _ | refine pw_below_drewN ?_ _ | refine below_drew1 ?_))) hb)
        replace Hb := Aside0.mk (Kd.C_below (Kd.C_below Hb.out (by repeat (first | exact Below.refl _ _ | refine below_alloc ?_ _ | refine pw_below_drewN ?_ _ | refine below_drew1 ?_))) hb)
        replace Hj := Aside0.mk (Kd.C_below (Kd.C_below Hj.out (by repeat (first | exact Below.refl _ _ | refine below_alloc ?_ _ | refine pw_below_drewN ?_ _ | refine below_drew1 ?_))) hb)
        replace Ht := Aside0.mk (Kd.C_below (Kd.C_below Ht.out (by repeat (first | exact Below.refl _ _ | refine below_alloc ?_ _ | refine pw_below_drewN ?_ _ | refine below_drew1 ?_))) hb)
        replace Hl := Aside0.mk (Kd.C_below (Kd.C_below Hl.out (by repeat (first | exact Below.refl _ _ | refine below_alloc ?_ _ | refine pw_below_drewN ?_ _ | refine below_drew1 ?_))) hb)
        replace Hm := Aside0.mk (Kd.C_below (Kd.C_below Hm.out (by repeat (first | exact Below.refl _ _ | refine below_alloc ?_ _ | refine pw_below_drewN ?_ _ | refine below_drew1 ?_))) hb)
        replace Ho := Aside0.mk (Kd.C_below (Kd.C_below Ho.out (by repeat (first | exact Below.refl _ _ | refine below_alloc ?_ _ | refine pw_below_drewN ?_ _ | refine below_drew1 ?_))) hb)
        replace Hp := Aside0.mk (Kd.C_below (Kd.C_below Hp.out (by repeat (first | exact Below.refl _ _ | refine below_alloc ?_ _ | refine pw_below_drewN ?_ _ | refine below_drew1 ?_))) hb)
        replace Hq := Aside0.mk (Kd.C_below (Kd.C_below Hq.out (by repeat (first | exact Below.refl _ _ | refine below_alloc ?_ _ | refine pw_below_drewN ?_ _ | refine below_drew1 ?_))) hb)
        replace HW := Aside0.mk (below_step (below_step HW.out (by repeat (first | exact Below.refl _ _ | refine below_alloc ?_ _ | refine pw_below_drewN ?_ _ | refine below_drew1 ?_))) hb)
        clear t0 t1 t2 t3 t4 t5 t6 t7 t8
        replace HT := Aside0.mk (fun (c : Nat) (v : Value) h => cell_keep (by repeat (first | exact Below.refl _ _ | refine below_alloc ?_ _ | refine pw_below_drewN ?_ _ | refine below_drew1 ?_)) hb (HT.out c v h))
        have t0 := HT.out 0 (.int .i64 t.f0.f0) rfl
        have t1 := HT.out 1 (.string t.f0.f1) rfl
        have t2 := HT.out 2 (.string t.f0.f2) rfl
        have t3 := HT.out 3 (.int .i64 t.f1.f0) rfl
        have t4 := HT.out 4 (.string t.f1.f1) rfl
        have t5 := HT.out 5 (.string t.f1.f2) rfl
        have t6 := HT.out 6 (.int .i64 t.f2.f0) rfl
        have t7 := HT.out 7 (.string t.f2.f1) rfl
        have t8 := HT.out 8 (.string t.f2.f2) rfl
        clear hb
        go_wp2_with (first | (go_at_call 28; refine stop_ ?_) | (go_at_call 29; refine stop_ ?_) | (go_at_call 23; refine stop_ ?_) | (go_at_call 22; refine stop_ ?_) | (go_at_call 20; refine stop_ ?_))
        repeat (go_quiet (fail); try (go_wp2_with (first | (go_at_call 28; refine stop_ ?_) | (go_at_call 29; refine stop_ ?_) | (go_at_call 23; refine stop_ ?_) | (go_at_call 22; refine stop_ ?_) | (go_at_call 20; refine stop_ ?_))))
        refine ⟨?_⟩
        refine Calls.mono (has_err K3.out Aj cj _ (Kd.C_below Hj.out (by repeat (first | exact Below.refl _ _ | refine below_alloc ?_ _ | refine pw_below_drewN ?_ _ | refine below_drew1 ?_))) HLj.out) ?_
        rintro e w' ⟨rfl, hb⟩
        replace Ha := Aside0.mk (Kd.C_below (Kd.C_below Ha.out (by repeat (first | exact Below.refl _ _ | refine below_alloc ?_ _ | refine pw_below_drewN ?_ _ | refine below_drew1 ?_))) hb)
        replace Hb := Aside0.mk (Kd.C_below (Kd.C_below Hb.out (by repeat (first | exact Below.refl _ _ | refine below_alloc ?_ _ | refine pw_below_drewN ?_ _ | refine below_drew1 ?_))) hb)
        replace Hj := Aside0.mk (Kd.C_below (Kd.C_below Hj.out (by repeat (first | exact Below.refl _ _ | refine below_alloc ?_ _ | refine pw_below_drewN ?_ _ | refine below_drew1 ?_))) hb)
        replace Ht := Aside0.mk (Kd.C_below (Kd.C_below Ht.out (by repeat (first | exact Below.refl _ _ | refine below_alloc ?_ _ | refine pw_below_drewN ?_ _ | refine below_drew1 ?_))) hb)
        replace Hl := Aside0.mk (Kd.C_below (Kd.C_below Hl.out (by repeat (first | exact Below.refl _ _ | refine below_alloc ?_ _ | refine pw_below_drewN ?_ _ | refine below_drew1 ?_))) hb)
        replace Hm := Aside0.mk (Kd.C_below (Kd.C_below Hm.out (by repeat (first | exact Below.refl _ _ | refine below_alloc ?_ _ | refine pw_below_drewN ?_ _ | refine below_drew1 ?_))) hb)
        replace Ho := Aside0.mk (Kd.C_below (Kd.C_below Ho.out (by repeat (first | exact Below.refl _ _ | refine below_alloc ?_ _ | refine pw_below_drewN ?_ _ | refine below_drew1 ?_))) hb)
        replace Hp := Aside0.mk (Kd.C_below (Kd.C_below Hp.out (by repeat (first | exact Below.refl _ _ | refine below_alloc ?_ _ | refine pw_below_drewN ?_ _ | refine below_drew1 ?_))) hb)
        replace Hq := Aside0.mk (Kd.C_below (Kd.C_below Hq.out (by repeat (first | exact Below.refl _ _ | refine below_alloc ?_ _ | refine pw_below_drewN ?_ _ | refine below_drew1 ?_))) hb)
        replace HW := Aside0.mk (below_step (below_step HW.out (by repeat (first | exact Below.refl _ _ | refine below_alloc ?_ _ | refine pw_below_drewN ?_ _ | refine below_drew1 ?_))) hb)
        clear t0 t1 t2 t3 t4 t5 t6 t7 t8
        replace HT := Aside0.mk (fun (c : Nat) (v : Value) h => cell_keep (by repeat (first | exact Below.refl _ _ | refine below_alloc ?_ _ | refine pw_below_drewN ?_ _ | refine below_drew1 ?_)) hb (HT.out c v h))
        have t0 := HT.out 0 (.int .i64 t.f0.f0) rfl
        have t1 := HT.out 1 (.string t.f0.f1) rfl
        have t2 := HT.out 2 (.string t.f0.f2) rfl
        have t3 := HT.out 3 (.int .i64 t.f1.f0) rfl
        have t4 := HT.out 4 (.string t.f1.f1) rfl
        have t5 := HT.out 5 (.string t.f1.f2) rfl
        have t6 := HT.out 6 (.int .i64 t.f2.f0) rfl
        have t7 := HT.out 7 (.string t.f2.f1) rfl
        have t8 := HT.out 8 (.string t.f2.f2) rfl
        clear hb
        go_wp2_with (first | (go_at_call 28; refine stop_ ?_) | (go_at_call 29; refine stop_ ?_) | (go_at_call 23; refine stop_ ?_) | (go_at_call 22; refine stop_ ?_) | (go_at_call 20; refine stop_ ?_))
        repeat (go_quiet (fail); try (go_wp2_with (first | (go_at_call 28; refine stop_ ?_) | (go_at_call 29; refine stop_ ?_) | (go_at_call 23; refine stop_ ?_) | (go_at_call 22; refine stop_ ?_) | (go_at_call 20; refine stop_ ?_))))
        refine ⟨?_⟩
        refine Calls.mono (has_err K4.out Ao co _ (Kd.C_below Ho.out (by repeat (first | exact Below.refl _ _ | refine below_alloc ?_ _ | refine pw_below_drewN ?_ _ | refine below_drew1 ?_))) HLo.out) ?_
        rintro e w' ⟨rfl, hb⟩
        replace Ha := Aside0.mk (Kd.C_below (Kd.C_below Ha.out (by repeat (first | exact Below.refl _ _ | refine below_alloc ?_ _ | refine pw_below_drewN ?_ _ | refine below_drew1 ?_))) hb)
        replace Hb := Aside0.mk (Kd.C_below (Kd.C_below Hb.out (by repeat (first | exact Below.refl _ _ | refine below_alloc ?_ _ | refine pw_below_drewN ?_ _ | refine below_drew1 ?_))) hb)
        replace Hj := Aside0.mk (Kd.C_below (Kd.C_below Hj.out (by repeat (first | exact Below.refl _ _ | refine below_alloc ?_ _ | refine pw_below_drewN ?_ _ | refine below_drew1 ?_))) hb)
        replace Ht := Aside0.mk (Kd.C_below (Kd.C_below Ht.out (by repeat (first | exact Below.refl _ _ | refine below_alloc ?_ _ | refine pw_below_drewN ?_ _ | refine below_drew1 ?_))) hb)
        replace Hl := Aside0.mk (Kd.C_below (Kd.C_below Hl.out (by repeat (first | exact Below.refl _ _ | refine below_alloc ?_ _ | refine pw_below_drewN ?_ _ | refine below_drew1 ?_))) hb)
        replace Hm := Aside0.mk (Kd.C_below (Kd.C_below Hm.out (by repeat (first | exact Below.refl _ _ | refine below_alloc ?_ _ | refine pw_below_drewN ?_ _ | refine below_drew1 ?_))) hb)
        replace Ho := Aside0.mk (Kd.C_below (Kd.C_below Ho.out (by repeat (first | exact Below.refl _ _ | refine below_alloc ?_ _ | refine pw_below_drewN ?_ _ | refine below_drew1 ?_))) hb)
        replace Hp := Aside0.mk (Kd.C_below (Kd.C_below Hp.out (by repeat (first | exact Below.refl _ _ | refine below_alloc ?_ _ | refine pw_below_drewN ?_ _ | refine below_drew1 ?_))) hb)
        replace Hq := Aside0.mk (Kd.C_below (Kd.C_below Hq.out (by repeat (first | exact Below.refl _ _ | refine below_alloc ?_ _ | refine pw_below_drewN ?_ _ | refine below_drew1 ?_))) hb)
        replace HW := Aside0.mk (below_step (below_step HW.out (by repeat (first | exact Below.refl _ _ | refine below_alloc ?_ _ | refine pw_below_drewN ?_ _ | refine below_drew1 ?_))) hb)
        clear t0 t1 t2 t3 t4 t5 t6 t7 t8
        replace HT := Aside0.mk (fun (c : Nat) (v : Value) h => cell_keep (by repeat (first | exact Below.refl _ _ | refine below_alloc ?_ _ | refine pw_below_drewN ?_ _ | refine below_drew1 ?_)) hb (HT.out c v h))
        have t0 := HT.out 0 (.int .i64 t.f0.f0) rfl
        have t1 := HT.out 1 (.string t.f0.f1) rfl
        have t2 := HT.out 2 (.string t.f0.f2) rfl
        have t3 := HT.out 3 (.int .i64 t.f1.f0) rfl
        have t4 := HT.out 4 (.string t.f1.f1) rfl
        have t5 := HT.out 5 (.string t.f1.f2) rfl
        have t6 := HT.out 6 (.int .i64 t.f2.f0) rfl
        have t7 := HT.out 7 (.string t.f2.f1) rfl
        have t8 := HT.out 8 (.string t.f2.f2) rfl
        clear hb
        go_wp2_with (first | (go_at_call 28; refine stop_ ?_) | (go_at_call 29; refine stop_ ?_) | (go_at_call 23; refine stop_ ?_) | (go_at_call 22; refine stop_ ?_) | (go_at_call 20; refine stop_ ?_))
        repeat (go_quiet (fail); try (go_wp2_with (first | (go_at_call 28; refine stop_ ?_) | (go_at_call 29; refine stop_ ?_) | (go_at_call 23; refine stop_ ?_) | (go_at_call 22; refine stop_ ?_) | (go_at_call 20; refine stop_ ?_))))
        go_ret
        exact ⟨by first | rfl | (simp; done) | (simp [*]; done), below_step HW.out (by repeat (first | exact Below.refl _ _ | refine below_alloc ?_ _ | refine pw_below_drewN ?_ _ | refine below_drew1 ?_))⟩
      | none =>
        have K1 : hasR a t = (inR a t, none) := by unfold hasR; rw [HSA.out, hct]
        have K2 : hasR b t = (inR b t, none) := by unfold hasR; rw [HSB.out, hct]
        have K3 : hasR u t = (inR u t, none) := by unfold hasR; rw [HU.out, hct]
        have K4 : hasR of t = (inR of t, none) := by unfold hasR; rw [HO.out, hct]
        rw [HIN.out] at K3
        rw [HIB.out] at K4
        clear hct HIN HIB HU HO
        cases hia : inR a t <;> cases hib : inR b t
        ·
          rw [hia] at K1 K3 K4
          rw [hib] at K2 K3 K4
          replace K1 : Aside0 (hasR a t = (false, none)) := ⟨K1⟩
          replace K2 : Aside0 (hasR b t = (false, none)) := ⟨K2⟩
          replace K3 : Aside0 (hasR u t = (false, none)) := ⟨K3⟩
          replace K4 : Aside0 (hasR of t = (false, none)) := ⟨K4⟩
          clear hia hib
          go_wp2_with (first | (go_at_call 28; refine stop_ ?_) | (go_at_call 29; refine stop_ ?_) | (go_at_call 23; refine stop_ ?_) | (go_at_call 22; refine stop_ ?_) | (go_at_call 20; refine stop_ ?_))
          repeat (go_quiet (fail); try (go_wp2_with (first | (go_at_call 28; refine stop_ ?_) | (go_at_call 29; refine stop_ ?_) | (go_at_call 23; refine stop_ ?_) | (go_at_call 22; refine stop_ ?_) | (go_at_call 20; refine stop_ ?_))))
          refine ⟨?_⟩
          refine Calls.mono (has_ok K1.out Aa ca _ (Kd.C_below Ha.out (by repeat (first | exact Below.refl _ _ | refine below_alloc ?_ _ | refine pw_below_drewN ?_ _ | refine below_drew1 ?_))) HLa.out) ?_
          rintro e w' ⟨rfl, hb⟩
          replace Ha := Aside0.mk (Kd.C_below (Kd.C_below Ha.out (by repeat (first | exact Below.refl _ _ | refine below_alloc ?_ _ | refine pw_below_drewN ?_ _ | refine below_drew1 ?_))) hb)
          replace Hb := Aside0.mk (Kd.C_below (Kd.C_below Hb.out (by repeat (first | exact Below.refl _ _ | refine below_alloc ?_ _ | refine pw_below_drewN ?_ _ | refine below_drew1 ?_))) hb)
          replace Hj := Aside0.mk (Kd.C_below (Kd.C_below Hj.out (by repeat (first | exact Below.refl _ _ | refine below_alloc ?_ _ | refine pw_below_drewN ?_ _ | refine below_drew1 ?_))) hb)
          replace Ht := Aside0.mk (Kd.C_below (Kd.C_below Ht.out (by repeat (first | exact Below.refl _ _ | refine below_alloc ?_ _ | refine pw_below_drewN ?_ _ | refine below_drew1 ?_))) hb)
          replace Hl := Aside0.mk (Kd.C_below (Kd.C_below Hl.out (by repeat (first | exact Below.refl _ _ | refine below_alloc ?_ _ | refine pw_below_drewN ?_ _ | refine below_drew1 ?_))) hb)
          replace Hm := Aside0.mk (Kd.C_below (Kd.C_below Hm.out (by repeat (first | exact Below.refl _ _ | refine below_alloc ?_ _ | refine pw_below_drewN ?_ _ | refine below_drew1 ?_))) hb)
          replace Ho := Aside0.mk (Kd.C_below (Kd.C_below Ho.out (by repeat (first | exact Below.refl _ _ | refine below_alloc ?_ _ | refine pw_below_drewN ?_ _ | refine below_drew1 ?_))) hb)
          replace Hp := Aside0.mk (Kd.C_below (Kd.C_below Hp.out (by repeat (first | exact Below.refl _ _ | refine below_alloc ?_ _ | refine pw_below_drewN ?_ _ | refine below_drew1 ?_))) hb)
          replace Hq := Aside0.mk (Kd.C_below (Kd.C_below Hq.out (by repeat (first | exact Below.refl _ _ | refine below_alloc ?_ _ | refine pw_below_drewN ?_ _ | refine below_drew1 ?_))) hb)
          replace HW := Aside0.mk (below_step (below_step HW.out (by repeat (first | exact Below.refl _ _ | refine below_alloc ?_ _ | refine pw_below_drewN ?_ _ | refine below_drew1 ?_))) hb)
          clear t0 t1 t2 t3 t4 t5 t6 t7 t8
          replace HT := Aside0.mk (fun (c : Nat) (v : Value) h => cell_keep (by repeat (first | exact Below.refl _ _ | refine below_alloc ?_ _ | refine pw_below_drewN ?_ _ | refine below_drew1 ?_)) hb (HT.out c v h))
          have t0 := HT.out 0 (.int .i64 t.f0.f0) rfl
          have t1 := HT.out 1 (.string t.f0.f1) rfl
          have t2 := HT.out 2 (.string t.f0.f2) rfl
          have t3 := HT.out 3 (.int .i64 t.f1.f0) rfl
          have t4 := HT.out 4 (.string t.f1.f1) rfl
          have t5 := HT.out 5 (.string t.f1.f2) rfl
          have t6 := HT.out 6 (.int .i64 t.f2.f0) rfl
          have t7 := HT.out 7 (.string t.f2.f1) rfl
          have t8 := HT.out 8 (.string t.f2.f2) rfl
          clear hb
          go_wp2_with (first | (go_at_call 28; refine stop_ ?_) | (go_at_call 29; refine stop_ ?_) | (go_at_call 23; refine stop_ ?_) | (go_at_call 22; refine stop_ ?_) | (go_at_call 20; refine stop_ ?_))
          repeat (go_quiet (fail); try (go_wp2_with (first | (go_at_call 28; refine stop_ ?_) | (go_at_call 29; refine stop_ ?_) | (go_at_call 23; refine stop_ ?_) | (go_at_call 22; refine stop_ ?_) | (go_at_call 20; refine stop_ ?_))))
          refine ⟨?_⟩
          refine Calls.mono (has_ok K2.out Ab cb _ (Kd.C_below Hb.out (by repeat (first | exact Below.refl _ _ | refine below_alloc ?_ _ | refine pw_below_drewN ?_ _ | refine below_drew1 ?_))) HLb.out) ?_
          rintro e w' ⟨rfl, hb⟩
          replace Ha := Aside0.mk (Kd.C_below (Kd.C_below Ha.out (by repeat (first | exact Below.refl _ _ | refine below_alloc ?_ _ | refine pw_below_drewN ?_ _ | refine below_drew1 ?_))) hb)
          replace Hb := Aside0.mk (Kd.C_below (Kd.C_below Hb.out (by repeat (first | exact Below.refl _ _ | refine below_alloc ?_ _ | refine pw_below_drewN ?_ _ | refine below_drew1 ?_))) hb)
          replace Hj := Aside0.mk (Kd.C_below (Kd.C_below Hj.out (by repeat (first | exact Below.refl _ _ | refine below_alloc ?_ _ | refine pw_below_drewN ?_ _ | refine below_drew1 ?_))) hb)
          replace Ht := Aside0.mk (Kd.C_below (Kd.C_below Ht.out (by repeat (first | exact Below.refl _ _ | refine below_alloc ?_ _ | refine pw_below_drewN ?_ _ | refine below_drew1 ?_))) hb)
          replace Hl := Aside0.mk (Kd.C_below (Kd.C_below Hl.out (by repeat (first | exact Below.refl _ _ | refine below_alloc ?_ _ | refine pw_below_drewN ?_ _ | refine below_drew1 ?_))) hb)
          replace Hm := Aside0.mk (Kd.C_below (Kd.C_below Hm.out (by repeat (first | exact Below.refl _ _ | refine below_alloc ?_ _ | refine pw_below_drewN ?_ _ | refine below_drew1 ?_))) hb)
          replace Ho := Aside0.mk (Kd.C_below (Kd.C_below Ho.out (by repeat (first | exact Below.refl _ _ | refine below_alloc ?_ _ | refine pw_below_drewN ?_ _ | refine below_drew1 ?_))) hb)
          replace Hp := Aside0.mk (Kd.C_below (Kd.C_below Hp.out (by repeat (first | exact Below.refl _ _ | refine below_alloc ?_ _ | refine pw_below_drewN ?_ _ | refine below_drew1 ?_))) hb)
          replace Hq := Aside0.mk (Kd.C_below (Kd.C_below Hq.out (by repeat (first | exact Below.refl _ _ | refine below_alloc ?_ _ | refine pw_below_drewN ?_ _ | refine below_drew1 ?_))) hb)
          replace HW := Aside0.mk (below_step (below_step HW.out (by repeat (first | exact Below.refl _ _ | refine below_alloc ?_ _ | refine pw_below_drewN ?_ _ | refine below_drew1 ?_))) hb)
          clear t0 t1 t2 t3 t4 t5 t6 t7 t8
          replace HT := Aside0.mk (fun (c : Nat) (v : Value) h => cell_keep (by repeat (first | exact Below.refl _ _ | refine below_alloc ?_ _ | refine pw_below_drewN ?_ _ | refine below_drew1 ?_)) hb (HT.out c v h))
          have t0 := HT.out 0 (.int .i64 t.f0.f0) rfl
          have t1 := HT.out 1 (.string t.f0.f1) rfl
          have t2 := HT.out 2 (.string t.f0.f2) rfl
          have t3 := HT.out 3 (.int .i64 t.f1.f0) rfl
          have t4 := HT.out 4 (.string t.f1.f1) rfl
          have t5 := HT.out 5 (.string t.f1.f2) rfl
          have t6 := HT.out 6 (.int .i64 t.f2.f0) rfl
          have t7 := HT.out 7 (.string t.f2.f1) rfl
          have t8 := HT.out 8 (.string t.f2.f2) rfl
          clear hb
          go_wp2_with (first | (go_at_call 28; refine stop_ ?_) | (go_at_call 29; refine stop_ ?_) | (go_at_call 23; refine stop_ ?_) | (go_at_call 22; refine stop_ ?_) | (go_at_call 20; refine stop_ ?_))
          repeat (go_quiet (fail); try (go_wp2_with (first | (go_at_call 28; refine stop_ ?_) | (go_at_call 29; refine stop_ ?_) | (go_at_call 23; refine stop_ ?_) | (go_at_call 22; refine stop_ ?_) | (go_at_call 20; refine stop_ ?_))))
          refine ⟨?_⟩
          refine Calls.mono (has_ok K3.out Aj cj _ (Kd.C_below Hj.out (by repeat (first | exact Below.refl _ _ | refine below_alloc ?_ _ | refine pw_below_drewN ?_ _ | refine below_drew1 ?_))) HLj.out) ?_
          rintro e w' ⟨rfl, hb⟩
          replace Ha := Aside0.mk (Kd.C_below (Kd.C_below Ha.out (by repeat (first | exact Below.refl _ _ | refine below_alloc ?_ _ | refine pw_below_drewN ?_ _ | refine below_drew1 ?_))) hb)
          replace Hb := Aside0.mk (Kd.C_below (Kd.C_below Hb.out (by repeat (first | exact Below.refl _ _ | refine below_alloc ?_ _ | refine pw_below_drewN ?_ _ | refine below_drew1 ?_))) hb)
          replace Hj := Aside0.mk (Kd.C_below (Kd.C_below Hj.out (by repeat (first | exact Below.refl _ _ | refine below_alloc ?_ _ | refine pw_below_drewN ?_ _ | refine below_drew1 ?_))) hb)
          replace Ht := Aside0.mk (Kd.C_below (Kd.C_below Ht.out (by repeat (first | exact Below.refl _ _ | refine below_alloc ?_ _ | refine pw_below_drewN ?_ _ | refine below_drew1 ?_))) hb)
          replace Hl := Aside0.mk (Kd.C_below (Kd.C_below Hl.out (by repeat (first | exact Below.refl _ _ | refine below_alloc ?_ _ | refine pw_below_drewN ?_ _ | refine below_drew1 ?_))) hb)
          replace Hm := Aside0.mk (Kd.C_below (Kd.C_below Hm.out (by repeat (first | exact Below.refl _ _ | refine below_alloc ?_ _ | refine pw_below_drewN ?_ _ | refine below_drew1 ?_))) hb)
          replace Ho := Aside0.mk (Kd.C_below (Kd.C_below Ho.out (by repeat (first | exact Below.refl _ _ | refine below_alloc ?_ _ | refine pw_below_drewN ?_ _ | refine below_drew1 ?_))) hb)
          replace Hp := Aside0.mk (Kd.C_below (Kd.C_below Hp.out (by repeat (first | exact Below.refl _ _ | refine below_alloc ?_ _ | refine pw_below_drewN ?_ _ | refine below_drew1 ?_))) hb)
          replace Hq := Aside0.mk (Kd.C_below (Kd.C_below Hq.out (by repeat (first | exact Below.refl _ _ | refine below_alloc ?_ _ | refine pw_below_drewN ?_ _ | refine below_drew1 ?_))) hb)
          replace HW := Aside0.mk (below_step (below_step HW.out (by repeat (first | exact Below.refl _ _ | refine below_alloc ?_ _ | refine pw_below_drewN ?_ _ | refine below_drew1 ?_))) hb)
          clear t0 t1 t2 t3 t4 t5 t6 t7 t8
          replace HT := Aside0.mk (fun (c : Nat) (v : Value) h => cell_keep (by repeat (first | exact Below.refl _ _ | refine below_alloc ?_ _ | refine pw_below_drewN ?_ _ | refine below_drew1 ?_)) hb (HT.out c v h))
          have t0 := HT.out 0 (.int .i64 t.f0.f0) rfl
          have t1 := HT.out 1 (.string t.f0.f1) rfl
          have t2 := HT.out 2 (.string t.f0.f2) rfl
          have t3 := HT.out 3 (.int .i64 t.f1.f0) rfl
          have t4 := HT.out 4 (.string t.f1.f1) rfl
          have t5 := HT.out 5 (.string t.f1.f2) rfl
          have t6 := HT.out 6 (.int .i64 t.f2.f0) rfl
          have t7 := HT.out 7 (.string t.f2.f1) rfl
          have t8 := HT.out 8 (.string t.f2.f2) rfl
          clear hb
          go_wp2_with (first | (go_at_call 28; refine stop_ ?_) | (go_at_call 29; refine stop_ ?_) | (go_at_call 23; refine stop_ ?_) | (go_at_call 22; refine stop_ ?_) | (go_at_call 20; refine stop_ ?_))
          repeat (go_quiet (fail); try (go_wp2_with (first | (go_at_call 28; refine stop_ ?_) | (go_at_call 29; refine stop_ ?_) | (go_at_call 23; refine stop_ ?_) | (go_at_call 22; refine stop_ ?_) | (go_at_call 20; refine stop_ ?_))))
          refine ⟨?_⟩
          refine Calls.mono (has_ok K4.out Ao co _ (Kd.C_below Ho.out (by repeat (first | exact Below.refl _ _ | refine below_alloc ?_ _ | refine pw_below_drewN ?_ _ | refine below_drew1 ?_))) HLo.out) ?_
          rintro e w' ⟨rfl, hb⟩
          replace Ha := Aside0.mk (Kd.C_below (Kd.C_below Ha.out (by repeat (first | exact Below.refl _ _ | refine below_alloc ?_ _ | refine pw_below_drewN ?_ _ | refine below_drew1 ?_))) hb)
          replace Hb := Aside0.mk (Kd.C_below (Kd.C_below Hb.out (by repeat (first | exact Below.refl _ _ | refine below_alloc ?_ _ | refine pw_below_drewN ?_ _ | refine below_drew1 ?_))) hb)
          replace Hj := Aside0.mk (Kd.C_below (Kd.C_below Hj.out (by repeat (first | exact Below.refl _ _ | refine below_alloc ?_ _ | refine pw_below_drewN ?_ _ | refine below_drew1 ?_))) hb)
          replace Ht := Aside0.mk (Kd.C_below (Kd.C_below Ht.out (by repeat (first | exact Below.refl _ _ | refine below_alloc ?_ _ | refine pw_below_drewN ?_ _ | refine below_drew1 ?_))) hb)
          replace Hl := Aside0.mk (Kd.C_below (Kd.C_below Hl.out (by repeat (first | exact Below.refl _ _ | refine below_alloc ?_ _ | refine pw_below_drewN ?_ _ | refine below_drew1 ?_))) hb)
          replace Hm := Aside0.mk (Kd.C_below (Kd.C_below Hm.out (by repeat (first | exact Below.refl _ _ | refine below_alloc ?_ _ | refine pw_below_drewN ?_ _ | refine below_drew1 ?_))) hb)
          replace Ho := Aside0.mk (Kd.C_below (Kd.C_below Ho.out (by repeat (first | exact Below.refl _ _ | refine below_alloc ?_ _ | refine pw_below_drewN ?_ _ | refine below_drew1 ?_))) hb)
          replace Hp := Aside0.mk (Kd.C_below (Kd.C_below Hp.out (by repeat (first | exact Below.refl _ _ | refine below_alloc ?_ _ | refine pw_below_drewN ?_ _ | refine below_drew1 ?_))) hb)
          replace Hq := Aside0.mk (Kd.C_below (Kd.C_below Hq.out (by repeat (first | exact Below.refl _ _ | refine below_alloc ?_ _ | refine pw_below_drewN ?_ _ | refine below_drew1 ?_))) hb)
          replace HW := Aside0.mk (below_step (below_step HW.out (by repeat (first | exact Below.refl _ _ | refine below_alloc ?_ _ | refine pw_below_drewN ?_ _ | refine below_drew1 ?_))) hb)
          clear t0 t1 t2 t3 t4 t5 t6 t7 t8
          replace HT := Aside0.mk (fun (c : Nat) (v : Value) h => cell_keep (by repeat (first | exact Below.refl _ _ | refine below_alloc ?_ _ | refine pw_below_drewN ?_ _ | refine below_drew1 ?_)) hb (HT.out c v h))
          have t0 := HT.out 0 (.int .i64 t.f0.f0) rfl
          have t1 := HT.out 1 (.string t.f0.f1) rfl
          have t2 := HT.out 2 (.string t.f0.f2) rfl
          have t3 := HT.out 3 (.int .i64 t.f1.f0) rfl
          have t4 := HT.out 4 (.string t.f1.f1) rfl
          have t5 := HT.out 5 (.string t.f1.f2) rfl
          have t6 := HT.out 6 (.int .i64 t.f2.f0) rfl
          have t7 := HT.out 7 (.string t.f2.f1) rfl
          have t8 := HT.out 8 (.string t.f2.f2) rfl
          clear hb
          go_wp2_with (first | (go_at_call 28; refine stop_ ?_) | (go_at_call 29; refine stop_ ?_) | (go_at_call 23; refine stop_ ?_) | (go_at_call 22; refine stop_ ?_) | (go_at_call 20; refine stop_ ?_))
          repeat (go_quiet (fail); try (go_wp2_with (first | (go_at_call 28; refine stop_ ?_) | (go_at_call 29; refine stop_ ?_) | (go_at_call 23; refine stop_ ?_) | (go_at_call 22; refine stop_ ?_) | (go_at_call 20; refine stop_ ?_))))
          go_ret
          exact ⟨by first | rfl | (simp; done) | (simp [*]; done), below_step HW.out (by repeat (first | exact Below.refl _ _ | refine below_alloc ?_ _ | refine pw_below_drewN ?_ _ | refine below_drew1 ?_))⟩
        ·
          rw [hia] at K1 K3 K4
          rw [hib] at K2 K3 K4
          replace K1 : Aside0 (hasR a t = (false, none)) := ⟨K1⟩
          replace K2 : Aside0 (hasR b t = (true, none)) := ⟨K2⟩
          replace K3 : Aside0 (hasR u t = (true, none)) := ⟨K3⟩
          replace K4 : Aside0 (hasR of t = (false, none)) := ⟨K4⟩
          clear hia hib
          go_wp2_with (first | (go_at_call 28; refine stop_ ?_) | (go_at_call 29; refine stop_ ?_) | (go_at_call 23; refine stop_ ?_) | (go_at_call 22; refine stop_ ?_) | (go_at_call 20; refine stop_ ?_))
          repeat (go_quiet (fail); try (go_wp2_with (first | (go_at_call 28; refine stop_ ?_) | (go_at_call 29; refine stop_ ?_) | (go_at_call 23; refine stop_ ?_) | (go_at_call 22; refine stop_ ?_) | (go_at_call 20; refine stop_ ?_))))
          refine ⟨?_⟩
          refine Calls.mono (has_ok K1.out Aa ca _ (Kd.C_below Ha.out (by repeat (first | exact Below.refl _ _ | refine below_alloc ?_ _ | refine pw_below_drewN ?_ _ | refine below_drew1 ?_))) HLa.out) ?_
          rintro e w' ⟨rfl, hb⟩
          replace Ha := Aside0.mk (Kd.C_below (Kd.C_below Ha.out (by repeat (first | exact Below.refl _ _ | refine below_alloc ?_ _ | refine pw_below_drewN ?_ _ | refine below_drew1 ?_))) hb)
          replace Hb := Aside0.mk (Kd.C_below (Kd.C_below Hb.out (by repeat (first | exact Below.refl _ _ | refine below_alloc ?_ _ | refine pw_below_drewN ?_ _ | refine below_drew1 ?_))) hb)
          replace Hj := Aside0.mk (Kd.C_below (Kd.C_below Hj.out (by repeat (first | exact Below.refl _ _ | refine below_alloc ?_ _ | refine pw_below_drewN ?_ _ | refine below_drew1 ?_))) hb)
          replace Ht := Aside0.mk (Kd.C_below (Kd.C_below Ht.out (by repeat (first | exact Below.refl _ _ | refine below_alloc ?_ _ | refine pw_below_drewN ?_ _ | refine below_drew1 ?_))) hb)
          replace Hl := Aside0.mk (Kd.C_below (Kd.C_below Hl.out (by repeat (first | exact Below.refl _ _ | refine below_alloc ?_ _ | refine pw_below_drewN ?_ _ | refine below_drew1 ?_))) hb)
          replace Hm := Aside0.mk (Kd.C_below (Kd.C_below Hm.out (by repeat (first | exact Below.refl _ _ | refine below_alloc ?_ _ | refine pw_below_drewN ?_ _ | refine below_drew1 ?_))) hb)
          replace Ho := Aside0.mk (Kd.C_below (Kd.C_below Ho.out (by repeat (first | exact Below.refl _ _ | refine below_alloc ?_ _ | refine pw_below_drewN ?_ _ | refine below_drew1 ?_))) hb)
          replace Hp := Aside0.mk (Kd.C_below (Kd.C_below Hp.out (by repeat (first | exact Below.refl _ _ | refine below_alloc ?_ _ | refine pw_below_drewN ?_ _ | refine below_drew1 ?_))) hb)
          replace Hq := Aside0.mk (Kd.C_below (Kd.C_below Hq.out (by repeat (first | exact Below.refl _ _ | refine below_alloc ?_ _ | refine pw_below_drewN ?_ _ | refine below_drew1 ?_))) hb)
          replace HW := Aside0.mk (below_step (below_step HW.out (by repeat (first | exact Below.refl _ _ | refine below_alloc ?_ _ | refine pw_below_drewN ?_ _ | refine below_drew1 ?_))) hb)
          clear t0 t1 t2 t3 t4 t5 t6 t7 t8
          replace HT := Aside0.mk (fun (c : Nat) (v : Value) h => cell_keep (by repeat (first | exact Below.refl _ _ | refine below_alloc ?_ _ | refine pw_below_drewN ?_ _ | refine below_drew1 ?_)) hb (HT.out c v h))
          have t0 := HT.out 0 (.int .i64 t.f0.f0) rfl
          have t1 := HT.out 1 (.string t.f0.f1) rfl
          have t2 := HT.out 2 (.string t.f0.f2) rfl
          have t3 := HT.out 3 (.int .i64 t.f1.f0) rfl
          have t4 := HT.out 4 (.string t.f1.f1) rfl
          have t5 := HT.out 5 (.string t.f1.f2) rfl
          have t6 := HT.out 6 (.int .i64 t.f2.f0) rfl
          have t7 := HT.out 7 (.string t.f2.f1) rfl
          have t8 := HT.out 8 (.string t.f2.f2) rfl
          clear hb
          go_wp2_with (first | (go_at_call 28; refine stop_ ?_) | (go_at_call 29; refine stop_ ?_) | (go_at_call 23; refine stop_ ?_) | (go_at_call 22; refine stop_ ?_) | (go_at_call 20; refine stop_ ?_))
          repeat (go_quiet (fail); try (go_wp2_with (first | (go_at_call 28; refine stop_ ?_) | (go_at_call 29; refine stop_ ?_) | (go_at_call 23; refine stop_ ?_) | (go_at_call 22; refine stop_ ?_) | (go_at_call 20; refine stop_ ?_))))
          refine ⟨?_⟩
          refine Calls.mono (has_ok K2.out Ab cb _ (Kd.C_below Hb.out (by repeat (first | exact Below.refl _ _ | refine below_alloc ?_ _ | refine pw_below_drewN ?_ _ | refine below_drew1 ?_))) HLb.out) ?_
          rintro e w' ⟨rfl, hb⟩
          replace Ha := Aside0.mk (Kd.C_below (Kd.C_below Ha.out (by repeat (first | exact Below.refl _ _ | refine below_alloc ?_ _ | refine pw_below_drewN ?_ _ | refine below_drew1 ?_))) hb)
          replace Hb := Aside0.mk (Kd.C_below (Kd.C_below Hb.out (by repeat (first | exact Below.refl _ _ | refine below_alloc ?_ _ | refine pw_below_drewN ?_ _ | refine below_drew1 ?_))) hb)
          replace Hj := Aside0.mk (Kd.C_below (Kd.C_below Hj.out (by repeat (first | exact Below.refl _ _ | refine below_alloc ?_ _ | refine pw_below_drewN ?_ _ | refine below_drew1 ?_))) hb)
          replace Ht := Aside0.mk (Kd.C_below (Kd.C_below Ht.out (by repeat (first | exact Below.refl _ _ | refine below_alloc ?_ _ | refine pw_below_drewN ?_ _ | refine below_drew1 ?_))) hb)
          replace Hl := Aside0.mk (Kd.C_below (Kd.C_below Hl.out (by repeat (first | exact Below.refl _ _ | refine below_alloc ?_ _ | refine pw_below_drewN ?_ _ | refine below_drew1 ?_))) hb)
          replace Hm := Aside0.mk (Kd.C_below (Kd.C_below Hm.out (by repeat (first | exact Below.refl _ _ | refine below_alloc ?_ _ | refine pw_below_drewN ?_ _ | refine below_drew1 ?_))) hb)
          replace Ho := Aside0.mk (Kd.C_below (Kd.C_below Ho.out (by repeat (first | exact Below.refl _ _ | refine below_alloc ?_ _ | refine pw_below_drewN ?_ _ | refine below_drew1 ?_))) hb)
          replace Hp := Aside0.mk (Kd.C_below (Kd.C_below Hp.out (by repeat (first | exact Below.refl _ _ | refine below_alloc ?_ _ | refine pw_below_drewN ?_ _ | refine below_drew1 ?_))) hb)
          replace Hq := Aside0.mk (Kd.C_below (Kd.C_below Hq.out (by repeat (first | exact Below.refl _ _ | refine below_alloc ?_ _ | refine pw_below_drewN ?_ _ | refine below_drew1 ?_))) hb)
          replace HW := Aside0.mk (below_step (below_step HW.out (by repeat (first | exact Below.refl _ _ | refine below_alloc ?_ _ | refine pw_below_drewN ?_ _ | refine below_drew1 ?_))) hb)
          clear t0 t1 t2 t3 t4 t5 t6 t7 t8
          replace HT := Aside0.mk (fun (c : Nat) (v : Value) h => cell_keep (by repeat (first | exact Below.refl _ _ | refine below_alloc ?_ _ | refine pw_below_drewN ?_ _ | refine below_drew1 ?_)) hb (HT.out c v h))
          have t0 := HT.out 0 (.int .i64 t.f0.f0) rfl
          have t1 := HT.out 1 (.string t.f0.f1) rfl
          have t2 := HT.out 2 (.string t.f0.f2) rfl
          have t3 := HT.out 3 (.int .i64 t.f1.f0) rfl
          have t4 := HT.out 4 (.string t.f1.f1) rfl
          have t5 := HT.out 5 (.string t.f1.f2) rfl
          have t6 := HT.out 6 (.int .i64 t.f2.f0) rfl
          have t7 := HT.out 7 (.string t.f2.f1) rfl
          have t8 := HT.out 8 (.string t.f2.f2) rfl
          clear hb
          go_wp2_with (first | (go_at_call 28; refine stop_ ?_) | (go_at_call 29; refine stop_ ?_) | (go_at_call 23; refine stop_ ?_) | (go_at_call 22; refine stop_ ?_) | (go_at_call 20; refine stop_ ?_))
          repeat (go_quiet (fail); try (go_wp2_with (first | (go_at_call 28; refine stop_ ?_) | (go_at_call 29; refine stop_ ?_) | (go_at_call 23; refine stop_ ?_) | (go_at_call 22; refine stop_ ?_) | (go_at_call 20; refine stop_ ?_))))
          refine ⟨?_⟩
          refine Calls.mono (has_ok K3.out Aj cj _ (Kd.C_below Hj.out (by repeat (first | exact Below.refl _ _ | refine below_alloc ?_ _ | refine pw_below_drewN ?_ _ | refine below_drew1 ?_))) HLj.out) ?_
          rintro e w' ⟨rfl, hb⟩
          replace Ha := Aside0.mk (Kd.C_below (Kd.C_below Ha.out (by repeat (first | exact Below.refl _ _ | refine below_alloc ?_ _ | refine pw_below_drewN ?_ _ | refine below_drew1 ?_))) hb)
          replace Hb := Aside0.mk (Kd.C_below (Kd.C_below Hb.out (by repeat (first | exact Below.refl _ _ | refine below_alloc ?_ _ | refine pw_below_drewN ?_ _ | refine below_drew1 ?_))) hb)
          replace Hj := Aside0.mk (Kd.C_below (Kd.C_below Hj.out (by repeat (first | exact Below.refl _ _ | refine below_alloc ?_ _ | refine pw_below_drewN ?_ _ | refine below_drew1 ?_))) hb)
          replace Ht := Aside0.mk (Kd.C_below (Kd.C_below Ht.out (by repeat (first | exact Below.refl _ _ | refine below_alloc ?_ _ | refine pw_below_drewN ?_ _ | refine below_drew1 ?_))) hb)
          replace Hl := Aside0.mk (Kd.C_below (Kd.C_below Hl.out (by repeat (first | exact Below.refl _ _ | refine below_alloc ?_ _ | refine pw_below_drewN ?_ _ | refine below_drew1 ?_))) hb)
          replace Hm := Aside0.mk (Kd.C_below (Kd.C_below Hm.out (by repeat (first | exact Below.refl _ _ | refine below_alloc ?_ _ | refine pw_below_drewN ?_ _ | refine below_drew1 ?_))) hb)
          replace Ho := Aside0.mk (Kd.C_below (Kd.C_below Ho.out (by repeat (first | exact Below.refl _ _ | refine below_alloc ?_ _ | refine pw_below_drewN ?_ _ | refine below_drew1 ?_))) hb)
          replace Hp := Aside0.mk (Kd.C_below (Kd.C_below Hp.out (by repeat (first | exact Below.refl _ _ | refine below_alloc ?_ _ | refine pw_below_drewN ?_ _ | refine below_drew1 ?_))) hb)
          replace Hq := Aside0.mk (Kd.C_below (Kd.C_below Hq.out (by repeat (first | exact Below.refl _ _ | refine below_alloc ?_ _ | refine pw_below_drewN ?_ _ | refine below_drew1 ?_))) hb)
          replace HW := Aside0.mk (below_step (below_step HW.out (by repeat (first | exact Below.refl _ _ | refine below_alloc ?_ _ | refine pw_below_drewN ?_ _ | refine below_drew1 ?_))) hb)
          clear t0 t1 t2 t3 t4 t5 t6 t7 t8
          replace HT := Aside0.mk (fun (c : Nat) (v : Value) h => cell_keep (by repeat (first | exact Below.refl _ _ | refine below_alloc ?_ _ | refine pw_below_drewN ?_ _ | refine below_drew1 ?_)) hb (HT.out c v h))
          have t0 := HT.out 0 (.int .i64 t.f0.f0) rfl
          have t1 := HT.out 1 (.string t.f0.f1) rfl
          have t2 := HT.out 2 (.string t.f0.f2) rfl
          have t3 := HT.out 3 (.int .i64 t.f1.f0) rfl
          have t4 := HT.out 4 (.string t.f1.f1) rfl
          have t5 := HT.out 5 (.string t.f1.f2) rfl
          have t6 := HT.out 6 (.int .i64 t.f2.f0) rfl
          have t7 := HT.out 7 (.string t.f2.f1) rfl
          have t8 := HT.out 8 (.string t.f2.f2) rfl
          clear hb
          go_wp2_with (first | (go_at_call 28; refine stop_ ?_) | (go_at_call 29; refine stop_ ?_) | (go_at_call 23; refine stop_ ?_) | (go_at_call 22; refine stop_ ?_) | (go_at_call 20; refine stop_ ?_))
          repeat (go_quiet (fail); try (go_wp2_with (first | (go_at_call 28; refine stop_ ?_) | (go_at_call 29; refine stop_ ?_) | (go_at_call 23; refine stop_ ?_) | (go_at_call 22; refine stop_ ?_) | (go_at_call 20; refine stop_ ?_))))
          refine ⟨?_⟩
          refine Calls.mono (has_ok K4.out Ao co _ (Kd.C_below Ho.out (by repeat (first | exact Below.refl _ _ | refine below_alloc ?_ _ | refine pw_below_drewN ?_ _ | refine below_drew1 ?_))) HLo.out) ?_
          rintro e w' ⟨rfl, hb⟩
          replace Ha := Aside0.mk (Kd.C_below (Kd.C_below Ha.out (by repeat (first | exact Below.refl _ _ | refine below_alloc ?_ _ | refine pw_below_drewN ?_ _ | refine below_drew1 ?_))) hb)
          replace Hb := Aside0.mk (Kd.C_below (Kd.C_below Hb.out (by repeat (first | exact Below.refl _ _ | refine below_alloc ?_ _ | refine pw_below_drewN ?_ _ | refine below_drew1 ?_))) hb)
          replace Hj := Aside0.mk (Kd.C_below (Kd.C_below Hj.out (by repeat (first | exact Below.refl _ _ | refine below_alloc ?_ _ | refine pw_below_drewN ?_ _ | refine below_drew1 ?_))) hb)
          replace Ht := Aside0.mk (Kd.C_below (Kd.C_below Ht.out (by repeat (first | exact Below.refl _ _ | refine below_alloc ?_ _ | refine pw_below_drewN ?_ _ | refine below_drew1 ?_))) hb)
          replace Hl := Aside0.mk (Kd.C_below (Kd.C_below Hl.out (by repeat (first | exact Below.refl _ _ | refine below_alloc ?_ _ | refine pw_below_drewN ?_ _ | refine below_drew1 ?_))) hb)
          replace Hm := Aside0.mk (Kd.C_below (Kd.C_below Hm.out (by repeat (first | exact Below.refl _ _ | refine below_alloc ?_ _ | refine pw_below_drewN ?_ _ | refine below_drew1 ?_))) hb)
          replace Ho := Aside0.mk (Kd.C_below (Kd.C_below Ho.out (by repeat (first | exact Below.refl _ _ | refine below_alloc ?_ _ | refine pw_below_drewN ?_ _ | refine below_drew1 ?_))) hb)
          replace Hp := Aside0.mk (Kd.C_below (Kd.C_below Hp.out (by repeat (first | exact Below.refl _ _ | refine below_alloc ?_ _ | refine pw_below_drewN ?_ _ | refine below_drew1 ?_))) hb)
          replace Hq := Aside0.mk (Kd.C_below (Kd.C_below Hq.out (by repeat (first | exact Below.refl _ _ | refine below_alloc ?_ _ | refine pw_below_drewN ?_ _ | refine below_drew1 ?_))) hb)
          replace HW := Aside0.mk (below_step (below_step HW.out (by repeat (first | exact Below.refl _ _ | refine below_alloc ?_ _ | refine pw_below_drewN ?_ _ | refine below_drew1 ?_))) hb)
          clear t0 t1 t2 t3 t4 t5 t6 t7 t8
          replace HT := Aside0.mk (fun (c : Nat) (v : Value) h => cell_keep (by repeat (first | exact Below.refl _ _ | refine below_alloc ?_ _ | refine pw_below_drewN ?_ _ | refine below_drew1 ?_)) hb (HT.out c v h))
          have t0 := HT.out 0 (.int .i64 t.f0.f0) rfl
          have t1 := HT.out 1 (.string t.f0.f1) rfl
          have t2 := HT.out 2 (.string t.f0.f2) rfl
          have t3 := HT.out 3 (.int .i64 t.f1.f0) rfl
          have t4 := HT.out 4 (.string t.f1.f1) rfl
          have t5 := HT.out 5 (.string t.f1.f2) rfl
          have t6 := HT.out 6 (.int .i64 t.f2.f0) rfl
          have t7 := HT.out 7 (.string t.f2.f1) rfl
          have t8 := HT.out 8 (.string t.f2.f2) rfl
          clear hb
          go_wp2_with (first | (go_at_call 28; refine stop_ ?_) | (go_at_call 29; refine stop_ ?_) | (go_at_call 23; refine stop_ ?_) | (go_at_call 22; refine stop_ ?_) | (go_at_call 20; refine stop_ ?_))
          repeat (go_quiet (fail); try (go_wp2_with (first | (go_at_call 28; refine stop_ ?_) | (go_at_call 29; refine stop_ ?_) | (go_at_call 23; refine stop_ ?_) | (go_at_call 22; refine stop_ ?_) | (go_at_call 20; refine stop_ ?_))))
          go_ret
          exact ⟨by first | rfl | (simp; done) | (simp [*]; done), below_step HW.out (by repeat (first | exact Below.refl _ _ | refine below_alloc ?_ _ | refine pw_below_drewN ?_ _ | refine below_drew1 ?_))⟩
        ·
          rw [hia] at K1 K3 K4
          rw [hib] at K2 K3 K4
          replace K1 : Aside0 (hasR a t = (true, none)) := ⟨K1⟩
          replace K2 : Aside0 (hasR b t = (false, none)) := ⟨K2⟩
          replace K3 : Aside0 (hasR u t = (true, none)) := ⟨K3⟩
          replace K4 : Aside0 (hasR of t = (false, none)) := ⟨K4⟩
          clear hia hib
          go_wp2_with (first | (go_at_call 28; refine stop_ ?_) | (go_at_call 29; refine stop_ ?_) | (go_at_call 23; refine stop_ ?_) | (go_at_call 22; refine stop_ ?_) | (go_at_call 20; refine stop_ ?_))
          repeat (go_quiet (fail); try (go_wp2_with (first | (go_at_call 28; refine stop_ ?_) | (go_at_call 29; refine stop_ ?_) | (go_at_call 23; refine stop_ ?_) | (go_at_call 22; refine stop_ ?_) | (go_at_call 20; refine stop_ ?_))))
          refine ⟨?_⟩
          refine Calls.mono (has_ok K1.out Aa ca _ (Kd.C_below Ha.out (by repeat (first | exact Below.refl _ _ | refine below_alloc ?_ _ | refine pw_below_drewN ?_ _ | refine below_drew1 ?_))) HLa.out) ?_
          rintro e w' ⟨rfl, hb⟩
          replace Ha := Aside0.mk (Kd.C_below (Kd.C_below Ha.out (by repeat (first | exact Below.refl _ _ | refine below_alloc ?_ _ | refine pw_below_drewN ?_ _ | refine below_drew1 ?_))) hb)
          replace Hb := Aside0.mk (Kd.C_below (Kd.C_below Hb.out (by repeat (first | exact Below.refl _ _ | refine below_alloc ?_ _ | refine pw_below_drewN ?_ _ | refine below_drew1 ?_))) hb)
          replace Hj := Aside0.mk (Kd.C_below (Kd.C_below Hj.out (by repeat (first | exact Below.refl _ _ | refine below_alloc ?_ _ | refine pw_below_drewN ?_ _ | refine below_drew1 ?_))) hb)
          replace Ht := Aside0.mk (Kd.C_below (Kd.C_below Ht.out (by repeat (first | exact Below.refl _ _ | refine below_alloc ?_ _ | refine pw_below_drewN ?_ _ | refine below_drew1 ?_))) hb)
          replace Hl := Aside0.mk (Kd.C_below (Kd.C_below Hl.out (by repeat (first | exact Below.refl _ _ | refine below_alloc ?_ _ | refine pw_below_drewN ?_ _ | refine below_drew1 ?_))) hb)
          replace Hm := Aside0.mk (Kd.C_below (Kd.C_below Hm.out (by repeat (first | exact Below.refl _ _ | refine below_alloc ?_ _ | refine pw_below_drewN ?_ _ | refine below_drew1 ?_))) hb)
          replace Ho := Aside0.mk (Kd.C_below (Kd.C_below Ho.out (by repeat (first | exact Below.refl _ _ | refine below_alloc ?_ _ | refine pw_below_drewN ?_ _ | refine below_drew1 ?_))) hb)
          replace Hp := Aside0.mk (Kd.C_below (Kd.C_below Hp.out (by repeat (first | exact Below.refl _ _ | refine below_alloc ?_ _ | refine pw_below_drewN ?_ _ | refine below_drew1 ?_))) hb)
          replace Hq := Aside0.mk (Kd.C_below (Kd.C_below Hq.out (by repeat (first | exact Below.refl _ _ | refine below_alloc ?_ _ | refine pw_below_drewN ?_ _ | refine below_drew1 ?_))) hb)
          replace HW := Aside0.mk (below_step (below_step HW.out (by repeat (first | exact Below.refl _ _ | refine below_alloc ?_ _ | refine pw_below_drewN ?_ _ | refine below_drew1 ?_))) hb)
          clear t0 t1 t2 t3 t4 t5 t6 t7 t8
          replace HT := Aside0.mk (fun (c : Nat) (v : Value) h => cell_keep (by repeat (first | exact Below.refl _ _ | refine below_alloc ?_ _ | refine pw_below_drewN ?_ _ | refine below_drew1 ?_)) hb (HT.out c v h))
          have t0 := HT.out 0 (.int .i64 t.f0.f0) rfl
          have t1 := HT.out 1 (.string t.f0.f1) rfl
          have t2 := HT.out 2 (.string t.f0.f2) rfl
          have t3 := HT.out 3 (.int .i64 t.f1.f0) rfl
          have t4 := HT.out 4 (.string t.f1.f1) rfl
          have t5 := HT.out 5 (.string t.f1.f2) rfl
          have t6 := HT.out 6 (.int .i64 t.f2.f0) rfl
          have t7 := HT.out 7 (.string t.f2.f1) rfl
          have t8 := HT.out 8 (.string t.f2.f2) rfl
          clear hb
          go_wp2_with (first | (go_at_call 28; refine stop_ ?_) | (go_at_call 29; refine stop_ ?_) | (go_at_call 23; refine stop_ ?_) | (go_at_call 22; refine stop_ ?_) | (go_at_call 20; refine stop_ ?_))
          repeat (go_quiet (fail); try (go_wp2_with (first | (go_at_call 28; refine stop_ ?_) | (go_at_call 29; refine stop_ ?_) | (go_at_call 23; refine stop_ ?_) | (go_at_call 22; refine stop_ ?_) | (go_at_call 20; refine stop_ ?_))))
          refine ⟨?_⟩
          refine Calls.mono (has_ok K2.out Ab cb _ (Kd.C_below Hb.out (by repeat (first | exact Below.refl _ _ | refine below_alloc ?_ _ | refine pw_below_drewN ?_ _ | refine below_drew1 ?_))) HLb.out) ?_
          rintro e w' ⟨rfl, hb⟩
          replace Ha := Aside0.mk (Kd.C_below (Kd.C_below Ha.out (by repeat (first | exact Below.refl _ _ | refine below_alloc ?_ _ | refine pw_below_drewN ?_ _ | refine below_drew1 ?_))) hb)
          replace Hb := Aside0.mk (Kd.C_below (Kd.C_below Hb.out (by repeat (first | exact Below.refl _ _ | refine below_alloc ?_ _ | refine pw_below_drewN ?_ _ | refine below_drew1 ?_))) hb)
          replace Hj := Aside0.mk (Kd.C_below (Kd.C_below Hj.out (by repeat (first | exact Below.refl _ _ | refine below_alloc ?_ _ | refine pw_below_drewN ?_ _ | refine below_drew1 ?_))) hb)
          replace Ht := Aside0.mk (Kd.C_below (Kd.C_below Ht.out (by repeat (first | exact Below.refl _ _ | refine below_alloc ?_ _ | refine pw_below_drewN ?_ _ | refine below_drew1 ?_))) hb)
          replace Hl := Aside0.mk (Kd.C_below (Kd.C_below Hl.out (by repeat (first | exact Below.refl _ _ | refine below_alloc ?_ _ | refine pw_below_drewN ?_ _ | refine below_drew1 ?_))) hb)
          replace Hm := Aside0.mk (Kd.C_below (Kd.C_below Hm.out (by repeat (first | exact Below.refl _ _ | refine below_alloc ?_ _ | refine pw_below_drewN ?_ _ | refine below_drew1 ?_))) hb)
          replace Ho := Aside0.mk (Kd.C_below (Kd.C_below Ho.out (by repeat (first | exact Below.refl _ _ | refine below_alloc ?_ _ | refine pw_below_drewN ?_ _ | refine below_drew1 ?_))) hb)
          replace Hp := Aside0.mk (Kd.C_below (Kd.C_below Hp.out (by repeat (first | exact Below.refl _ _ | refine below_alloc ?_ _ | refine pw_below_drewN ?_ _ | refine below_drew1 ?_))) hb)
          replace Hq := Aside0.mk (Kd.C_below (Kd.C_below Hq.out (by repeat (first | exact Below.refl _ _ | refine below_alloc ?_ _ | refine pw_below_drewN ?_ _ | refine below_drew1 ?_))) hb)
          replace HW := Aside0.mk (below_step (below_step HW.out (by repeat (first | exact Below.refl _ _ | refine below_alloc ?_ _ | refine pw_below_drewN ?_ _ | refine below_drew1 ?_))) hb)
          clear t0 t1 t2 t3 t4 t5 t6 t7 t8
          replace HT := Aside0.mk (fun (c : Nat) (v : Value) h => cell_keep (by repeat (first | exact Below.refl _ _ | refine below_alloc ?_ _ | refine pw_below_drewN ?_ _ | refine below_drew1 ?_)) hb (HT.out c v h))
          have t0 := HT.out 0 (.int .i64 t.f0.f0) rfl
          have t1 := HT.out 1 (.string t.f0.f1) rfl
          have t2 := HT.out 2 (.string t.f0.f2) rfl
          have t3 := HT.out 3 (.int .i64 t.f1.f0) rfl
          have t4 := HT.out 4 (.string t.f1.f1) rfl
          have t5 := HT.out 5 (.string t.f1.f2) rfl
          have t6 := HT.out 6 (.int .i64 t.f2.f0) rfl
          have t7 := HT.out 7 (.string t.f2.f1) rfl
          have t8 := HT.out 8 (.string t.f2.f2) rfl
          clear hb
          go_wp2_with (first | (go_at_call 28; refine stop_ ?_) | (go_at_call 29; refine stop_ ?_) | (go_at_call 23; refine stop_ ?_) | (go_at_call 22; refine stop_ ?_) | (go_at_call 20; refine stop_ ?_))
          repeat (go_quiet (fail); try (go_wp2_with (first | (go_at_call 28; refine stop_ ?_) | (go_at_call 29; refine stop_ ?_) | (go_at_call 23; refine stop_ ?_) | (go_at_call 22; refine stop_ ?_) | (go_at_call 20; refine stop_ ?_))))
          refine ⟨?_⟩
          refine Calls.mono (has_ok K3.out Aj cj _ (Kd.C_below Hj.out (by repeat (first | exact Below.refl _ _ | refine below_alloc ?_ _ | refine pw_below_drewN ?_ _ | refine below_drew1 ?_))) HLj.out) ?_
          rintro e w' ⟨rfl, hb⟩
          replace Ha := Aside0.mk (Kd.C_below (Kd.C_below Ha.out (by repeat (first | exact Below.refl _ _ | refine below_alloc ?_ _ | refine pw_below_drewN ?_ _ | refine below_drew1 ?_))) hb)
          replace Hb := Aside0.mk (Kd.C_below (Kd.C_below Hb.out (by repeat (first | exact Below.refl _ _ | refine below_alloc ?_ _ | refine pw_below_drewN ?_ _ | refine below_drew1 ?_))) hb)
          replace Hj := Aside0.mk (Kd.C_below (Kd.C_below Hj.out (by repeat (first | exact Below.refl _ _ | refine below_alloc ?_ _ | refine pw_below_drewN ?_ _ | refine below_drew1 ?_))) hb)
          replace Ht := Aside0.mk (Kd.C_below (Kd.C_below Ht.out (by repeat (first | exact Below.refl _ _ | refine below_alloc ?_ _ | refine pw_below_drewN ?_ _ | refine below_drew1 ?_))) hb)
          replace Hl := Aside0.mk (Kd.C_below (Kd.C_below Hl.out (by repeat (first | exact Below.refl _ _ | refine below_alloc ?_ _ | refine pw_below_drewN ?_ _ | refine below_drew1 ?_))) hb)
          replace Hm := Aside0.mk (Kd.C_below (Kd.C_below Hm.out (by repeat (first | exact Below.refl _ _ | refine below_alloc ?_ _ | refine pw_below_drewN ?_ _ | refine below_drew1 ?_))) hb)
          replace Ho := Aside0.mk (Kd.C_below (Kd.C_below Ho.out (by repeat (first | exact Below.refl _ _ | refine below_alloc ?_ _ | refine pw_below_drewN ?_ _ | refine below_drew1 ?_))) hb)
          replace Hp := Aside0.mk (Kd.C_below (Kd.C_below Hp.out (by repeat (first | exact Below.refl _ _ | refine below_alloc ?_ _ | refine pw_below_drewN ?_ _ | refine below_drew1 ?_))) hb)
          replace Hq := Aside0.mk (Kd.C_below (Kd.C_below Hq.out (by repeat (first | exact Below.refl _ _ | refine below_alloc ?_ _ | refine pw_below_drewN ?_ _ | refine below_drew1 ?_))) hb)
          replace HW := Aside0.mk (below_step (below_step HW.out (by repeat (first | exact Below.refl _ _ | refine below_alloc ?_ _ | refine pw_below_drewN ?_ _ | refine below_drew1 ?_))) hb)
          clear t0 t1 t2 t3 t4 t5 t6 t7 t8
          replace HT := Aside0.mk (fun (c : Nat) (v : Value) h => cell_keep (by repeat (first | exact Below.refl _ _ | refine below_alloc ?_ _ | refine pw_below_drewN ?_ _ | refine below_drew1 ?_)) hb (HT.out c v h))
          have t0 := HT.out 0 (.int .i64 t.f0.f0) rfl
          have t1 := HT.out 1 (.string t.f0.f1) rfl
          have t2 := HT.out 2 (.string t.f0.f2) rfl
          have t3 := HT.out 3 (.int .i64 t.f1.f0) rfl
          have t4 := HT.out 4 (.string t.f1.f1) rfl
          have t5 := HT.out 5 (.string t.f1.f2) rfl
          have t6 := HT.out 6 (.int .i64 t.f2.f0) rfl
          have t7 := HT.out 7 (.string t.f2.f1) rfl
          have t8 := HT.out 8 (.string t.f2.f2) rfl
          clear hb
          go_wp2_with (first | (go_at_call 28; refine stop_ ?_) | (go_at_call 29; refine stop_ ?_) | (go_at_call 23; refine stop_ ?_) | (go_at_call 22; refine stop_ ?_) | (go_at_call 20; refine stop_ ?_))
          repeat (go_quiet (fail); try (go_wp2_with (first | (go_at_call 28; refine stop_ ?_) | (go_at_call 29; refine stop_ ?_) | (go_at_call 23; refine stop_ ?_) | (go_at_call 22; refine stop_ ?_) | (go_at_call 20; refine stop_ ?_))))
          refine ⟨?_⟩
          refine Calls.mono (has_ok K4.out Ao co _ (Kd.C_below Ho.out (by repeat (first | exact Below.refl _ _ | refine below_alloc ?_ _ | refine pw_below_drewN ?_ _ | refine below_drew1 ?_))) HLo.out) ?_
          rintro e w' ⟨rfl, hb⟩
          replace Ha := Aside0.mk (Kd.C_below (Kd.C_below Ha.out (by repeat (first | exact Below.refl _ _ | refine below_alloc ?_ _ | refine pw_below_drewN ?_ _ | refine below_drew1 ?_))) hb)
          replace Hb := Aside0.mk (Kd.C_below (Kd.C_below Hb.out (by repeat (first | exact Below.refl _ _ | refine below_alloc ?_ _ | refine pw_below_drewN ?_ _ | refine below_drew1 ?_))) hb)
          replace Hj := Aside0.mk (Kd.C_below (Kd.C_below Hj.out (by repeat (first | exact Below.refl _ _ | refine below_alloc ?_ _ | refine pw_below_drewN ?_ _ | refine below_drew1 ?_))) hb)
          replace Ht := Aside0.mk (Kd.C_below (Kd.C_below Ht.out (by repeat (first | exact Below.refl _ _ | refine below_alloc ?_ _ | refine pw_below_drewN ?_ _ | refine below_drew1 ?_))) hb)
          replace Hl := Aside0.mk (Kd.C_below (Kd.C_below Hl.out (by repeat (first | exact Below.refl _ _ | refine below_alloc ?_ _ | refine pw_below_drewN ?_ _ | refine below_drew1 ?_))) hb)
          replace Hm := Aside0.mk (Kd.C_below (Kd.C_below Hm.out (by repeat (first | exact Below.refl _ _ | refine below_alloc ?_ _ | refine pw_below_drewN ?_ _ | refine below_drew1 ?_))) hb)
          replace Ho := Aside0.mk (Kd.C_below (Kd.C_below Ho.out (by repeat (first | exact Below.refl _ _ | refine below_alloc ?_ _ | refine pw_below_drewN ?_ _ | refine below_drew1 ?_))) hb)
          replace Hp := Aside0.mk (Kd.C_below (Kd.C_below Hp.out (by repeat (first | exact Below.refl _ _ | refine below_alloc ?_ _ | refine pw_below_drewN ?_ _ | refine below_drew1 ?_))) hb)
          replace Hq := Aside0.mk (Kd.C_below (Kd.C_below Hq.out (by repeat (first | exact Below.refl _ _ | refine below_alloc ?_ _ | refine pw_below_drewN ?_ _ | refine below_drew1 ?_))) hb)
          replace HW := Aside0.mk (below_step (below_step HW.out (by repeat (first | exact Below.refl _ _ | refine below_alloc ?_ _ | refine pw_below_drewN ?_ _ | refine below_drew1 ?_))) hb)
          clear t0 t1 t2 t3 t4 t5 t6 t7 t8
          replace HT := Aside0.mk (fun (c : Nat) (v : Value) h => cell_keep (by repeat (first | exact Below.refl _ _ | refine below_alloc ?_ _ | refine pw_below_drewN ?_ _ | refine below_drew1 ?_)) hb (HT.out c v h))
          have t0 := HT.out 0 (.int .i64 t.f0.f0) rfl
          have t1 := HT.out 1 (.string t.f0.f1) rfl
          have t2 := HT.out 2 (.string t.f0.f2) rfl
          have t3 := HT.out 3 (.int .i64 t.f1.f0) rfl
          have t4 := HT.out 4 (.string t.f1.f1) rfl
          have t5 := HT.out 5 (.string t.f1.f2) rfl
          have t6 := HT.out 6 (.int .i64 t.f2.f0) rfl
          have t7 := HT.out 7 (.string t.f2.f1) rfl
          have t8 := HT.out 8 (.string t.f2.f2) rfl
          clear hb
          go_wp2_with (first | (go_at_call 28; refine stop_ ?_) | (go_at_call 29; refine stop_ ?_) | (go_at_call 23; refine stop_ ?_) | (go_at_call 22; refine stop_ ?_) | (go_at_call 20; refine stop_ ?_))
          repeat (go_quiet (fail); try (go_wp2_with (first | (go_at_call 28; refine stop_ ?_) | (go_at_call 29; refine stop_ ?_) | (go_at_call 23; refine stop_ ?_) | (go_at_call 22; refine stop_ ?_) | (go_at_call 20; refine stop_ ?_))))
          go_ret
          exact ⟨by first | rfl | (simp; done) | (simp [*]; done), below_step HW.out (by repeat (first | exact Below.refl _ _ | refine below_alloc ?_ _ | refine pw_below_drewN ?_ _ | refine below_drew1 ?_))⟩
        ·
          rw [hia] at K1 K3 K4
          rw [hib] at K2 K3 K4
          replace K1 : Aside0 (hasR a t = (true, none)) := ⟨K1⟩
          replace K2 : Aside0 (hasR b t = (true, none)) := ⟨K2⟩
          replace K3 : Aside0 (hasR u t = (true, none)) := ⟨K3⟩
          replace K4 : Aside0 (hasR of t = (true, none)) := ⟨K4⟩
          clear hia hib
          go_wp2_with (first | (go_at_call 28; refine stop_ ?_) | (go_at_call 29; refine stop_ ?_) | (go_at_call 23; refine stop_ ?_) | (go_at_call 22; refine stop_ ?_) | (go_at_call 20; refine stop_ ?_))
          repeat (go_quiet (fail); try (go_wp2_with (first | (go_at_call 28; refine stop_ ?_) | (go_at_call 29; refine stop_ ?_) | (go_at_call 23; refine stop_ ?_) | (go_at_call 22; refine stop_ ?_) | (go_at_call 20; refine stop_ ?_))))
          refine ⟨?_⟩
          refine Calls.mono (has_ok K1.out Aa ca _ (Kd.C_below Ha.out (by repeat (first | exact Below.refl _ _ | refine below_alloc ?_ _ | refine pw_below_drewN ?_ _ | refine below_drew1 ?_))) HLa.out) ?_
          rintro e w' ⟨rfl, hb⟩
          replace Ha := Aside0.mk (Kd.C_below (Kd.C_below Ha.out (by repeat (first | exact Below.refl _ _ | refine below_alloc ?_ _ | refine pw_below_drewN ?_ _ | refine below_drew1 ?_))) hb)
          replace Hb := Aside0.mk (Kd.C_below (Kd.C_below Hb.out (by repeat (first | exact Below.refl _ _ | refine below_alloc ?_ _ | refine pw_below_drewN ?_ _ | refine below_drew1 ?_))) hb)
          replace Hj := Aside0.mk (Kd.C_below (Kd.C_below Hj.out (by repeat (first | exact Below.refl _ _ | refine below_alloc ?_ _ | refine pw_below_drewN ?_ _ | refine below_drew1 ?_))) hb)
          replace Ht := Aside0.mk (Kd.C_below (Kd.C_below Ht.out (by repeat (first | exact Below.refl _ _ | refine below_alloc ?_ _ | refine pw_below_drewN ?_ _ | refine below_drew1 ?_))) hb)
          replace Hl := Aside0.mk (Kd.C_below (Kd.C_below Hl.out (by repeat (first | exact Below.refl _ _ | refine below_alloc ?_ _ | refine pw_below_drewN ?_ _ | refine below_drew1 ?_))) hb)
          replace Hm := Aside0.mk (Kd.C_below (Kd.C_below Hm.out (by repeat (first | exact Below.refl _ _ | refine below_alloc ?_ _ | refine pw_below_drewN ?_ _ | refine below_drew1 ?_))) hb)
          replace Ho := Aside0.mk (Kd.C_below (Kd.C_below Ho.out (by repeat (first | exact Below.refl _ _ | refine below_alloc ?_ _ | refine pw_below_drewN ?_ _ | refine below_drew1 ?_))) hb)
          replace Hp := Aside0.mk (Kd.C_below (Kd.C_below Hp.out (by repeat (first | exact Below.refl _ _ | refine below_alloc ?_ _ | refine pw_below_drewN ?_ _ | refine below_drew1 ?_))) hb)
          replace Hq := Aside0.mk (Kd.C_below (Kd.C_below Hq.out (by repeat (first | exact Below.refl _ _ | refine below_alloc ?_ _ | refine pw_below_drewN ?_ _ | refine below_drew1 ?_))) hb)
          replace HW := Aside0.mk (below_step (below_step HW.out (by repeat (first | exact Below.refl _ _ | refine below_alloc ?_ _ | refine pw_below_drewN ?_ _ | refine below_drew1 ?_))) hb)
          clear t0 t1 t2 t3 t4 t5 t6 t7 t8
          replace HT := Aside0.mk (fun (c : Nat) (v : Value) h => cell_keep (by repeat (first | exact Below.refl _ _ | refine below_alloc ?_ _ | refine pw_below_drewN ?_ _ | refine below_drew1 ?_)) hb (HT.out c v h))
          have t0 := HT.out 0 (.int .i64 t.f0.f0) rfl
          have t1 := HT.out 1 (.string t.f0.f1) rfl
          have t2 := HT.out 2 (.string t.f0.f2) rfl
          have t3 := HT.out 3 (.int .i64 t.f1.f0) rfl
          have t4 := HT.out 4 (.string t.f1.f1) rfl
          have t5 := HT.out 5 (.string t.f1.f2) rfl
          have t6 := HT.out 6 (.int .i64 t.f2.f0) rfl
          have t7 := HT.out 7 (.string t.f2.f1) rfl
          have t8 := HT.out 8 (.string t.f2.f2) rfl
          clear hb
          go_wp2_with (first | (go_at_call 28; refine stop_ ?_) | (go_at_call 29; refine stop_ ?_) | (go_at_call 23; refine stop_ ?_) | (go_at_call 22; refine stop_ ?_) | (go_at_call 20; refine stop_ ?_))
          repeat (go_quiet (fail); try (go_wp2_with (first | (go_at_call 28; refine stop_ ?_) | (go_at_call 29; refine stop_ ?_) | (go_at_call 23; refine stop_ ?_) | (go_at_call 22; refine stop_ ?_) | (go_at_call 20; refine stop_ ?_))))
          refine ⟨?_⟩
          refine Calls.mono (has_ok K2.out Ab cb _ (Kd.C_below Hb.out (by repeat (first | exact Below.refl _ _ | refine below_alloc ?_ _ | refine pw_below_drewN ?_ _ | refine below_drew1 ?_))) HLb.out) ?_
          rintro e w' ⟨rfl, hb⟩
          replace Ha := Aside0.mk (Kd.C_below (Kd.C_below Ha.out (by repeat (first | exact Below.refl _ _ | refine below_alloc ?_ _ | refine pw_below_drewN ?_ _ | refine below_drew1 ?_))) hb)
          replace Hb := Aside0.mk (Kd.C_below (Kd.C_below Hb.out (by repeat (first | exact Below.refl _ _ | refine below_alloc ?_ _ | refine pw_below_drewN ?_ _ | refine below_drew1 ?_))) hb)
          replace Hj := Aside0.mk (Kd.C_below (Kd.C_below Hj.out (by repeat (first | exact Below.refl _ _ | refine below_alloc ?_ _ | refine pw_below_drewN ?_ _ | refine below_drew1 ?_))) hb)
          replace Ht := Aside0.mk (Kd.C_below (Kd.C_below Ht.out (by repeat (first | exact Below.refl _ _ | refine below_alloc ?_ _ | refine pw_below_drewN ?_ _ | refine below_drew1 ?_))) hb)
          replace Hl := Aside0.mk (Kd.C_below (Kd.C_below Hl.out (by repeat (first | exact Below.refl _ _ | refine below_alloc ?_ _ | refine pw_below_drewN ?_ _ | refine below_drew1 ?_))) hb)
          replace Hm := Aside0.mk (Kd.C_below (Kd.C_below Hm.out (by repeat (first | exact Below.refl _ _ | refine below_alloc ?_ _ | refine pw_below_drewN ?_ _ | refine below_drew1 ?_))) hb)
          replace Ho := Aside0.mk (Kd.C_below (Kd.C_below Ho.out (by repeat (first | exact Below.refl _ _ | refine below_alloc ?_ _ | refine pw_below_drewN ?_ _ | refine below_drew1 ?_))) hb)
          replace Hp := Aside0.mk (Kd.C_below (Kd.C_below Hp.out (by repeat (first | exact Below.refl _ _ | refine below_alloc ?_ _ | refine pw_below_drewN ?_ _ | refine below_drew1 ?_))) hb)
          replace Hq := Aside0.mk (Kd.C_below (Kd.C_below Hq.out (by repeat (first | exact Below.refl _ _ | refine below_alloc ?_ _ | refine pw_below_drewN ?_ _ | refine below_drew1 ?_))) hb)
          replace HW := Aside0.mk (below_step (below_step HW.out (by repeat (first | exact Below.refl _ _ | refine below_alloc ?_ _ | refine pw_below_drewN ?_ _ | refine below_drew1 ?_))) hb)
          clear t0 t1 t2 t3 t4 t5 t6 t7 t8
          replace HT := Aside0.mk (fun (c : Nat) (v : Value) h => cell_keep (by repeat (first | exact Below.refl _ _ | refine below_alloc ?_ _ | refine pw_below_drewN ?_ _ | refine below_drew1 ?_)) hb (HT.out c v h))
          have t0 := HT.out 0 (.int .i64 t.f0.f0) rfl
          have t1 := HT.out 1 (.string t.f0.f1) rfl
          have t2 := HT.out 2 (.string t.f0.f2) rfl
          have t3 := HT.out 3 (.int .i64 t.f1.f0) rfl
          have t4 := HT.out 4 (.string t.f1.f1) rfl
          have t5 := HT.out 5 (.string t.f1.f2) rfl
          have t6 := HT.out 6 (.int .i64 t.f2.f0) rfl
          have t7 := HT.out 7 (.string t.f2.f1) rfl
          have t8 := HT.out 8 (.string t.f2.f2) rfl
          clear hb
          go_wp2_with (first | (go_at_call 28; refine stop_ ?_) | (go_at_call 29; refine stop_ ?_) | (go_at_call 23; refine stop_ ?_) | (go_at_call 22; refine stop_ ?_) | (go_at_call 20; refine stop_ ?_))
          repeat (go_quiet (fail); try (go_wp2_with (first | (go_at_call 28; refine stop_ ?_) | (go_at_call 29; refine stop_ ?_) | (go_at_call 23; refine stop_ ?_) | (go_at_call 22; refine stop_ ?_) | (go_at_call 20; refine stop_ ?_))))
          refine ⟨?_⟩
          refine Calls.mono (has_ok K3.out Aj cj _ (Kd.C_below Hj.out (by repeat (first | exact Below.refl _ _ | refine below_alloc ?_ _ | refine pw_below_drewN ?_ _ | refine below_drew1 ?_))) HLj.out) ?_
          rintro e w' ⟨rfl, hb⟩
          replace Ha := Aside0.mk (Kd.C_below (Kd.C_below Ha.out (by repeat (first | exact Below.refl _ _ | refine below_alloc ?_ _ | refine pw_below_drewN ?_ _ | refine below_drew1 ?_))) hb)
          replace Hb := Aside0.mk (Kd.C_below (Kd.C_below Hb.out (by repeat (first | exact Below.refl _ _ | refine below_alloc ?_ _ | refine pw_below_drewN ?_ _ | refine below_drew1 ?_))) hb)
          replace Hj := Aside0.mk (Kd.C_below (Kd.C_below Hj.out (by repeat (first | exact Below.refl _ _ | refine below_alloc ?_ _ | refine pw_below_drewN ?_ _ | refine below_drew1 ?_))) hb)
          replace Ht := Aside0.mk (Kd.C_below (Kd.C_below Ht.out (by repeat (first | exact Below.refl _ _ | refine below_alloc ?_ _ | refine pw_below_drewN ?_ _ | refine below_drew1 ?_))) hb)
          replace Hl := Aside0.mk (Kd.C_below (Kd.C_below Hl.out (by repeat (first | exact Below.refl _ _ | refine below_alloc ?_ _ | refine pw_below_drewN ?_ _ | refine below_drew1 ?_))) hb)
          replace Hm := Aside0.mk (Kd.C_below (Kd.C_below Hm.out (by repeat (first | exact Below.refl _ _ | refine below_alloc ?_ _ | refine pw_below_drewN ?_ _ | refine below_drew1 ?_))) hb)
          replace Ho := Aside0.mk (Kd.C_below (Kd.C_below Ho.out (by repeat (first | exact Below.refl _ _ | refine below_alloc ?_ _ | refine pw_below_drewN ?_ _ | refine below_drew1 ?_))) hb)
          replace Hp := Aside0.mk (Kd.C_below (Kd.C_below Hp.out (by repeat (first | exact Below.refl _ _ | refine below_alloc ?_ _ | refine pw_below_drewN ?_ _ | refine below_drew1 ?_))) hb)
          replace Hq := Aside0.mk (Kd.C_below (Kd.C_below Hq.out (by repeat (first | exact Below.refl _ _ | refine below_alloc ?_ _ | refine pw_below_drewN ?_ _ | refine below_drew1 ?_))) hb)
          replace HW := Aside0.mk (below_step (below_step HW.out (by repeat (first | exact Below.refl _ _ | refine below_alloc ?_ _ | refine pw_below_drewN ?_ _ | refine below_drew1 ?_))) hb)
          clear t0 t1 t2 t3 t4 t5 t6 t7 t8
          replace HT := Aside0.mk (fun (c : Nat) (v : Value) h => cell_keep (by repeat (first | exact Below.refl _ _ | refine below_alloc ?_ _ | refine pw_below_drewN ?_ _ | refine below_drew1 ?_)) hb (HT.out c v h))
          have t0 := HT.out 0 (.int .i64 t.f0.f0) rfl
          have t1 := HT.out 1 (.string t.f0.f1) rfl
          have t2 := HT.out 2 (.string t.f0.f2) rfl
          have t3 := HT.out 3 (.int .i64 t.f1.f0) rfl
          have t4 := HT.out 4 (.string t.f1.f1) rfl
          have t5 := HT.out 5 (.string t.f1.f2) rfl
          have t6 := HT.out 6 (.int .i64 t.f2.f0) rfl
          have t7 := HT.out 7 (.string t.f2.f1) rfl
          have t8 := HT.out 8 (.string t.f2.f2) rfl
          clear hb
          go_wp2_with (first | (go_at_call 28; refine stop_ ?_) | (go_at_call 29; refine stop_ ?_) | (go_at_call 23; refine stop_ ?_) | (go_at_call 22; refine stop_ ?_) | (go_at_call 20; refine stop_ ?_))
          repeat (go_quiet (fail); try (go_wp2_with (first | (go_at_call 28; refine stop_ ?_) | (go_at_call 29; refine stop_ ?_) | (go_at_call 23; refine stop_ ?_) | (go_at_call 22; refine stop_ ?_) | (go_at_call 20; refine stop_ ?_))))
          refine ⟨?_⟩
          refine Calls.mono (has_ok K4.out Ao co _ (Kd.C_below Ho.out (by repeat (first | exact Below.refl _ _ | refine below_alloc ?_ _ | refine pw_below_drewN ?_ _ | refine below_drew1 ?_))) HLo.out) ?_
          rintro e w' ⟨rfl, hb⟩
          replace Ha := Aside0.mk (Kd.C_below (Kd.C_below Ha.out (by repeat (first | exact Below.refl _ _ | refine below_alloc ?_ _ | refine pw_below_drewN ?_ _ | refine below_drew1 ?_))) hb)
          replace Hb := Aside0.mk (Kd.C_below (Kd.C_below Hb.out (by repeat (first | exact Below.refl _ _ | refine below_alloc ?_ _ | refine pw_below_drewN ?_ _ | refine below_drew1 ?_))) hb)
          replace Hj := Aside0.mk (Kd.C_below (Kd.C_below Hj.out (by repeat (first | exact Below.refl _ _ | refine below_alloc ?_ _ | refine pw_below_drewN ?_ _ | refine below_drew1 ?_))) hb)
          replace Ht := Aside0.mk (Kd.C_below (Kd.C_below Ht.out (by repeat (first | exact Below.refl _ _ | refine below_alloc ?_ _ | refine pw_below_drewN ?_ _ | refine below_drew1 ?_))) hb)
          replace Hl := Aside0.mk (Kd.C_below (Kd.C_below Hl.out (by repeat (first | exact Below.refl _ _ | refine below_alloc ?_ _ | refine pw_below_drewN ?_ _ | refine below_drew1 ?_))) hb)
          replace Hm := Aside0.mk (Kd.C_below (Kd.C_below Hm.out (by repeat (first | exact Below.refl _ _ | refine below_alloc ?_ _ | refine pw_below_drewN ?_ _ | refine below_drew1 ?_))) hb)
          replace Ho := Aside0.mk (Kd.C_below (Kd.C_below Ho.out (by repeat (first | exact Below.refl _ _ | refine below_alloc ?_ _ | refine pw_below_drewN ?_ _ | refine below_drew1 ?_))) hb)
          replace Hp := Aside0.mk (Kd.C_below (Kd.C_below Hp.out (by repeat (first | exact Below.refl _ _ | refine below_alloc ?_ _ | refine pw_below_drewN ?_ _ | refine below_drew1 ?_))) hb)
          replace Hq := Aside0.mk (Kd.C_below (Kd.C_below Hq.out (by repeat (first | exact Below.refl _ _ | refine below_alloc ?_ _ | refine pw_below_drewN ?_ _ | refine below_drew1 ?_))) hb)
          replace HW := Aside0.mk (below_step (below_step HW.out (by repeat (first | exact Below.refl _ _ | refine below_alloc ?_ _ | refine pw_below_drewN ?_ _ | refine below_drew1 ?_))) hb)
          clear t0 t1 t2 t3 t4 t5 t6 t7 t8
          replace HT := Aside0.mk (fun (c : Nat) (v : Value) h => cell_keep (by repeat (first | exact Below.refl _ _ | refine below_alloc ?_ _ | refine pw_below_drewN ?_ _ | refine below_drew1 ?_)) hb (HT.out c v h))
          have t0 := HT.out 0 (.int .i64 t.f0.f0) rfl
          have t1 := HT.out 1 (.string t.f0.f1) rfl
          have t2 := HT.out 2 (.string t.f0.f2) rfl
          have t3 := HT.out 3 (.int .i64 t.f1.f0) rfl
          have t4 := HT.out 4 (.string t.f1.f1) rfl
          have t5 := HT.out 5 (.string t.f1.f2) rfl
          have t6 := HT.out 6 (.int .i64 t.f2.f0) rfl
          have t7 := HT.out 7 (.string t.f2.f1) rfl
          have t8 := HT.out 8 (.string t.f2.f2) rfl
          clear hb
          go_wp2_with (first | (go_at_call 28; refine stop_ ?_) | (go_at_call 29; refine stop_ ?_) | (go_at_call 23; refine stop_ ?_) | (go_at_call 22; refine stop_ ?_) | (go_at_call 20; refine stop_ ?_))
          repeat (go_quiet (fail); try (go_wp2_with (first | (go_at_call 28; refine stop_ ?_) | (go_at_call 29; refine stop_ ?_) | (go_at_call 23; refine stop_ ?_) | (go_at_call 22; refine stop_ ?_) | (go_at_call 20; refine stop_ ?_))))
          go_ret
          exact ⟨by first | rfl | (simp; done) | (simp [*]; done), below_step HW.out (by repeat (first | exact Below.refl _ _ | refine below_alloc ?_ _ | refine pw_below_drewN ?_ _ | refine below_drew1 ?_))⟩
end Go.Proofs.Ytdjamphmndbmjaa.M
