/- Package set by hand: Both, Has; stratasame.Triples. -/
import Derived.Test.YtdjamphmndbmjaaXset2
namespace Go.Proofs.Ytdjamphmndbmjaa.M
open Go.RowKit Go.Proofs.YtdjamphmndbmjaaW.PrintWords Go.Proofs.YtdjamphmndbmjaaW.PrintLast Go.Proofs.YtdjamphmndbmjaaW.PrintMore
set_option linter.unusedVariables false
set_option linter.unusedSimpArgs false

set_option maxHeartbeats 4000000 in
set_option maxRecDepth 100000 in
theorem both_calls (A0 A1 : Option Addr) (c0 c1 : Nat) (l0 l1 : List S41) (w : World) (hr0 : Kd.C k41 w A0 l0.length l0) (hc0 : l0.length ≤ c0) (hr1 : Kd.C k41 w A1 l1.length l1) (hc1 : l1.length ≤ c1) :
    Calls Try.prog 23 #[.slice A0 l0.length c0, .slice A1 l1.length c1] w fun e w' => ∃ v, e = .returned (.tuple #[v, errW (bothR l0 l1 true).2]) ∧ Row w' v (bothR l0 l1 true).1 ∧ Below w.heap.size w w' := by
  have HR0 := Aside0.mk hr0
  have HR1 := Aside0.mk hr1
  have HB := Aside0.mk (Below.refl w.heap.size w)
  have hright := fun W g0 h0 h1 hC0 hC1 => right2_calls g0 A0 A1 c0 c1 l0 l1 W h0 h1 hC0 hC1 hc0 hc1
  obtain ⟨r, hr⟩ : ∃ r, right2 l0 l1 = r := ⟨_, rfl⟩
  rw [hr] at hright
  cases r with
  | some n =>
    have hj : bothR l0 l1 true = ([], some n) := by unfold bothR; rw [hr]
    rw [hj]
    have HRT := Aside0.mk hright
    clear hr0 hr1 hright hr hj
    go_enter Try.func23, Try.ntmps23
    go_wp2_with (go_at_call 47; refine (HRT.out _ _ (cells2 w A0 A1 c0 c1 _ _ _).1 (cells2 w A0 A1 c0 c1 _ _ _).2 (Kd.C_alloc HR0.out _) (Kd.C_alloc HR1.out _)).mono ?_; rintro e w' ⟨he, hb⟩; rw [errW_some] at he; subst he; have HB1 := Aside0.mk hb; clear hb)
    go_ret2
    exact ⟨_, rfl, Row.nil _, below_step (below_alloc HB.out _) HB1.out⟩
  | none =>
    obtain ⟨hs0, hs1⟩ := right2_none.1 hr
    have hl0 := sortedR_len hs0
    have hun := fun W hC0 hC1 => part_calls A0 c0 l0 A1 c1 l1 true W hC0 hc0 hC1 hc1 (by omega) hs1
    have hj : bothR l0 l1 true = (partR l0 l1 true, none) := by unfold bothR; rw [hr]
    rw [hj]
    generalize partR l0 l1 true = u at hun ⊢
    have HRT := Aside0.mk hright
    have HUN := Aside0.mk hun
    clear hr0 hr1 hright hr hj hun hs0 hs1 hl0
    go_enter Try.func23, Try.ntmps23
    go_wp2_with (first | (go_at_call 47; refine (HRT.out _ _ (cells2 w A0 A1 c0 c1 _ _ _).1 (cells2 w A0 A1 c0 c1 _ _ _).2 (Kd.C_alloc HR0.out _) (Kd.C_alloc HR1.out _)).mono ?_; rintro e w' ⟨he, hb⟩; rw [errW_none] at he; subst he; have HB1 := Aside0.mk (below_step (below_alloc HB.out _) hb); clear hb) | (go_at_call 49; refine (HUN.out _ (Kd.C_below HR0.out HB1.out) (Kd.C_below HR1.out HB1.out)).mono ?_; rintro e w' ⟨v, rfl, hv, hb⟩; obtain ⟨Au, cu, rfl, hCu, hcu⟩ := hv; have HB2 := Aside0.mk (below_step HB1.out hb); have HU := Aside0.mk (And.intro hCu hcu); clear hb hCu hcu))
    go_ret2
    exact ⟨_, rfl, ⟨_, _, rfl, HU.out.1, HU.out.2⟩, HB2.out⟩
theorem cells1 (w : World) (A0 : Option Addr) (c0 n0 : Nat) (T : Nat) : (w.alloc (.cells #[.slice A0 n0 c0] T)).cell? ⟨w.heap.size, 0, none⟩ = some (.slice A0 n0 c0) := (blk_cell (blk_new w _) 0).trans rfl
theorem cells1b (w : World) (o : Obj) (A0 : Option Addr) (c0 n0 : Nat) (T : Nat) : ((w.alloc o).alloc (.cells #[.slice A0 n0 c0] T)).cell? ⟨w.heap.size + 1, 0, none⟩ = some (.slice A0 n0 c0) := by rw [← alloc_size1 w o]; exact cells1 _ _ _ _ _
set_option maxHeartbeats 4000000 in
set_option maxRecDepth 100000 in
theorem has_calls (A0 : Option Addr) (c0 : Nat) (l0 : List S41) (x : S41) (w : World) (hr0 : Kd.C k41 w A0 l0.length l0) (hc0 : l0.length ≤ c0) :
    Calls Try.prog 22 #[.slice A0 l0.length c0, .agg #[.int .i64 x.f0.f0, .string x.f0.f1, .string x.f0.f2, .int .i64 x.f1.f0, .string x.f1.f1, .string x.f1.f2, .int .i64 x.f2.f0, .string x.f2.f1, .string x.f2.f2]] w fun e w' => e = .returned (.tuple #[.bool (hasR l0 x).1, errW (hasR l0 x).2]) ∧ Below w.heap.size w w' := by
  have HR0 := Aside0.mk hr0
  have HB := Aside0.mk (below_alloc (Below.refl w.heap.size w) (.cells (celR x) 41))
  have hright := fun W g0 h0 hC0 => right1_calls g0 A0 c0 l0 W h0 hC0 hc0
  have hchk := fun W => checkR_calls x W
  obtain ⟨r, hr⟩ : ∃ r, sortedR l0 = r := ⟨_, rfl⟩
  rw [hr] at hright
  have hbx := fun (W : World) (hW : Below (w.heap.size + 1) (w.alloc (.cells (celR x) 41)) W) (c : Nat) (v : Value) (h : (celR x)[c]? = some v) => (Below.cell hW (p := ⟨w.heap.size, c, none⟩) (Nat.lt_succ_self _)).trans ((blk_cell (blk_new w (.cells (celR x) 41)) c).trans h)
  have HBX := Aside0.mk hbx
  clear hbx
  cases r with
  | some n =>
    have hj : hasR l0 x = (false, some n) := by unfold hasR; rw [hr]
    rw [hj]
    have HRT := Aside0.mk hright
    clear hr0 hright hr hj hchk
    go_enter Try.func22, Try.ntmps22
    go_wp2_with (go_at_call 47; refine (HRT.out _ _ (cells1b w _ A0 c0 _ _) (Kd.C_alloc (Kd.C_alloc HR0.out _) _)).mono ?_; rintro e w' ⟨he, hb⟩; rw [errW_some] at he; subst he; have HB1 := Aside0.mk (below_step (below_alloc HB.out _) hb); clear hb)
    go_ret2
    exact ⟨rfl, HB1.out⟩
  | none =>
    obtain ⟨q, hq⟩ : ∃ q, chkR x = q := ⟨_, rfl⟩
    rw [hq] at hchk
    cases q with
    | some n =>
      have hj : hasR l0 x = (false, some n) := by unfold hasR; rw [hr, hq]
      rw [hj]
      have HRT := Aside0.mk hright
      have HCK := Aside0.mk hchk
      clear hr0 hright hr hj hchk hq
      go_enter Try.func22, Try.ntmps22
      go_wp2_with (first | (go_at_call 47; refine (HRT.out _ _ (cells1b w _ A0 c0 _ _) (Kd.C_alloc (Kd.C_alloc HR0.out _) _)).mono ?_; rintro e w' ⟨he, hb⟩; rw [errW_none] at he; subst he; have HB1 := Aside0.mk (below_step (below_alloc HB.out _) hb); have hW := (Below.alloc (Below.refl (w.heap.size + 1) (w.alloc (.cells (celR x) 41))) (by rw [alloc_size1]; exact Nat.le_refl _) _).trans (hb.mono (by rw [alloc_size1, alloc_size1]; omega)); have HW := Aside0.mk hW; have b0 := HBX.out _ hW 0 (.int .i64 x.f0.f0) rfl; have b1 := HBX.out _ hW 1 (.string x.f0.f1) rfl; have b2 := HBX.out _ hW 2 (.string x.f0.f2) rfl; have b3 := HBX.out _ hW 3 (.int .i64 x.f1.f0) rfl; have b4 := HBX.out _ hW 4 (.string x.f1.f1) rfl; have b5 := HBX.out _ hW 5 (.string x.f1.f2) rfl; have b6 := HBX.out _ hW 6 (.int .i64 x.f2.f0) rfl; have b7 := HBX.out _ hW 7 (.string x.f2.f1) rfl; have b8 := HBX.out _ hW 8 (.string x.f2.f2) rfl; clear hb hW) | (go_at_call 43; refine (HCK.out _).mono ?_; rintro e w' ⟨he, hb⟩; rw [errW_some] at he; subst he; have HB2 := Aside0.mk (below_step HB1.out hb); clear hb))
      go_ret2
      exact ⟨rfl, HB2.out⟩
    | none =>
      have hj : hasR l0 x = (inR l0 x, none) := by unfold hasR; rw [hr, hq]
      rw [hj]
      have hin := fun W hC => inR_calls A0 c0 l0 x W hC hr
      generalize inR l0 x = b at hin ⊢
      have HRT := Aside0.mk hright
      have HCK := Aside0.mk hchk
      have HIN := Aside0.mk hin
      clear hr0 hright hr hj hchk hq hin
      go_enter Try.func22, Try.ntmps22
      go_wp2_with (first | (go_at_call 47; refine (HRT.out _ _ (cells1b w _ A0 c0 _ _) (Kd.C_alloc (Kd.C_alloc HR0.out _) _)).mono ?_; rintro e w' ⟨he, hb⟩; rw [errW_none] at he; subst he; have HB1 := Aside0.mk (below_step (below_alloc HB.out _) hb); have hW := (Below.alloc (Below.refl (w.heap.size + 1) (w.alloc (.cells (celR x) 41))) (by rw [alloc_size1]; exact Nat.le_refl _) _).trans (hb.mono (by rw [alloc_size1, alloc_size1]; omega)); have HW := Aside0.mk hW; have b0 := HBX.out _ hW 0 (.int .i64 x.f0.f0) rfl; have b1 := HBX.out _ hW 1 (.string x.f0.f1) rfl; have b2 := HBX.out _ hW 2 (.string x.f0.f2) rfl; have b3 := HBX.out _ hW 3 (.int .i64 x.f1.f0) rfl; have b4 := HBX.out _ hW 4 (.string x.f1.f1) rfl; have b5 := HBX.out _ hW 5 (.string x.f1.f2) rfl; have b6 := HBX.out _ hW 6 (.int .i64 x.f2.f0) rfl; have b7 := HBX.out _ hW 7 (.string x.f2.f1) rfl; have b8 := HBX.out _ hW 8 (.string x.f2.f2) rfl; clear hb hW) | (go_at_call 43; refine (HCK.out _).mono ?_; rintro e w' ⟨he, hb⟩; rw [errW_none] at he; subst he; have HB2 := Aside0.mk (below_step HB1.out hb); have hW := HW.out.trans (hb.mono (by have := HW.out.size; rw [alloc_size1] at this; exact this)); have b0 := HBX.out _ hW 0 (.int .i64 x.f0.f0) rfl; have b1 := HBX.out _ hW 1 (.string x.f0.f1) rfl; have b2 := HBX.out _ hW 2 (.string x.f0.f2) rfl; have b3 := HBX.out _ hW 3 (.int .i64 x.f1.f0) rfl; have b4 := HBX.out _ hW 4 (.string x.f1.f1) rfl; have b5 := HBX.out _ hW 5 (.string x.f1.f2) rfl; have b6 := HBX.out _ hW 6 (.int .i64 x.f2.f0) rfl; have b7 := HBX.out _ hW 7 (.string x.f2.f1) rfl; have b8 := HBX.out _ hW 8 (.string x.f2.f2) rfl; clear hb hW) | (go_at_call 48; refine (HIN.out _ (Kd.C_below HR0.out HB2.out)).mono ?_; rintro e w' ⟨rfl, hb⟩; have HB3 := Aside0.mk (below_step HB2.out hb); clear hb))
      go_ret2
      exact ⟨rfl, HB3.out⟩
end Go.Proofs.Ytdjamphmndbmjaa.M
