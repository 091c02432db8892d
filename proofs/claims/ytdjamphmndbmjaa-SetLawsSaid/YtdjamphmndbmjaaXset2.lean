/- Package set by hand: Join, Less, Both, Has. -/
import Derived.Test.YtdjamphmndbmjaaXset
namespace Go.Proofs.Ytdjamphmndbmjaa.M
open Go.RowKit Go.Proofs.YtdjamphmndbmjaaW.PrintWords Go.Proofs.YtdjamphmndbmjaaW.PrintLast Go.Proofs.YtdjamphmndbmjaaW.PrintMore
set_option linter.unusedVariables false
set_option linter.unusedSimpArgs false

/-- A result that is a row to be read. -/
def Row (w : World) (v : Value) (l : List S41) : Prop := ∃ A c, v = .slice A l.length c ∧ Kd.C k41 w A l.length l ∧ l.length ≤ c
theorem Row.below {w w' : World} {v : Value} {l : List S41} (h : Row w v l) (hb : Below w.heap.size w w') : Row w' v l := by
  obtain ⟨A, c, e, h1, h2⟩ := h
  exact ⟨A, c, e, Kd.C_below h1 hb, h2⟩
theorem Row.nil (w : World) : Row w (.slice none 0 0) [] := ⟨none, 0, rfl, ⟨rfl, by simp, fun h => absurd h (Nat.lt_irrefl 0)⟩, Nat.le_refl _⟩
theorem Row.of_R {w : World} {base : Nat} {ok : Nat → Prop} {v : Value} {l : List S41} (h : Kd.R k41 41 w base ok v l) : Row w v l := by
  obtain ⟨A, c, e, h1, h2⟩ := Kd.R_reads h
  exact ⟨A, c, e, h2, h1⟩
/-- What of a list is, or is not, in a set. -/
def partR (a b : List S41) (is : Bool) : List S41 := a.filter fun t => inR b t == is
theorem part_calls (A0 : Option Addr) (c0 : Nat) (l0 : List S41) (A1 : Option Addr) (c1 : Nat) (l1 : List S41) (is : Bool) (w : World) (hr0 : Kd.C k41 w A0 l0.length l0) (hc0 : l0.length ≤ c0) (hr1 : Kd.C k41 w A1 l1.length l1) (hc1 : l1.length ≤ c1) (hl : l0.length < 1172812402961) (hs : sortedR l1 = none) :
    Calls Try.prog 49 #[.slice A0 l0.length c0, .slice A1 l1.length c1, .bool is] w fun e w' => ∃ v, e = .returned v ∧ Row w' v (partR l0 l1 is) ∧ Below w.heap.size w w' :=
  (set_Part.calls A0 c0 l0 A1 c1 l1 is (partR l0 l1 is) w hr0 hc0 hr1 hc1 (by unfold set_Part.f partR; rw [if_pos ⟨hl, hs⟩])).mono fun _ _ ⟨v, he, hR, hb⟩ => ⟨v, he, Row.of_R hR, hb⟩
theorem union_calls (A0 : Option Addr) (c0 : Nat) (l0 : List S41) (A1 : Option Addr) (c1 : Nat) (l1 : List S41) (w : World) (hr0 : Kd.C k41 w A0 l0.length l0) (hc0 : l0.length ≤ c0) (hr1 : Kd.C k41 w A1 l1.length l1) (hc1 : l1.length ≤ c1) (hl : (l0.length + l1.length) * 120 ≤ 140737488355328) :
    Calls Try.prog 60 #[.slice A0 l0.length c0, .slice A1 l1.length c1] w fun e w' => ∃ v, e = .returned v ∧ Row w' v (unionR l0 l1) ∧ Below w.heap.size w w' :=
  (set_Union.calls A0 c0 l0 A1 c1 l1 (unionR l0 l1) w hr0 hc0 hr1 hc1 (by unfold set_Union.f; rw [if_pos hl])).mono fun _ _ ⟨v, he, hR, hb⟩ => ⟨v, he, Row.of_R hR, hb⟩
theorem sortedR_len {l : List S41} (h : sortedR l = none) : l.length ≤ 200 := (sortedR_none h).1
def joinR (a b : List S41) : List S41 × Option Int := match right2 a b with | some e => ([], some e) | none => if (unionR a b).length > 200 then ([], some 4) else (unionR a b, none)
def bothR (a b : List S41) (is : Bool) : List S41 × Option Int := match right2 a b with | some e => ([], some e) | none => (partR a b is, none)
def hasR (l : List S41) (x : S41) : Bool × Option Int := match sortedR l with | some e => (false, some e) | none => match chkR x with | some e => (false, some e) | none => (inR l x, none)
theorem cells2 (w : World) (A0 A1 : Option Addr) (c0 c1 n0 n1 : Nat) (T : Nat) : (w.alloc (.cells #[.slice A0 n0 c0, .slice A1 n1 c1] T)).cell? ⟨w.heap.size, 0, none⟩ = some (.slice A0 n0 c0) ∧ (w.alloc (.cells #[.slice A0 n0 c0, .slice A1 n1 c1] T)).cell? ⟨w.heap.size, 1, none⟩ = some (.slice A1 n1 c1) := ⟨(blk_cell (blk_new w _) 0).trans rfl, (blk_cell (blk_new w _) 1).trans rfl⟩
set_option maxHeartbeats 4000000 in
set_option maxRecDepth 100000 in
theorem join_calls (A0 A1 : Option Addr) (c0 c1 : Nat) (l0 l1 : List S41) (w : World) (hr0 : Kd.C k41 w A0 l0.length l0) (hc0 : l0.length ≤ c0) (hr1 : Kd.C k41 w A1 l1.length l1) (hc1 : l1.length ≤ c1) :
    Calls Try.prog 28 #[.slice A0 l0.length c0, .slice A1 l1.length c1] w fun e w' => ∃ v, e = .returned (.tuple #[v, errW (joinR l0 l1).2]) ∧ Row w' v (joinR l0 l1).1 ∧ Below w.heap.size w w' := by
  have HR0 := Aside0.mk hr0
  have HR1 := Aside0.mk hr1
  have HB := Aside0.mk (Below.refl w.heap.size w)
  have hright := fun W g0 h0 h1 hC0 hC1 => right2_calls g0 A0 A1 c0 c1 l0 l1 W h0 h1 hC0 hC1 hc0 hc1
  obtain ⟨r, hr⟩ : ∃ r, right2 l0 l1 = r := ⟨_, rfl⟩
  rw [hr] at hright
  cases r with
  | some n =>
    have hj : joinR l0 l1 = ([], some n) := by unfold joinR; rw [hr]
    rw [hj]
    have HRT := Aside0.mk hright
    clear hr0 hr1 hright hr hj
    go_enter Try.func28, Try.ntmps28
    go_wp2_with (go_at_call 47; refine (HRT.out _ _ (cells2 w A0 A1 c0 c1 _ _ _).1 (cells2 w A0 A1 c0 c1 _ _ _).2 (Kd.C_alloc HR0.out _) (Kd.C_alloc HR1.out _)).mono ?_; rintro e w' ⟨he, hb⟩; rw [errW_some] at he; subst he; have HB1 := Aside0.mk hb; clear hb)
    go_ret2
    exact ⟨_, rfl, Row.nil _, below_step (below_alloc HB.out _) HB1.out⟩
  | none =>
    obtain ⟨hs0, hs1⟩ := right2_none.1 hr
    have hl0 := sortedR_len hs0
    have hl1 := sortedR_len hs1
    have hun := fun W hC0 hC1 => union_calls A0 c0 l0 A1 c1 l1 W hC0 hc0 hC1 hc1 (by omega)
    have hj : joinR l0 l1 = if (unionR l0 l1).length > 200 then ([], some 4) else (unionR l0 l1, none) := by unfold joinR; rw [hr]
    rw [hj]
    generalize unionR l0 l1 = u at hun ⊢
    have HRT := Aside0.mk hright
    have HUN := Aside0.mk hun
    clear hr0 hr1 hright hr hj hun hs0 hs1 hl0 hl1
    by_cases hu : u.length > 200
    · have huz : (u.length : Int) > 200 := by omega
      rw [if_pos hu]
      go_enter Try.func28, Try.ntmps28
      go_wp2_with (first | (go_at_call 47; refine (HRT.out _ _ (cells2 w A0 A1 c0 c1 _ _ _).1 (cells2 w A0 A1 c0 c1 _ _ _).2 (Kd.C_alloc HR0.out _) (Kd.C_alloc HR1.out _)).mono ?_; rintro e w' ⟨he, hb⟩; rw [errW_none] at he; subst he; have HB1 := Aside0.mk (below_step (below_alloc HB.out _) hb); clear hb) | (go_at_call 60; refine (HUN.out _ (Kd.C_below HR0.out HB1.out) (Kd.C_below HR1.out HB1.out)).mono ?_; rintro e w' ⟨v, rfl, hv, hb⟩; obtain ⟨Au, cu, rfl, hCu, hcu⟩ := hv; have HB2 := Aside0.mk (below_step HB1.out hb); clear hb hCu hcu))
      go_ret2
      exact ⟨_, rfl, Row.nil _, HB2.out⟩
    · have huz : ¬ (u.length : Int) > 200 := by omega
      rw [if_neg hu]
      go_enter Try.func28, Try.ntmps28
      go_wp2_with (first | (go_at_call 47; refine (HRT.out _ _ (cells2 w A0 A1 c0 c1 _ _ _).1 (cells2 w A0 A1 c0 c1 _ _ _).2 (Kd.C_alloc HR0.out _) (Kd.C_alloc HR1.out _)).mono ?_; rintro e w' ⟨he, hb⟩; rw [errW_none] at he; subst he; have HB1 := Aside0.mk (below_step (below_alloc HB.out _) hb); clear hb) | (go_at_call 60; refine (HUN.out _ (Kd.C_below HR0.out HB1.out) (Kd.C_below HR1.out HB1.out)).mono ?_; rintro e w' ⟨v, rfl, hv, hb⟩; obtain ⟨Au, cu, rfl, hCu, hcu⟩ := hv; have HB2 := Aside0.mk (below_step HB1.out hb); have HU := Aside0.mk (And.intro hCu hcu); clear hb hCu hcu))
      go_ret2
      exact ⟨_, rfl, ⟨_, _, rfl, HU.out.1, HU.out.2⟩, HB2.out⟩
set_option maxHeartbeats 4000000 in
set_option maxRecDepth 100000 in
theorem less_calls (A0 A1 : Option Addr) (c0 c1 : Nat) (l0 l1 : List S41) (w : World) (hr0 : Kd.C k41 w A0 l0.length l0) (hc0 : l0.length ≤ c0) (hr1 : Kd.C k41 w A1 l1.length l1) (hc1 : l1.length ≤ c1) :
    Calls Try.prog 29 #[.slice A0 l0.length c0, .slice A1 l1.length c1] w fun e w' => ∃ v, e = .returned (.tuple #[v, errW (bothR l0 l1 false).2]) ∧ Row w' v (bothR l0 l1 false).1 ∧ Below w.heap.size w w' := by
  have HR0 := Aside0.mk hr0
  have HR1 := Aside0.mk hr1
  have HB := Aside0.mk (Below.refl w.heap.size w)
  have hright := fun W g0 h0 h1 hC0 hC1 => right2_calls g0 A0 A1 c0 c1 l0 l1 W h0 h1 hC0 hC1 hc0 hc1
  obtain ⟨r, hr⟩ : ∃ r, right2 l0 l1 = r := ⟨_, rfl⟩
  rw [hr] at hright
  cases r with
  | some n =>
    have hj : bothR l0 l1 false = ([], some n) := by unfold bothR; rw [hr]
    rw [hj]
    have HRT := Aside0.mk hright
    clear hr0 hr1 hright hr hj
    go_enter Try.func29, Try.ntmps29
    go_wp2_with (go_at_call 47; refine (HRT.out _ _ (cells2 w A0 A1 c0 c1 _ _ _).1 (cells2 w A0 A1 c0 c1 _ _ _).2 (Kd.C_alloc HR0.out _) (Kd.C_alloc HR1.out _)).mono ?_; rintro e w' ⟨he, hb⟩; rw [errW_some] at he; subst he; have HB1 := Aside0.mk hb; clear hb)
    go_ret2
    exact ⟨_, rfl, Row.nil _, below_step (below_alloc HB.out _) HB1.out⟩
  | none =>
    obtain ⟨hs0, hs1⟩ := right2_none.1 hr
    have hl0 := sortedR_len hs0
    have hun := fun W hC0 hC1 => part_calls A0 c0 l0 A1 c1 l1 false W hC0 hc0 hC1 hc1 (by omega) hs1
    have hj : bothR l0 l1 false = (partR l0 l1 false, none) := by unfold bothR; rw [hr]
    rw [hj]
    generalize partR l0 l1 false = u at hun ⊢
    have HRT := Aside0.mk hright
    have HUN := Aside0.mk hun
    clear hr0 hr1 hright hr hj hun hs0 hs1 hl0
    go_enter Try.func29, Try.ntmps29
    go_wp2_with (first | (go_at_call 47; refine (HRT.out _ _ (cells2 w A0 A1 c0 c1 _ _ _).1 (cells2 w A0 A1 c0 c1 _ _ _).2 (Kd.C_alloc HR0.out _) (Kd.C_alloc HR1.out _)).mono ?_; rintro e w' ⟨he, hb⟩; rw [errW_none] at he; subst he; have HB1 := Aside0.mk (below_step (below_alloc HB.out _) hb); clear hb) | (go_at_call 49; refine (HUN.out _ (Kd.C_below HR0.out HB1.out) (Kd.C_below HR1.out HB1.out)).mono ?_; rintro e w' ⟨v, rfl, hv, hb⟩; obtain ⟨Au, cu, rfl, hCu, hcu⟩ := hv; have HB2 := Aside0.mk (below_step HB1.out hb); have HU := Aside0.mk (And.intro hCu hcu); clear hb hCu hcu))
    go_ret2
    exact ⟨_, rfl, ⟨_, _, rfl, HU.out.1, HU.out.2⟩, HB2.out⟩
end Go.Proofs.Ytdjamphmndbmjaa.M
