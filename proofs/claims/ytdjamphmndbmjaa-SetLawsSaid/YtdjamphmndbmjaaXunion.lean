/- set.Union: of two lists the triples, sorted, each once. By hand. -/
import Derived.Test.YtdjamphmndbmjaaXconcat
import Derived.Test.YtdjamphmndbmjaaXsr
import Derived.Test.YtdjamphmndbmjaaXcompact
namespace Go.Proofs.Ytdjamphmndbmjaa.M
open Go.RowKit Go.Proofs.YtdjamphmndbmjaaW.PrintWords Go.Proofs.YtdjamphmndbmjaaW.PrintLast Go.Proofs.YtdjamphmndbmjaaW.PrintMore
set_option linter.unusedVariables false
set_option linter.unusedSimpArgs false

/-- What both have together, sorted, each once. -/
def unionR (a b : List S41) : List S41 := uniq (sortL (a ++ b))
def set_Union.f (l0 : List S41) (l1 : List S41) : Option (List S41) := if (l0.length + l1.length) * 120 ≤ 140737488355328 then some (unionR l0 l1) else none
set_option maxHeartbeats 4000000 in
set_option maxRecDepth 100000 in
theorem set_Union.calls (A0 : Option Addr) (c0 : Nat) (l0 : List S41) (A1 : Option Addr) (c1 : Nat) (l1 : List S41) (r : List S41) (w : World) (hr0 : Kd.C k41 w A0 l0.length l0) (hc0 : l0.length ≤ c0) (hr1 : Kd.C k41 w A1 l1.length l1) (hc1 : l1.length ≤ c1) (h : set_Union.f l0 l1 = some r) :
    Calls Try.prog 60 #[.slice A0 l0.length c0, .slice A1 l1.length c1] w fun e w' => ∃ v0_ : Value, e = .returned (v0_) ∧ Kd.R k41 41 w' w.heap.size (fun _ => True) v0_ r ∧ Below w.heap.size w w' := by
  unfold set_Union.f at h
  split at h
  · rename_i hm
    obtain rfl := Option.some.inj h
    clear h
    have hcat := fun (W : World) (g0 : Nat) (h0 : W.cell? ⟨g0, 0, none⟩ = some (.slice A0 l0.length c0)) (h1 : W.cell? ⟨g0, 1, none⟩ = some (.slice A1 l1.length c1)) (hC0 : Kd.C k41 W A0 l0.length l0) (hC1 : Kd.C k41 W A1 l1.length l1) => concat_calls g0 A0 A1 c0 c1 l0 l1 W h0 h1 hC0 hC1 hc0 hc1 hm
    have HCAT := Aside0.mk hcat
    have hll : (l0 ++ l1).length < 4611686018427387904 := by rw [List.length_append]; omega
    have hsrt := fun (base : Nat) (A : Option Addr) (cap : Nat) (W : World) (hR : Kd.R k41 41 W base (fun _ => True) (.slice A (l0 ++ l1).length cap) (l0 ++ l1)) => srt_calls base A cap (l0 ++ l1) W hR hll
    have hcmp := fun (base : Nat) (A : Option Addr) (cap : Nat) (W : World) (hR : Kd.R k41 41 W base (fun _ => True) (.slice A (sortL (l0 ++ l1)).length cap) (sortL (l0 ++ l1))) (hb : base ≤ W.heap.size) => cmpt_calls base A cap (sortL (l0 ++ l1)) W hR hb
    unfold unionR
    rw [sortL_length] at hcmp
    generalize hn : (l0 ++ l1).length = n at hsrt hcmp
    have HN := Aside0.mk hn
    clear hn
    generalize hsl : sortL (l0 ++ l1) = sl at hsrt hcmp ⊢
    have HSRT := Aside0.mk hsrt
    have HCMP := Aside0.mk hcmp
    have HR0 := Aside0.mk hr0
    have HR1 := Aside0.mk hr1
    have HB := Aside0.mk (Below.refl w.heap.size w)
    clear hcat hsrt hcmp hr0 hr1 hll hsl
    go_enter Try.func60, Try.ntmps60
    go_wp2_with (first | (go_at_call 87; refine (HCAT.out _ _ ?h0 ?h1 (Kd.C_alloc HR0.out _) (Kd.C_alloc HR1.out _)).mono ?_; (case h0 => exact (blk_cell (blk_new w _) 0).trans rfl); (case h1 => exact (blk_cell (blk_new w _) 1).trans rfl); rintro e w' ⟨⟨v, rfl, hv⟩, hb⟩; obtain ⟨A, c, ev⟩ := Kd.R_slice hv; rw [HN.out] at ev; subst ev; have HV1 := Aside0.mk hv; have HB1 := Aside0.mk hb; clear hv hb) | (go_at_call 88; refine (HSRT.out _ _ _ _ HV1.out).mono ?_; rintro e w' ⟨rfl, hv, hb, hsz⟩; have HV2 := Aside0.mk hv; have HB2 := Aside0.mk (And.intro hb hsz); clear hv hb hsz) | (go_at_call 89; refine (HCMP.out _ _ _ _ HV2.out ?hbs).mono ?_; (case hbs => exact Nat.le_trans HB1.out.size HB2.out.2); rintro e w' ⟨⟨v, rfl, hv⟩, hb, hsz⟩; have HV3 := Aside0.mk hv; have HB3 := Aside0.mk (And.intro hb hsz); clear hv hb hsz))
    go_ret
    refine ⟨_, rfl, Kd.R_lower HV3.out ?_, ?_⟩
    · rw [alloc_size1]; omega
    · exact (below_step (below_alloc HB.out _) HB1.out).trans ((HB2.out.1.trans HB3.out.1).mono (by rw [alloc_size1]; omega))
  · cases h
end Go.Proofs.Ytdjamphmndbmjaa.M
