/- set.Part: what of a set is, or is not, in another one. By hand. -/
import Derived.Test.YtdjamphmndbmjaaXdel
import Derived.Test.YtdjamphmndbmjaaXin
import Derived.Lib.SliceRun
namespace Go.Proofs.Ytdjamphmndbmjaa.M
open Go.RowKit Go.Proofs.YtdjamphmndbmjaaW.PrintWords Go.Proofs.YtdjamphmndbmjaaW.PrintLast Go.Proofs.YtdjamphmndbmjaaW.PrintMore
set_option linter.unusedVariables false
set_option linter.unusedSimpArgs false

open Go.Sort
theorem cell?_alloc_old {W : World} {a : Addr} {v : Value} (h : W.cell? a = some v) (o : Obj) : (W.alloc o).cell? a = some v := Lib.cell?_alloc_some o h
theorem part1_calls (x : S41) (W : World) (pb pi : Nat) (A : Option Addr) (c : Nat) (b : List S41) (is : Bool) (hb : W.cell? ⟨pb, 0, none⟩ = some (.slice A b.length c)) (hi : W.cell? ⟨pi, 0, none⟩ = some (.bool is)) (hC : Kd.C k41 W A b.length b) (hs : sortedR b = none) :
    Calls Try.prog 74 #[aggR x, .pointer (some ⟨pb, 0, none⟩), .pointer (some ⟨pi, 0, none⟩)] W fun e w' => e = .returned (.bool (inR b x != is)) ∧ Below W.heap.size W w' := by
  have mixed : Try.prog.follows .mixedOrders = true := by kernel_rfl
  have hcall := fun n os => inR_grown A c b x (grow ((W.alloc (.cells (celR x) 41)).drewN n) os) (Kd.C_below (Kd.C_alloc hC _) (grow_below _ n os)) hs
  have HB0 := Aside0.mk (Below.refl W.heap.size W)
  have hbg := fun n os => grown_cell ((cell?_alloc_old hb (.cells (celR x) 41))) n os
  have hig := fun n os => grown_cell ((cell?_alloc_old hi (.cells (celR x) 41))) n os
  have hbx := fun (c : Nat) (v : Value) (h : (celR x)[c]? = some v) (n : Nat) (os : Array Obj) => grown_cell ((blk_cell (blk_new W (.cells (celR x) 41)) c).trans h) n os
  have b0 := hbx 0 (.int .i64 x.f0.f0) rfl; have b1 := hbx 1 (.string x.f0.f1) rfl; have b2 := hbx 2 (.string x.f0.f2) rfl; have b3 := hbx 3 (.int .i64 x.f1.f0) rfl; have b4 := hbx 4 (.string x.f1.f1) rfl; have b5 := hbx 5 (.string x.f1.f2) rfl; have b6 := hbx 6 (.int .i64 x.f2.f0) rfl; have b7 := hbx 7 (.string x.f2.f1) rfl; have b8 := hbx 8 (.string x.f2.f2) rfl
  unfold celR at hcall hbg hig b0 b1 b2 b3 b4 b5 b6 b7 b8
  clear hbx
  generalize inR b x = r at hcall ⊢
  have HC := Aside0.mk hcall
  clear hcall hs hC hb hi
  unfold aggR
  cases r <;> cases is <;>
  · go_enter Try.func74, Try.ntmps74
    go_wp2
    go_quiet_grown ((go_at_call 48; exact Calls.grown_of (HC.out _ _)))
    go_wp2
    go_ret
    exact ⟨rfl, below_step (below_alloc HB0.out _) (grow_below _ _ _)⟩

def set_Part.f (l0 : List S41) (l1 : List S41) (a2 : Bool) : Option (List S41) :=
  if l0.length < 1172812402961 ∧ sortedR l1 = none then some (l0.filter fun t => inR l1 t == a2) else none
set_option maxHeartbeats 4000000 in
set_option maxRecDepth 100000 in
theorem set_Part.calls (A0 : Option Addr) (c0 : Nat) (l0 : List S41) (A1 : Option Addr) (c1 : Nat) (l1 : List S41) (a2 : Bool) (r : List S41) (w : World) (hr0 : Kd.C k41 w A0 l0.length l0) (hc0 : l0.length ≤ c0) (hr1 : Kd.C k41 w A1 l1.length l1) (hc1 : l1.length ≤ c1) (h : set_Part.f l0 l1 a2 = some r) :
    Calls Try.prog 49 #[.slice A0 l0.length c0, .slice A1 l1.length c1, .bool a2] w fun e w' => ∃ v0_ : Value, e = .returned (v0_) ∧ Kd.R k41 41 w' w.heap.size (fun _ => True) v0_ r ∧ Below w.heap.size w w' := by
  unfold set_Part.f at h
  split at h
  · rename_i hcond
    obtain ⟨hl, hs⟩ := hcond
    obtain rfl := Option.some.inj h
    have e74 : ∀ args w, (callFunc 74 args).run Try.prog w = .ok (.enter 74 args) w := enters_of Try.func74 (by kernel_rfl) rfl
    have hcl : clone_T.f l0 = some l0 := by unfold clone_T.f; rw [if_pos hl]
    have hclone := fun W (hC : Kd.C k41 W A0 l0.length l0) => clone_T.calls A0 c0 l0 l0 W hC hc0 hcl
    have hdel := fun (W1 W : World) (pb pi : Nat) (h1 : W1.cell? ⟨pb, 0, none⟩ = some (.slice A1 l1.length c1)) (h2 : W1.cell? ⟨pi, 0, none⟩ = some (.bool a2)) (hC : Kd.C k41 W1 A1 l1.length l1) (A : Option Addr) (cap : Nat) (hR : Kd.R k41 41 W W1.heap.size (fun _ => True) (.slice A l0.length cap) l0) (hB : Below W1.heap.size W1 W) =>
      delR_calls 74 #[.pointer (some ⟨pb, 0, none⟩), .pointer (some ⟨pi, 0, none⟩)] (fun x => inR l1 x != a2) W1.heap.size W1 A cap l0 W e74 hR hB hB.size
        (fun x W2 _ hB2 => part1_calls x W2 pb pi A1 c1 l1 a2 ((hB2.cell (World.block_lt_of_cell? W1 _ h1)).trans h1) ((hB2.cell (World.block_lt_of_cell? W1 _ h2)).trans h2) (Kd.C_below hC hB2) hs)
    have hfil : (l0.filter fun t => inR l1 t == a2) = l0.filter fun x => !(inR l1 x != a2) := by
      congr 1
      funext x
      cases inR l1 x <;> cases a2 <;> rfl
    rw [hfil]
    generalize (l0.filter fun x => !(inR l1 x != a2)) = res at hdel ⊢
    have HDEL := Aside0.mk hdel
    have HCLONE := Aside0.mk hclone
    have HR0 := Aside0.mk hr0
    have HR1 := Aside0.mk hr1
    have HB := Aside0.mk (Below.refl w.heap.size w)
    clear hdel hclone hr0 hr1 hfil h hcl hs hl
    go_enter Try.func49, Try.ntmps49
    have HS1 : Aside0 (((w.alloc (.cells #[.slice A1 l1.length c1] 26)).alloc (.cells #[.bool a2] 4)).cell? ⟨w.heap.size, 0, none⟩ = some (.slice A1 l1.length c1)) := ⟨cell?_alloc_old ((blk_cell (blk_new w _) 0).trans rfl) _⟩
    have HS2 : Aside0 (((w.alloc (.cells #[.slice A1 l1.length c1] 26)).alloc (.cells #[.bool a2] 4)).cell? ⟨w.heap.size + 1, 0, none⟩ = some (.bool a2)) := ⟨by rw [← alloc_size1 w (.cells #[.slice A1 l1.length c1] 26)]; exact (blk_cell (blk_new _ _) 0).trans rfl⟩
    go_wp2_with (first | (go_at_call 62; refine (HCLONE.out _ (Kd.C_alloc (Kd.C_alloc HR0.out _) _)).mono ?_; rintro e w' ⟨v1, rfl, hRc, hbb⟩; obtain ⟨Ac, cc, ec⟩ := Kd.R_slice hRc; subst ec; have HRC := Aside0.mk hRc; have HB1 := Aside0.mk hbb; clear hRc hbb) | (go_at_call 70; refine (HDEL.out _ _ _ _ HS1.out HS2.out (Kd.C_alloc (Kd.C_alloc HR1.out _) _) Ac cc HRC.out HB1.out).mono ?_; rintro e w' ⟨⟨v2, rfl, hRd⟩, hbb, _⟩; have HRD := Aside0.mk hRd; have HB2 := Aside0.mk hbb; clear hRd hbb))
    go_ret
    refine ⟨_, rfl, Kd.R_lower HRD.out ?_, below_step (below_alloc (below_alloc HB.out _) _) HB2.out⟩
    rw [alloc_size1, alloc_size1]
    omega
  · cases h
end Go.Proofs.Ytdjamphmndbmjaa.M
