/- Part 3 of 4 of the proof of ChainSameSaid: a law of the given program, for every input; no condition is added. -/
import Derived.Test.YtdjamphmndbmjaaChainSameB1
import Derived.Lib.SliceRun
import Derived.Shelf.SlSortCmp.NoneTotal
import Derived.Shelf.SlGeneric
import Derived.Ground.SlsfProg
import Derived.Test.YtdjamphmndbmjaaProg
import Derived.Deep.RegionHeld3
/- set.In: of a set that is sorted, whether a triple is in it. By hand. -/
namespace Go.Proofs.Ytdjamphmndbmjaa.M
open Go.RowKit Go.Proofs.YtdjamphmndbmjaaW.PrintWords Go.Proofs.YtdjamphmndbmjaaW.PrintLast Go.Proofs.YtdjamphmndbmjaaW.PrintMore
set_option linter.unusedVariables false
set_option linter.unusedSimpArgs false

/-- Is a triple in a list? -/
def inR (l : List S41) (t : S41) : Bool := l.any fun x => decide (x = t)
def set_In.f (l0 : List S41) (a1_0 : Int) (a1_1 : ByteArray) (a1_2 : ByteArray) (a1_3 : Int) (a1_4 : ByteArray) (a1_5 : ByteArray) (a1_6 : Int) (a1_7 : ByteArray) (a1_8 : ByteArray) : Option Bool :=
  if sortedR l0 = none then some (inR l0 ⟨⟨a1_0, a1_1, a1_2⟩, ⟨a1_3, a1_4, a1_5⟩, ⟨a1_6, a1_7, a1_8⟩⟩) else none

theorem bs_in {l : List S41} {t : S41} (i : Nat) (h1 : ∀ k (h : k < l.length), k < i → cmpR l[k] t < 0) (h2 : ∀ k (h : k < l.length), i ≤ k → 0 ≤ cmpR l[k] t) (hs : l.Pairwise (fun a b => cmpR a b < 0)) : decide (∃ h : i < l.length, cmpR l[i] t = 0) = inR l t := by
  unfold inR
  rw [Bool.eq_iff_iff, decide_eq_true_iff, List.any_eq_true]
  constructor
  · rintro ⟨h, hz⟩
    exact ⟨l[i], List.getElem_mem h, decide_eq_true ((lawR.zero _ _).1 hz)⟩
  · rintro ⟨x, hx, he⟩
    obtain rfl := of_decide_eq_true he
    obtain ⟨k, hk, hkx⟩ := List.getElem_of_mem hx
    have hz : cmpR l[k] x = 0 := (lawR.zero _ _).2 hkx
    have hik : i ≤ k := by
      rcases Nat.lt_or_ge k i with h | h
      · have := h1 k hk h; omega
      · exact h
    rcases Nat.lt_or_ge i k with h | h
    · have h3 := h2 i (by omega) (Nat.le_refl _)
      have h4 := List.pairwise_iff_getElem.1 hs i k (by omega) hk h
      rw [hkx] at h4
      omega
    · obtain rfl : i = k := by omega
      exact ⟨hk, hz⟩

theorem inR_grown (A0 : Option Addr) (c0 : Nat) (l0 : List S41) (x : S41) (w : World) (hr0 : Kd.C k41 w A0 l0.length l0) (hs : sortedR l0 = none) :
    Calls Try.prog 48 #[.slice A0 l0.length c0, .agg #[.int .i64 x.f0.f0, .string x.f0.f1, .string x.f0.f2, .int .i64 x.f1.f0, .string x.f1.f1, .string x.f1.f2, .int .i64 x.f2.f0, .string x.f2.f1, .string x.f2.f2]] w fun e w' => e = .returned (.bool (inR l0 x)) ∧ ∃ q os, w' = Sort.grow (w.drewN q) os := by
  obtain ⟨hn, _, hp⟩ := sortedR_none hs
  have hbs := fun W (hC : Kd.C k41 W A0 l0.length l0) => bs_calls A0 c0 l0 x W hC hn hp
  have HP := Aside0.mk hp
  have HR := Aside0.mk hr0
  have HBS := Aside0.mk hbs
  obtain ⟨r, hr⟩ : ∃ r, inR l0 x = r := ⟨_, rfl⟩
  rw [hr]
  have HRR := Aside0.mk hr
  clear hbs hr0 hp hn hs hr
  go_enter Try.func48, Try.ntmps48
  go_wp2_with (go_at_call 73; refine (HBS.out _ (Kd.C_alloc HR.out _)).mono ?_; rintro e w' ⟨⟨i, _, h1, h2, rfl⟩, hb⟩; have H1 := Aside0.mk h1; have H2 := Aside0.mk h2; have HB1 := Aside0.mk (alloc_grown hb); clear h1 h2 hb)
  go_ret
  refine ⟨?_, HB1.out⟩
  rw [← HRR.out, ← bs_in i H1.out H2.out HP.out]
  rfl
theorem inR_calls (A0 : Option Addr) (c0 : Nat) (l0 : List S41) (x : S41) (w : World) (hr0 : Kd.C k41 w A0 l0.length l0) (hs : sortedR l0 = none) :
    Calls Try.prog 48 #[.slice A0 l0.length c0, .agg #[.int .i64 x.f0.f0, .string x.f0.f1, .string x.f0.f2, .int .i64 x.f1.f0, .string x.f1.f1, .string x.f1.f2, .int .i64 x.f2.f0, .string x.f2.f1, .string x.f2.f2]] w fun e w' => e = .returned (.bool (inR l0 x)) ∧ Below w.heap.size w w' :=
  (inR_grown A0 c0 l0 x w hr0 hs).mono fun _ _ ⟨he, hb⟩ => ⟨he, grown_below hb⟩
theorem set_In.calls (A0 : Option Addr) (c0 : Nat) (l0 : List S41) (a1_0 : Int) (a1_1 : ByteArray) (a1_2 : ByteArray) (a1_3 : Int) (a1_4 : ByteArray) (a1_5 : ByteArray) (a1_6 : Int) (a1_7 : ByteArray) (a1_8 : ByteArray) (r : Bool) (w : World) (hr0 : Kd.C k41 w A0 l0.length l0) (hc0 : l0.length ≤ c0) (h : set_In.f l0 a1_0 a1_1 a1_2 a1_3 a1_4 a1_5 a1_6 a1_7 a1_8 = some r) :
    Calls Try.prog 48 #[.slice A0 l0.length c0, .agg #[.int .i64 a1_0, .string a1_1, .string a1_2, .int .i64 a1_3, .string a1_4, .string a1_5, .int .i64 a1_6, .string a1_7, .string a1_8]] w fun e w' => e = .returned (.bool r) ∧ Below w.heap.size w w' := by
  unfold set_In.f at h
  split at h
  · rename_i hs
    obtain rfl := Option.some.inj h
    exact inR_calls A0 c0 l0 ⟨⟨a1_0, a1_1, a1_2⟩, ⟨a1_3, a1_4, a1_5⟩, ⟨a1_6, a1_7, a1_8⟩⟩ w hr0 hs
  · cases h
end Go.Proofs.Ytdjamphmndbmjaa.M

/- set.Part: what of a set is, or is not, in another one. By hand. -/
namespace Go.Proofs.Ytdjamphmndbmjaa.M
open Go.RowKit Go.Proofs.YtdjamphmndbmjaaW.PrintWords Go.Proofs.YtdjamphmndbmjaaW.PrintLast Go.Proofs.YtdjamphmndbmjaaW.PrintMore
set_option linter.unusedVariables false
set_option linter.unusedSimpArgs false

open Go.Sort
theorem cell?_alloc_old {W : World} {a : Addr} {v : Value} (h : W.cell? a = some v) (o : Obj) : (W.alloc o).cell? a = some v := Lib.cell?_alloc_some o h
theorem part1_calls (x : S41) (W : World) (pb pi : Nat) (A : Option Addr) (c : Nat) (b : List S41) (is : Bool) (hb : W.cell? ⟨pb, 0, none⟩ = some (.slice A b.length c)) (hi : W.cell? ⟨pi, 0, none⟩ = some (.bool is)) (hC : Kd.C k41 W A b.length b) (hs : sortedR b = none) :
    Calls Try.prog 74 #[aggR x, .pointer (some ⟨pb, 0, none⟩), .pointer (some ⟨pi, 0, none⟩)] W fun e w' => e = .returned (.bool (inR b x != is)) ∧ Below W.heap.size W w' := by
  have mixed : Try.prog.follows .mixedOrders = true := by kernel_rfl
  have hcall := fun n os => inR_grown A c b x (grow ((W.alloc (.cells (celR x) 41)).drewN n) os) (Kd.C_below (Kd.C_alloc hC _) (grow_below _ n os)) hs
  have HB0 := Aside0.mk (Below.refl W.heap.size W)
  have hbg := fun n os => grown_cell ((cell?_alloc_old hb (.cells (celR x) 41))) n os
  have hig := fun n os => grown_cell ((cell?_alloc_old hi (.cells (celR x) 41))) n os
  have hbx := fun (c : Nat) (v : Value) (h : (celR x)[c]? = some v) (n : Nat) (os : Array Obj) => grown_cell ((blk_cell (blk_new W (.cells (celR x) 41)) c).trans h) n os
  have b0 := hbx 0 (.int .i64 x.f0.f0) rfl; have b1 := hbx 1 (.string x.f0.f1) rfl; have b2 := hbx 2 (.string x.f0.f2) rfl; have b3 := hbx 3 (.int .i64 x.f1.f0) rfl; have b4 := hbx 4 (.string x.f1.f1) rfl; have b5 := hbx 5 (.string x.f1.f2) rfl; have b6 := hbx 6 (.int .i64 x.f2.f0) rfl; have b7 := hbx 7 (.string x.f2.f1) rfl; have b8 := hbx 8 (.string x.f2.f2) rfl
  unfold celR at hcall hbg hig b0 b1 b2 b3 b4 b5 b6 b7 b8
  clear hbx
  generalize inR b x = r at hcall ⊢
  have HC := Aside0.mk hcall
  clear hcall hs hC hb hi
  unfold aggR
  cases r <;> cases is <;>
  · go_enter Try.func74, Try.ntmps74
    go_wp2
    go_quiet_grown ((go_at_call 48; exact Calls.grown_of (HC.out _ _)))
    go_wp2
    go_ret
    exact ⟨rfl, below_step (below_alloc HB0.out _) (grow_below _ _ _)⟩

def set_Part.f (l0 : List S41) (l1 : List S41) (a2 : Bool) : Option (List S41) :=
  if l0.length < 1172812402961 ∧ sortedR l1 = none then some (l0.filter fun t => inR l1 t == a2) else none
set_option maxHeartbeats 4000000 in
set_option maxRecDepth 100000 in
theorem set_Part.calls (A0 : Option Addr) (c0 : Nat) (l0 : List S41) (A1 : Option Addr) (c1 : Nat) (l1 : List S41) (a2 : Bool) (r : List S41) (w : World) (hr0 : Kd.C k41 w A0 l0.length l0) (hc0 : l0.length ≤ c0) (hr1 : Kd.C k41 w A1 l1.length l1) (hc1 : l1.length ≤ c1) (h : set_Part.f l0 l1 a2 = some r) :
    Calls Try.prog 49 #[.slice A0 l0.length c0, .slice A1 l1.length c1, .bool a2] w fun e w' => ∃ v0_ : Value, e = .returned (v0_) ∧ Kd.R k41 41 w' w.heap.size (fun _ => True) v0_ r ∧ Below w.heap.size w w' := by
  unfold set_Part.f at h
  split at h
  · rename_i hcond
    obtain ⟨hl, hs⟩ := hcond
    obtain rfl := Option.some.inj h
    have e74 : ∀ args w, (callFunc 74 args).run Try.prog w = .ok (.enter 74 args) w := enters_of Try.func74 (by kernel_rfl) rfl
    have hcl : clone_T.f l0 = some l0 := by unfold clone_T.f; rw [if_pos hl]
    have hclone := fun W (hC : Kd.C k41 W A0 l0.length l0) => clone_T.calls A0 c0 l0 l0 W hC hc0 hcl
    have hdel := fun (W1 W : World) (pb pi : Nat) (h1 : W1.cell? ⟨pb, 0, none⟩ = some (.slice A1 l1.length c1)) (h2 : W1.cell? ⟨pi, 0, none⟩ = some (.bool a2)) (hC : Kd.C k41 W1 A1 l1.length l1) (A : Option Addr) (cap : Nat) (hR : Kd.R k41 41 W W1.heap.size (fun _ => True) (.slice A l0.length cap) l0) (hB : Below W1.heap.size W1 W) =>
      delR_calls 74 #[.pointer (some ⟨pb, 0, none⟩), .pointer (some ⟨pi, 0, none⟩)] (fun x => inR l1 x != a2) W1.heap.size W1 A cap l0 W e74 hR hB hB.size
        (fun x W2 _ hB2 => part1_calls x W2 pb pi A1 c1 l1 a2 ((hB2.cell (World.block_lt_of_cell? W1 _ h1)).trans h1) ((hB2.cell (World.block_lt_of_cell? W1 _ h2)).trans h2) (Kd.C_below hC hB2) hs)
    have hfil : (l0.filter fun t => inR l1 t == a2) = l0.filter fun x => !(inR l1 x != a2) := by
      congr 1
      funext x
      cases inR l1 x <;> cases a2 <;> rfl
    rw [hfil]
    generalize (l0.filter fun x => !(inR l1 x != a2)) = res at hdel ⊢
    have HDEL := Aside0.mk hdel
    have HCLONE := Aside0.mk hclone
    have HR0 := Aside0.mk hr0
    have HR1 := Aside0.mk hr1
    have HB := Aside0.mk (Below.refl w.heap.size w)
    clear hdel hclone hr0 hr1 hfil h hcl hs hl
    go_enter Try.func49, Try.ntmps49
    have HS1 : Aside0 (((w.alloc (.cells #[.slice A1 l1.length c1] 26)).alloc (.cells #[.bool a2] 4)).cell? ⟨w.heap.size, 0, none⟩ = some (.slice A1 l1.length c1)) := ⟨cell?_alloc_old ((blk_cell (blk_new w _) 0).trans rfl) _⟩
    have HS2 : Aside0 (((w.alloc (.cells #[.slice A1 l1.length c1] 26)).alloc (.cells #[.bool a2] 4)).cell? ⟨w.heap.size + 1, 0, none⟩ = some (.bool a2)) := ⟨by rw [← alloc_size1 w (.cells #[.slice A1 l1.length c1] 26)]; exact (blk_cell (blk_new _ _) 0).trans rfl⟩
    go_wp2_with (first | (go_at_call 62; refine (HCLONE.out _ (Kd.C_alloc (Kd.C_alloc HR0.out _) _)).mono ?_; rintro e w' ⟨v1, rfl, hRc, hbb⟩; obtain ⟨Ac, cc, ec⟩ := Kd.R_slice hRc; subst ec; have HRC := Aside0.mk hRc; have HB1 := Aside0.mk hbb; clear hRc hbb) | (go_at_call 70; refine (HDEL.out _ _ _ _ HS1.out HS2.out (Kd.C_alloc (Kd.C_alloc HR1.out _) _) Ac cc HRC.out HB1.out).mono ?_; rintro e w' ⟨⟨v2, rfl, hRd⟩, hbb, _⟩; have HRD := Aside0.mk hRd; have HB2 := Aside0.mk hbb; clear hRd hbb))
    go_ret
    refine ⟨_, rfl, Kd.R_lower HRD.out ?_, below_step (below_alloc (below_alloc HB.out _) _) HB2.out⟩
    rw [alloc_size1, alloc_size1]
    omega
  · cases h
end Go.Proofs.Ytdjamphmndbmjaa.M

/- slices.Grow of nil and slices.Concat of two, at []api.Triple. By hand. -/
namespace Go.Proofs.Ytdjamphmndbmjaa.M
open Go.RowKit Go.Proofs.YtdjamphmndbmjaaW.PrintWords Go.Proofs.YtdjamphmndbmjaaW.PrintLast Go.Proofs.YtdjamphmndbmjaaW.PrintMore
set_option linter.unusedVariables false
set_option linter.unusedSimpArgs false

theorem append_event {P : Program} {ops : Array Oper} {rest : List Oper} {o : Oper} {a : Act} {Q : Exit → Act → World → Prop} {W w1 : World} (hgd : o.guard = none) (s x : Operand) (t t' : TypeId)
    (ho : o.op = .call { callee := .builtin .append, args := #[s, x], argTypes := #[t, t'] }) (vs vx v : Value) (hs : a.eval s = vs) (hx : a.eval x = vx) (hr : (Builtin.append_ #[t, t'] o.type #[vs, vx]).run P W = .ok v w1)
    (h : wpList P ops Q rest (a.put o.dst v) w1) : wpList P ops Q (o :: rest) a W := by
  refine wpList_plain hgd fun K hK => ?_
  unfold Oper.wp execOp
  simp only [ho, resolve, invoke, builtin, Sem.run_bind, Sem.run_pure, Result.andThen_ok, List.map_toArray, List.map_cons, List.map_nil, hs, hx, hr]
  exact hK _ _ h
theorem R_of_empty {w : World} {base g m c : Nat} {xs : List Value} (h : w.ownsRow base 41 9 (.slice (some ⟨g, 0, none⟩) m c) m xs) : Kd.R k41 41 w base (fun _ => True) (.slice (some ⟨g, 0, none⟩) 0 c) ([] : List S41) := by
  rcases h.2 with ⟨hv, _⟩ | ⟨g', cap, cur, hv, hb, hh, hnc, hcm, hcs, htk⟩
  · cases hv
  · injection hv with ha hn hc
    injection ha with ha
    injection ha with hg
    subst hg; subst hc
    exact ⟨fun _ _ => trivial, [], ⟨rfl, .inr ⟨g, c, cur, rfl, hb, hh, Nat.zero_le _, hcm, hcs, by simp⟩⟩, Reps.none _ _⟩
theorem zeros_one : ∀ j : Nat, Value.oneCell' ((Value.agg #[(.int .i64 0), (.string ⟨#[]⟩), (.string ⟨#[]⟩), (.int .i64 0), (.string ⟨#[]⟩), (.string ⟨#[]⟩), (.int .i64 0), (.string ⟨#[]⟩), (.string ⟨#[]⟩)]).cells[j]!) = true := by
  intro j
  rcases j with _ | _ | _ | _ | _ | _ | _ | _ | _ | j <;> rfl
set_option maxHeartbeats 4000000 in
set_option maxRecDepth 100000 in
theorem grow_calls (m : Nat) (w : World) (hm : m * 120 ≤ 140737488355328) :
    Calls Try.prog 100 #[.slice none 0 0, .int .i64 m] w fun e w' => (∃ v, e = .returned v ∧ Kd.R k41 41 w' w.heap.size (fun _ => True) v ([] : List S41)) ∧ Below w.heap.size w w' := by
  have h0 : ¬ (m : Int) < 0 := by omega
  rcases Nat.eq_zero_or_pos m with hz | hp
  · subst hz
    go_enter Try.func100, Try.ntmps100
    go_wp2
    go_ret
    exact ⟨⟨_, rfl, Kd.R_nil _ _ _ _ _⟩, Below.refl _ _⟩
  · have hpz : (m : Int) > 0 := by omega
    obtain ⟨i, hi, hz⟩ := Option.map_eq_some_iff.1 xinfoT
    have hz0 := congrArg Prod.fst hz
    have hz1 := congrArg (fun q => q.2.1) hz
    have hz2 := congrArg (fun q => q.2.2) hz
    obtain ⟨v', w', hrun, hown, hg, hat⟩ := run_append_zeros (P := Try.prog) w w.heap.size 26 3 26 41 i _ 9 120 Try.underlying26 Try.underlying3 hi hz0 hz1 hz2 rfl (by decide) (by decide) (.slice none 0 0) 0 [] ⟨rfl, .inl ⟨rfl, rfl⟩⟩ .i64 m (by
      intro u hu
      simp only [Builtin.zeroCells, Array.toList_map, List.mem_map] at hu
      obtain ⟨q, _, rfl⟩ := hu
      exact zeros_one _) (by omega) (Nat.le_refl _)
    obtain ⟨g, c, rfl⟩ : ∃ g c, v' = .slice (some ⟨g, 0, none⟩) m c := by
      rcases hown.2 with ⟨hv, h0⟩ | ⟨g', cap, cur, hv, _⟩
      · omega
      · exact ⟨g', cap, by rw [hv]; simp⟩
    have HRUN := Aside0.mk hrun
    rw [Nat.zero_add] at hown
    have HO := Aside0.mk (R_of_empty hown)
    have HB := Aside0.mk (Below.grown (Below.refl w.heap.size w) hg (Nat.le_refl _) (by simp [Value.ownBlock]))
    clear hrun hown hg hat hz hz0 hz1 hz2 hi
    go_enter Try.func100, Try.ntmps100
    go_wp2_with ((with_reducible refine gate_builtin (b := .append) (xs := #[.tmp 20, .tmp 21]) rfl ?_); at_builtin; refine append_event rfl (.tmp 20) (.tmp 21) 26 3 rfl (.slice none 0 0) (.int .i64 m) _ rfl rfl HRUN.out ?_)
    go_ret
    exact ⟨⟨_, rfl, HO.out⟩, HB.out⟩

set_option maxHeartbeats 8000000 in
set_option maxRecDepth 100000 in
theorem concat_calls (g0 : Nat) (A0 A1 : Option Addr) (c0 c1 : Nat) (l0 l1 : List S41) (w : World) (h0 : w.cell? ⟨g0, 0, none⟩ = some (.slice A0 l0.length c0)) (h1 : w.cell? ⟨g0, 1, none⟩ = some (.slice A1 l1.length c1))
    (hr0 : Kd.C k41 w A0 l0.length l0) (hr1 : Kd.C k41 w A1 l1.length l1) (hc0 : l0.length ≤ c0) (hc1 : l1.length ≤ c1) (hm : (l0.length + l1.length) * 120 ≤ 140737488355328) :
    Calls Try.prog 87 #[.slice (some ⟨g0, 0, none⟩) 2 2] w fun e w' => (∃ v, e = .returned v ∧ Kd.R k41 41 w' w.heap.size (fun _ => True) v (l0 ++ l1)) ∧ Below w.heap.size w w' := by
  have HR0 := Aside0.mk hr0
  have HR1 := Aside0.mk hr1
  have hgl : g0 < w.heap.size := World.block_lt_of_cell? w _ h0
  have H0 := Aside0.mk h0
  have H1 := Aside0.mk h1
  have HL := Aside0.mk hm
  have hgrow := grow_calls (l0.length + l1.length) w hm
  have hs1 : ((l0.length : Nat) : Int) ≤ 9223372036854775807 := by omega
  have hs2 : ((l0.length + l1.length : Nat) : Int) ≤ 9223372036854775807 := by omega
  have HGROW := Aside0.mk hgrow
  clear hr0 hr1 h0 h1 hm hgrow
  go_enter Try.func87, Try.ntmps87
  go_wp2
  go_loopg [3, 5, 11] 2 (fun gg s3 s5 s11 wr => wr = w ∧ ((s11 = .int .i64 0 ∧ s3 = .int .i64 0 ∧ gg = 2) ∨ (s11 = .int .i64 1 ∧ s3 = .int .i64 (l0.length : Nat) ∧ gg = 1) ∨ (s11 = .int .i64 2 ∧ s3 = .int .i64 (l0.length + l1.length : Nat) ∧ gg = 0)))
  case atStart => exact ⟨rfl, .inl ⟨rfl, rfl, rfl⟩⟩
  case round =>
    obtain ⟨hw, hrel⟩ := hrel
    subst hw
    rcases hrel with ⟨rfl, rfl, rfl⟩ | ⟨rfl, rfl, rfl⟩ | ⟨rfl, rfl, rfl⟩
    · have h0 := H0.out
      go_wp2
      go_roundg 1
      case measure => omega
      case rel => exact ⟨rfl, .inr (.inl ⟨by go_num, by go_num, rfl⟩)⟩
    · have h1 := H1.out
      go_wp2
      go_roundg 0
      case measure => omega
      case rel => exact ⟨rfl, .inr (.inr ⟨by go_num, by go_num, rfl⟩)⟩
    · go_wp2_with (go_at_call 100; refine HGROW.out.mono ?_; rintro e w' ⟨⟨v, rfl, hv⟩, hb⟩; have HV := Aside0.mk hv; have HB := Aside0.mk hb; clear hv hb)
      obtain ⟨w0, hw0⟩ : ∃ w0, w0 = wr := ⟨_, rfl⟩
      subst hw0
      go_loopg [6, 8, 27] 2 (fun gg s6 s8 s27 w1 => Aside0 (Below w0.heap.size w0 w1) ∧ ((s27 = .int .i64 0 ∧ gg = 2 ∧ Aside0 (Kd.R k41 41 w1 w0.heap.size (fun _ => True) s6 ([] : List S41))) ∨ (s27 = .int .i64 1 ∧ gg = 1 ∧ Aside0 (Kd.R k41 41 w1 w0.heap.size (fun _ => True) s6 l0)) ∨ (s27 = .int .i64 2 ∧ gg = 0 ∧ Aside0 (Kd.R k41 41 w1 w0.heap.size (fun _ => True) s6 (l0 ++ l1)))))
      case atStart => exact ⟨HB, .inl ⟨rfl, rfl, HV⟩⟩
      case round =>
        obtain ⟨HB1, hrel⟩ := hrel
        rcases hrel with ⟨rfl, rfl, HS⟩ | ⟨rfl, rfl, HS⟩ | ⟨rfl, rfl, HS⟩
        · have h0 := (HB1.out.cell (World.block_lt_of_cell? _ _ H0.out)).trans H0.out
          obtain ⟨As, cs, es⟩ := Kd.R_slice HS.out
          subst es
          go_wp2_with ((with_reducible refine gate_builtin (b := .append) (xs := #[.tmp 31, .tmp 32]) rfl ?_); at_builtin; refine Kd.R_append_rows k41 (w0 := w0) w0.heap.size rfl (.tmp 31) (.tmp 32) 26 41 _ 120 rfl Try.underlying26 xinfoT rfl (by decide) (by omega) (.slice As 0 cs) ([] : List S41) l0 _ _ _ (fun _ => True) (fun _ => False) rfl rfl ?aO ?aR (fun _ _ h => h) (fun _ h => h.elim) ?aF ?aB ?aS ?aL ?_; (case aR => exact Kd.C_below HR0.out HB1.out); (case aB => exact HB1.out); (case aF => exact (fun _ _ => trivial)); (case aO => exact HS.out); (case aS => exact HB1.out.size); (case aL => have := HL.out; simp; omega); intro v1 w1 ho hb hg hat; have HO1 := Aside0.mk ho; have HB2 := Aside0.mk hb; clear ho hb hg hat)
          go_roundg 1
          case measure => omega
          case rel => exact ⟨HB2, .inr (.inl ⟨by go_num, rfl, by simpa using HO1⟩)⟩
        · have h1 := (HB1.out.cell (World.block_lt_of_cell? _ _ H1.out)).trans H1.out
          obtain ⟨As, cs, es⟩ := Kd.R_slice HS.out
          subst es
          go_wp2_with ((with_reducible refine gate_builtin (b := .append) (xs := #[.tmp 31, .tmp 32]) rfl ?_); at_builtin; refine Kd.R_append_rows k41 (w0 := w0) w0.heap.size rfl (.tmp 31) (.tmp 32) 26 41 _ 120 rfl Try.underlying26 xinfoT rfl (by decide) (by omega) (.slice As l0.length cs) l0 l1 _ _ _ (fun _ => True) (fun _ => False) rfl rfl ?aO ?aR (fun _ _ h => h) (fun _ h => h.elim) ?aF ?aB ?aS ?aL ?_; (case aR => exact Kd.C_below HR1.out HB1.out); (case aB => exact HB1.out); (case aF => exact (fun _ _ => trivial)); (case aO => exact HS.out); (case aS => exact HB1.out.size); (case aL => have := HL.out; simp; omega); intro v1 w1 ho hb hg hat; have HO1 := Aside0.mk ho; have HB2 := Aside0.mk hb; clear ho hb hg hat)
          go_roundg 0
          case measure => omega
          case rel => exact ⟨HB2, .inr (.inr ⟨by go_num, rfl, HO1⟩)⟩
        · obtain ⟨As, cs, es⟩ := Kd.R_slice HS.out
          subst es
          go_wp2
          go_ret
          have hs := HS.out
          rw [List.length_append] at hs
          exact ⟨⟨_, rfl, hs⟩, HB1.out⟩
end Go.Proofs.Ytdjamphmndbmjaa.M

/-
  DERIVED: THE SHELF's CONTRACTS AT THIS DUMP, IN PLAIN WORDS (tools/lay-plain.mjs out of 'YtdjamphmndbmjaaXsortS.lean', which tools/lay-shelf.mjs wrote): THE SAME DECLARATIONS UNDER THE SAME NAMES: 'import', 'namespace', 'open', 'def', 'theorem' AND NOTHING ELSE: no command of the shelf's: FOR A HAND-IN. Each laying: the table of numbers ('.._ren') and one theorem, a field a fact of the dump's own or the kernel's comparison; each contract: ONE APPLICATION.
-/
namespace Go.Proofs
open Go.Shelf
def Try.sortR_ren : Go.Shelf.Ren := ⟨fun | 6 => 88 | 15 => 102 | 14 => 101 | 28 => 117 | 29 => 118 | 20 => 109 | 21 => 110 | 22 => 111 | 23 => 112 | 24 => 113 | 25 => 114 | 26 => 115 | 27 => 116 | 46 => 125 | 47 => 126 | 48 => 127 | 49 => 128 | 50 => 129 | 57 => 140 | n => n, fun | 22 => 26 | 24 => 41 | 25 => 95 | 3 => 3 | 39 => 160 | 0 => 0 | 53 => 138 | 55 => 191 | 4 => 4 | 46 => 184 | 45 => 183 | 50 => 128 | 5 => 5 | 9 => 9 | 66 => 206 | 70 => 210 | 76 => 223 | 77 => 224 | n => n, fun | n => n⟩
theorem Try.sortR : Go.Proofs.SlLaysF0.n6 Try.prog Try.sortR_ren := {
  mixed := by kernel_rfl
  f6 := ⟨Try.f88.name, by decide, Try.func88.trans (congrArg some (by kernel_rfl))⟩
  f14 := ⟨Try.f101.name, by decide, Try.func101.trans (congrArg some (by kernel_rfl))⟩
  f15 := Try.func102.trans (congrArg some (by kernel_rfl))
  f20 := ⟨Try.f109.name, by decide, Try.func109.trans (congrArg some (by kernel_rfl))⟩
  f21 := ⟨Try.f110.name, by decide, Try.func110.trans (congrArg some (by kernel_rfl))⟩
  f22 := ⟨Try.f111.name, by decide, Try.func111.trans (congrArg some (by kernel_rfl))⟩
  f23 := ⟨Try.f112.name, by decide, Try.func112.trans (congrArg some (by kernel_rfl))⟩
  f24 := ⟨Try.f113.name, by decide, Try.func113.trans (congrArg some (by kernel_rfl))⟩
  f25 := ⟨Try.f114.name, by decide, Try.func114.trans (congrArg some (by kernel_rfl))⟩
  f26 := ⟨Try.f115.name, by decide, Try.func115.trans (congrArg some (by kernel_rfl))⟩
  f27 := ⟨Try.f116.name, by decide, Try.func116.trans (congrArg some (by kernel_rfl))⟩
  f28 := Try.func117.trans (congrArg some (by kernel_rfl))
  f29 := Try.func118.trans (congrArg some (by kernel_rfl))
  f46 := ⟨Try.f125.name, by decide, Try.func125.trans (congrArg some (by kernel_rfl))⟩
  f47 := Try.func126.trans (congrArg some (by kernel_rfl))
  f48 := Try.func127.trans (congrArg some (by kernel_rfl))
  f49 := ⟨Try.f128.name, by decide, Try.func128.trans (congrArg some (by kernel_rfl))⟩
  f50 := ⟨Try.f129.name, by decide, Try.func129.trans (congrArg some (by kernel_rfl))⟩
  f57 := ⟨Try.f140.name, by decide, Try.func140.trans (congrArg some (by kernel_rfl))⟩
  t0 := Try.underlying0
  a0 := Try.isAgg0
  z0 := Try.sizeOf0
  v0 := Try.zeroValue0
  t3 := Try.underlying3
  a3 := Try.isAgg3
  z3 := Try.sizeOf3
  v3 := Try.zeroValue3
  t4 := Try.underlying4
  a4 := Try.isAgg4
  z4 := Try.sizeOf4
  v4 := Try.zeroValue4
  t5 := Try.underlying5
  a5 := Try.isAgg5
  z5 := Try.sizeOf5
  v5 := Try.zeroValue5
  t9 := Try.underlying9
  a9 := Try.isAgg9
  z9 := Try.sizeOf9
  v9 := Try.zeroValue9
  t22 := Try.underlying26
  a22 := Try.isAgg26
  z22 := Try.sizeOf26
  v22 := Try.zeroValue26
  t25 := Try.underlying95
  a25 := Try.isAgg95
  z25 := Try.sizeOf95
  v25 := Try.zeroValue95
  t39 := Try.underlying160
  a39 := Try.isAgg160
  z39 := Try.sizeOf160
  v39 := Try.zeroValue160
  t45 := Try.underlying183
  a45 := Try.isAgg183
  z45 := Try.sizeOf183
  v45 := Try.zeroValue183
  t46 := Try.underlying184
  a46 := Try.isAgg184
  z46 := Try.sizeOf184
  v46 := Try.zeroValue184
  t50 := Try.underlying128
  a50 := Try.isAgg128
  z50 := Try.sizeOf128
  v50 := Try.zeroValue128
  t53 := Try.underlying138
  a53 := Try.isAgg138
  z53 := Try.sizeOf138
  v53 := Try.zeroValue138
  t55 := Try.underlying191
  a55 := Try.isAgg191
  z55 := Try.sizeOf191
  v55 := Try.zeroValue191
  t66 := Try.underlying206
  a66 := Try.isAgg206
  z66 := Try.sizeOf206
  v66 := Try.zeroValue206
  t70 := Try.underlying210
  a70 := Try.isAgg210
  z70 := Try.sizeOf210
  v70 := Try.zeroValue210
  t76 := Try.underlying223
  a76 := Try.isAgg223
  z76 := Try.sizeOf223
  v76 := Try.zeroValue223
  t77 := Try.underlying224
  a77 := Try.isAgg224
  z77 := Try.sizeOf224
  v77 := Try.zeroValue224 }
end Go.Proofs

/- slices.SortFunc at []api.Triple under triple.Compare: the shelf's contract, turned to the words of rows of the call's own. -/
namespace Go.Proofs.Ytdjamphmndbmjaa.M
open Go.RowKit Go.Proofs.YtdjamphmndbmjaaW.PrintWords Go.Proofs.YtdjamphmndbmjaaW.PrintLast Go.Proofs.YtdjamphmndbmjaaW.PrintMore
set_option linter.unusedVariables false
set_option linter.unusedSimpArgs false

open Go.Sort Go.Shelf Go.Lib
instance : Inhabited S41 := ⟨z41⟩
/-- The triples of a list, sorted. -/
def sortL (l : List S41) : List S41 := l.mergeSort fun x y => !(ltOf cmpR) y x
theorem swoR : SWO (ltOf cmpR) where
  irrefl x := by unfold ltOf; rw [(lawR.zero x x).2 rfl]; rfl
  trans x y z h1 h2 := by
    unfold ltOf at *
    rw [decide_eq_true_eq] at *
    exact lawR.trans x y z h1 h2
  ntrans x y z h1 h2 := by
    unfold ltOf at *
    rw [decide_eq_false_iff_not] at *
    intro h3
    have a1 := lawR.anti x y; have a2 := lawR.anti y z; have a3 := lawR.anti x z
    rcases Int.lt_trichotomy (cmpR x y) 0 with h | h | h
    · exact h1 h
    · rw [(lawR.zero x y).1 h] at h3
      exact h2 h3
    · have := lawR.trans y x z (by omega) h3
      exact h2 this
theorem totR (x y : S41) (h1 : ltOf cmpR x y = false) (h2 : ltOf cmpR y x = false) : x = y := by
  unfold ltOf at *
  rw [decide_eq_false_iff_not] at *
  have := lawR.anti x y
  exact (lawR.zero x y).1 (by omega)
theorem encR_len (x : S41) : (encR x).length = 9 := rfl
theorem encR_one (x : S41) : ∀ v ∈ encR x, v.oneCell' = true := by
  intro q hq
  simp only [encR, List.mem_cons, List.not_mem_nil, or_false] at hq
  rcases hq with rfl | rfl | rfl | rfl | rfl | rfl | rfl | rfl | rfl <;> rfl
theorem layR (blk off size : Nat) (w : World) : CmpLays Try.prog 46 #[] encR 9 cmpR blk off size w := fun _ _ _ _ x y => compareR_grown x y _

theorem flat_seg (d : Array S41) (j : Nat) (hj : j < d.size) : ((flatK encR 9 d).toList.drop (j * 9)).take 9 = encR d[j]! := by
  have hs : (flatK encR 9 d).size = d.size * 9 := by simp
  apply List.ext_getElem
  · simp [hs, encR_len]; omega
  · intro t h1 h2
    rw [encR_len] at h2
    have ht : j * 9 + t < d.size * 9 := by omega
    have hg := get_flatK encR 9 d (j * 9 + t) ht
    rw [show (j * 9 + t) / 9 = j by omega, show (j * 9 + t) % 9 = t by omega] at hg
    rw [getElem!_pos (flatK encR 9 d) (j * 9 + t) (by rw [hs]; exact ht), getElem!_pos (encR d[j]!) t (by rw [encR_len]; exact h2)] at hg
    rw [List.getElem_take, List.getElem_drop, ← hg]
    rfl
theorem flat_reps {w : World} {base : Nat} {ok : Nat → Prop} (l : List S41) : Reps (Kd.M k41 w base ok) 9 l (flatK encR 9 l.toArray).toList := by
  refine ⟨by simp, fun j p hj => ?_⟩
  have hlt : j < l.length := by
    rcases Nat.lt_or_ge j l.length with h | h
    · exact h
    · rw [List.getElem?_eq_none h] at hj; cases hj
  have := flat_seg l.toArray j (by simpa using hlt)
  rw [this]
  have hp : l.toArray[j]! = p := by
    rw [getElem!_pos l.toArray j (by simpa using hlt)]
    simp [List.getElem?_eq_getElem hlt] at hj
    simpa using hj
  rw [hp]
  exact k41_mkM _ _ _ p

theorem flat_at (l : List S41) (j c : Nat) (hj : j < l.length) (hc : c < 9) : (flatK encR 9 l.toArray)[j * 9 + c]! = (encR l[j])[c]! := by
  rw [get_flatK encR 9 l.toArray (j * 9 + c) (by simp; omega), show (j * 9 + c) / 9 = j by omega, show (j * 9 + c) % 9 = c by omega, getElem!_pos l.toArray j (by simpa using hj)]
  simp
theorem holdsR {w : World} {base gb n cap : Nat} {l : List S41} (h : Kd.R k41 41 w base (fun _ => True) (.slice (some ⟨gb, 0, none⟩) n cap) l) : HoldsK encR 9 w gb 0 l.toArray := by
  obtain ⟨cur, hcur, _, _⟩ := own_block h
  intro t ht
  have ht' : t < l.length * 9 := by simpa using ht
  rw [Nat.zero_add]
  refine ⟨?_, blk_frozen hcur _⟩
  have hj : t / 9 < l.length := by omega
  have hc : t % 9 < 9 := Nat.mod_lt _ (by decide)
  have e : t = t / 9 * 9 + t % 9 := by omega
  rw [e, flat_at l (t / 9) (t % 9) hj hc]
  obtain ⟨h0, h1, h2, h3, h4, h5, h6, h7, h8⟩ := own_cells h (t / 9) hj
  generalize t % 9 = c at hc ⊢
  rcases c with _ | _ | _ | _ | _ | _ | _ | _ | _ | c
  · exact h0
  · exact h1
  · exact h2
  · exact h3
  · exact h4
  · exact h5
  · exact h6
  · exact h7
  · exact h8
  · omega
theorem sortL_length (l : List S41) : (sortL l).length = l.length := List.length_mergeSort _
theorem setMany_all (F G : Array Value) (h : G.size = F.size) : setMany F 0 G.toList = G := by
  refine ext_get! (by simp [h]) fun t ht => ?_
  have ht' : t < F.size := by simpa using ht
  rw [get_setMany _ _ _ t ht', if_pos ⟨Nat.zero_le _, by simp; omega⟩, Nat.sub_zero]
  rw [getElem!_pos G.toList t (by simp; omega), getElem!_pos G t (by omega)]
  simp
/-- The row, sorted, in the world that the sort leaves. -/
theorem sorted_own {w : World} {base gb n cap : Nat} {l l' : List S41} (h : Kd.R k41 41 w base (fun _ => True) (.slice (some ⟨gb, 0, none⟩) n cap) l) (hl : l'.length = l.length) (m : Nat) (os : Array Obj) :
    Kd.R k41 41 (sortWorldK encR 9 w gb 0 m l'.toArray os) base (fun _ => True) (.slice (some ⟨gb, 0, none⟩) n cap) l' ∧ Below base w (sortWorldK encR 9 w gb 0 m l'.toArray os) ∧ w.heap.size ≤ (sortWorldK encR 9 w gb 0 m l'.toArray os).heap.size := by
  have hbase : base ≤ gb := Kd.R_base h gb rfl
  have hlt : gb < w.heap.size := Kd.R_lt h gb rfl
  have hH := holdsR h
  have hw : sortWorldK encR 9 w gb 0 m l'.toArray os = grow (((Sort.ahead w m)).setCells gb 0 (flatK encR 9 l'.toArray).toList) os := by
    unfold sortWorldK putRowK
    have h1 : putRow id (Sort.ahead w m) gb 0 (flatK encR 9 l.toArray) = Sort.ahead w m := putRow_self id (Sort.ahead w m) gb 0 _ hH
    have h2 := setCells_putRow (Sort.ahead w m) gb 0 (flatK encR 9 l'.toArray).toList 0 (flatK encR 9 l.toArray) (by simp [hl])
    rw [h1, setMany_all _ _ (by simp [hl])] at h2
    rw [← h2]
  rw [hw]
  obtain ⟨h0, inner, ⟨hm, hown⟩, hr⟩ := h
  rcases hown with ⟨hv, _⟩ | ⟨g', cap', cur, hv, hb, hh, hnc, hcm, hcs, htk⟩
  · cases hv
  · injection hv with ha hn hc
    injection ha with ha
    injection ha with hg
    subst hg; subst hc
    have hlen : (flatK encR 9 l'.toArray).toList.length = l'.length * 9 := by simp
    obtain ⟨cur', h1, h2, h3⟩ := setCells_row (flatK encR 9 l'.toArray).toList 0 (Sort.ahead w m) cur hh (by rw [hlen, hcs]; have : k41.sz = 9 := rfl; rw [this]; omega)
    obtain ⟨s1, s2, s3, s4⟩ := setCells_same gb (flatK encR 9 l'.toArray).toList 0 (Sort.ahead w m)
    have hgl : gb < ((Sort.ahead w m).setCells gb 0 (flatK encR 9 l'.toArray).toList).heap.size := by rw [s4]; exact hlt
    refine ⟨⟨h0, (flatK encR 9 l'.toArray).toList, ⟨by rw [hlen]; rfl, .inr ⟨gb, cap, cur', by rw [hn, hl], hb, ?_, by omega, hcm, by rw [h2, hcs], ?_⟩⟩, flat_reps l'⟩, ?_, ?_⟩
    · show (_ ++ os)[gb]? = _
      rw [Array.getElem?_append_left hgl]
      exact h1
    · rw [h3, List.take_zero, List.nil_append, List.take_append_of_le_length (by rw [hlen]; exact Nat.le_refl _)]
      exact List.take_of_length_le (by rw [hlen]; exact Nat.le_refl _)
    · refine ⟨s1, s2, s3, ?_, fun k hk => ?_⟩
      · show _ ≤ (_ ++ os).size
        rw [Array.size_append, s4]
        exact Nat.le_add_right _ _
      · show (_ ++ os)[k]? = _
        rw [Array.getElem?_append_left (by omega)]
        exact setCells_far _ _ k (by omega)
    · show _ ≤ (_ ++ os).size
      rw [Array.size_append, s4]
      exact Nat.le_add_right _ _
theorem srt_calls (base : Nat) (A : Option Addr) (cap : Nat) (l : List S41) (w : World) (hr : Kd.R k41 41 w base (fun _ => True) (.slice A l.length cap) l) (hl : l.length < 4611686018427387904) :
    Calls Try.prog 88 #[.slice A l.length cap, .func (.func 46) #[] #[]] w fun e w' =>
      e = .returned (.tuple #[]) ∧ Kd.R k41 41 w' base (fun _ => True) (.slice A l.length cap) (sortL l) ∧ Below base w w' ∧ w.heap.size ≤ w'.heap.size := by
  rcases Nat.eq_zero_or_pos l.length with h0 | hp
  · obtain rfl := List.eq_nil_of_length_eq_zero h0
    have hcon := AnyF.slices_SortFunc_none (P := Try.prog) (ρ := Try.sortR_ren) { Try.sortR with } A cap (.func (.func 46) #[] #[]) w
    refine Calls.mono hcon ?_
    rintro e w' ⟨rfl, rfl⟩
    exact ⟨rfl, by unfold sortL; rw [List.mergeSort_nil]; exact hr, Below.refl _ _, Nat.le_refl _⟩
  · obtain ⟨gb, cap', hv, _⟩ := Kd.R_form hr hp
    injection hv with ha _ hc
    subst ha; subst hc
    have eg : ∀ args w, (callFunc 46 args).run Try.prog w = .ok (.enter 46 args) w := enters_of Try.func46 (by kernel_rfl) rfl
    have hcon := AnyQ.slices_SortFunc_total Try.sortR 9 Try.isAgg41 Try.sizeOf41 encR encR_len encR_one cmpR swoR 46 #[] gb 0 cap l.toArray w eg (layR gb 0 l.toArray.size w) (holdsR hr) (Kd.R_lt hr gb rfl) (by simpa using hl) totR
    rw [List.size_toArray] at hcon
    refine Calls.mono hcon ?_
    rintro e w' ⟨rfl, n, os, rfl⟩
    exact ⟨rfl, sorted_own hr (sortL_length l) n os⟩
end Go.Proofs.Ytdjamphmndbmjaa.M

/- slices.Compact at []api.Triple, over a row of the call's own. By hand. -/
namespace Go.Proofs.Ytdjamphmndbmjaa.M
open Go.RowKit Go.Proofs.YtdjamphmndbmjaaW.PrintWords Go.Proofs.YtdjamphmndbmjaaW.PrintLast Go.Proofs.YtdjamphmndbmjaaW.PrintMore
set_option linter.unusedVariables false
set_option linter.unusedSimpArgs false

/-- Equality of triples, as the model tells it. -/
def eqE (x y : S41) : Bool := (x.f0.f0 == y.f0.f0 && (x.f0.f1.toList == y.f0.f1.toList && (x.f0.f2.toList == y.f0.f2.toList))) && ((x.f1.f0 == y.f1.f0 && (x.f1.f1.toList == y.f1.f1.toList && (x.f1.f2.toList == y.f1.f2.toList))) && ((x.f2.f0 == y.f2.f0 && (x.f2.f1.toList == y.f2.f1.toList && (x.f2.f2.toList == y.f2.f2.toList)))))
theorem eqTM (d : Nat) (w : World) (x0 y0 : Int) (x1 y1 : ByteArray) (x2 y2 : ByteArray) :
    (Op.equalIn (d + 2) 35 (.agg #[.int .i64 x0, .string x1, .string x2]) (.agg #[.int .i64 y0, .string y1, .string y2])).run Try.prog w = .ok (x0 == y0 && (x1.toList == y1.toList && (x2.toList == y2.toList))) w := by
  refine eqA_of Try.underlying35 (by kernel_rfl) ?_
  refine eqf_cons (by rfl) (by go_simp; rfl) (by go_simp; rfl) (by go_simp) ?_
  refine eqf_cons (by rfl) (by go_simp; rfl) (by go_simp; rfl) (by go_simp) ?_
  exact eqf_last (by rfl) (by go_simp; rfl) (by go_simp; rfl) (by go_simp)
theorem eqTR (d : Nat) (w : World) (x0 y0 : Int) (x1 y1 : ByteArray) (x2 y2 : ByteArray) (x3 y3 : Int) (x4 y4 : ByteArray) (x5 y5 : ByteArray) (x6 y6 : Int) (x7 y7 : ByteArray) (x8 y8 : ByteArray) :
    (Op.equalIn (d + 3) 41 (.agg #[.int .i64 x0, .string x1, .string x2, .int .i64 x3, .string x4, .string x5, .int .i64 x6, .string x7, .string x8]) (.agg #[.int .i64 y0, .string y1, .string y2, .int .i64 y3, .string y4, .string y5, .int .i64 y6, .string y7, .string y8])).run Try.prog w = .ok (eqE ⟨⟨x0, x1, x2⟩, ⟨x3, x4, x5⟩, ⟨x6, x7, x8⟩⟩ ⟨⟨y0, y1, y2⟩, ⟨y3, y4, y5⟩, ⟨y6, y7, y8⟩⟩) w := by
  refine eqA_of Try.underlying41 (by kernel_rfl) ?_
  refine eqf_cons (by rfl) (by go_simp) (by go_simp) (eqTM (d + 0) w _ _ _ _ _ _) ?_
  refine eqf_cons (by rfl) (by go_simp) (by go_simp) (eqTM (d + 0) w _ _ _ _ _ _) ?_
  exact eqf_last (by rfl) (by go_simp) (by go_simp) (eqTM (d + 0) w _ _ _ _ _ _)
theorem toList_eq (a b : ByteArray) : (a.toList == b.toList) = decide (a = b) := by
  rw [Bool.eq_iff_iff, beq_iff_eq, decide_eq_true_iff, ByteArray.toList_eq, ByteArray.toList_eq]
  exact ⟨bytes_inj', fun h => by rw [h]⟩
theorem eqE_decide (x y : S41) : eqE x y = decide (x = y) := by
  obtain ⟨⟨a0, a1, a2⟩, ⟨a3, a4, a5⟩, ⟨a6, a7, a8⟩⟩ := x
  obtain ⟨⟨b0, b1, b2⟩, ⟨b3, b4, b5⟩, ⟨b6, b7, b8⟩⟩ := y
  unfold eqE
  simp only [toList_eq]
  rw [Bool.eq_iff_iff]
  simp only [Bool.and_eq_true, beq_iff_eq, decide_eq_true_iff, S41.mk.injEq, S35.mk.injEq]

theorem i64_wrap_id (n : Int) (h1 : -9223372036854775808 ≤ n) (h2 : n ≤ 9223372036854775807) : IntKind.i64.wrap n = n := by
  show (if (true && decide (n % 18446744073709551616 ≥ 9223372036854775808)) = true then n % 18446744073709551616 - 18446744073709551616 else n % 18446744073709551616) = n
  simp only [Bool.true_and, decide_eq_true_eq]
  split <;> omega
/-- A list in which no two that are neighbours are the same. -/
def uniqFrom (p : S41) : List S41 → List S41
  | [] => []
  | y :: l => if y = p then uniqFrom p l else y :: uniqFrom y l
def uniq : List S41 → List S41
  | [] => []
  | x :: l => x :: uniqFrom x l
theorem uniqFrom_snoc (p : S41) (l : List S41) (y : S41) : uniqFrom p (l ++ [y]) = uniqFrom p l ++ (if y = (l.getLastD p) then [] else [y]) := by
  induction l generalizing p with
  | nil => rw [List.nil_append, uniqFrom, uniqFrom, uniqFrom, List.nil_append]; rfl
  | cons z l ih =>
    rw [List.cons_append, uniqFrom, uniqFrom, List.getLastD_cons]
    split
    · rename_i h; subst h; exact ih z
    · rw [ih z]; rfl
theorem uniq_take (l : List S41) (j : Nat) (h : j < l.length) (hp : 0 < j) : uniq (l.take (j + 1)) = uniq (l.take j) ++ (if l[j] = l[j - 1] then [] else [l[j]]) := by
  cases l with
  | nil => simp at h
  | cons x l =>
    obtain ⟨i, rfl⟩ : ∃ i, j = i + 1 := ⟨j - 1, by omega⟩
    have hi : i < l.length := by simpa using h
    rw [List.take_succ_cons, List.take_succ_cons, uniq, uniq, take_one l i hi, uniqFrom_snoc]
    have e : (l.take i).getLastD x = (x :: l)[i] := by
      cases i with
      | zero => simp
      | succ i => 
        rw [take_one l i (by omega), List.getLastD_concat]
        rfl
    rw [e]
    rfl
theorem uniq_one (l : List S41) (h : 0 < l.length) : uniq (l.take 1) = l.take 1 := by
  cases l with
  | nil => simp at h
  | cons x l => rfl

theorem own_cells_at {w : World} {base gb n cap : Nat} {m : List S41} (h : Kd.R k41 41 w base (fun _ => True) (.slice (some ⟨gb, 0, none⟩) n cap) m) (j o : Nat) (x : S41) (hj : j < m.length) (ho : o = j * 9) (hx : m[j] = x) :
    w.cell? ⟨gb, o, none⟩ = some (.int .i64 x.f0.f0) ∧ w.cell? ⟨gb, o + 1, none⟩ = some (.string x.f0.f1) ∧ w.cell? ⟨gb, o + 2, none⟩ = some (.string x.f0.f2) ∧ w.cell? ⟨gb, o + 3, none⟩ = some (.int .i64 x.f1.f0) ∧ w.cell? ⟨gb, o + 4, none⟩ = some (.string x.f1.f1) ∧ w.cell? ⟨gb, o + 5, none⟩ = some (.string x.f1.f2) ∧ w.cell? ⟨gb, o + 6, none⟩ = some (.int .i64 x.f2.f0) ∧ w.cell? ⟨gb, o + 7, none⟩ = some (.string x.f2.f1) ∧ w.cell? ⟨gb, o + 8, none⟩ = some (.string x.f2.f2) := by
  subst ho; subst hx
  exact own_cells h j hj
attribute [local go_sem high] eqTR
set_option maxHeartbeats 8000000 in
set_option maxRecDepth 100000 in
theorem cmpt_calls (base : Nat) (A : Option Addr) (cap : Nat) (l : List S41) (w : World) (hr : Kd.R k41 41 w base (fun _ => True) (.slice A l.length cap) l) (hbase : base ≤ w.heap.size) :
    Calls Try.prog 89 #[.slice A l.length cap] w fun e w' => (∃ v, e = .returned v ∧ Kd.R k41 41 w' base (fun _ => True) v (uniq l)) ∧ Below base w w' ∧ w.heap.size ≤ w'.heap.size := by
  have hcl : l.length ≤ cap := (Kd.R_reads' hr).2.1
  have hcap : cap ≤ 9223372036854775807 := by
    obtain ⟨inner, _, hown⟩ := Kd.R_own hr
    rcases hown with ⟨hv, _⟩ | ⟨g', cap', cur, hv, _, _, _, hcm, _⟩
    · injection hv with _ _ hc; omega
    · injection hv with _ _ hc; subst hc; simpa [maxLen] using hcm
  have HR := Aside0.mk hr
  have HBASE := Aside0.mk hbase
  have hu41 := Try.underlying41
  clear hr hbase
  rcases Nat.lt_or_ge l.length 2 with h2 | h2
  · have h2z : (l.length : Int) < 2 := by omega
    have hu : uniq l = l := by
      rcases l with _ | ⟨x, _ | ⟨y, l⟩⟩
      · rfl
      · rfl
      · simp only [List.length_cons] at h2; omega
    rw [hu]
    go_enter Try.func89, Try.ntmps89
    go_wp2
    go_ret
    exact ⟨⟨_, rfl, HR.out⟩, Below.refl _ _, Nat.le_refl _⟩
  · have h2z : ¬ (l.length : Int) < 2 := by omega
    obtain ⟨gb, rfl⟩ : ∃ gb, A = some (⟨gb, 0, none⟩ : Addr) := by
      obtain ⟨g', c', hv, _⟩ := Kd.R_form HR.out (by omega)
      injection hv with ha
      exact ⟨g', ha⟩
    have hGB : base ≤ gb := Kd.R_base HR.out gb rfl
    go_enter Try.func89, Try.ntmps89
    go_wp2
    go_loopg [3, 4, 5] l.length (fun gg s3 _ _ wr => ∃ k : Nat, 0 < k ∧ k ≤ l.length ∧ l.length - k ≤ gg ∧ s3 = .int .i64 k ∧ Aside0 (uniq (l.take k) = l.take k) ∧ ∃ q, wr = w.drewN q)
    case atStart => exact ⟨1, by omega, by omega, by omega, rfl, ⟨uniq_one l (by omega)⟩, 0, rfl⟩
    case round =>
      obtain ⟨k, hk0, hkn, hgg, rfl, HU, q, rfl⟩ := hrel
      by_cases hlt : k < l.length
      · have hltz : (k : Int) < (l.length : Int) := by omega
        obtain ⟨x, hx⟩ : ∃ x, l[k] = x := ⟨_, rfl⟩
        obtain ⟨j, hj⟩ : ∃ j, k - 1 = j := ⟨_, rfl⟩
        have hjl : j < l.length := by omega
        have hjz : (j : Int) < (l.length : Int) := by omega
        obtain ⟨y, hy⟩ : ∃ y, l[j] = y := ⟨_, rfl⟩
        obtain ⟨a0, a1, a2, a3, a4, a5, a6, a7, a8⟩ := own_cells_at HR.out k (k * 9) x (by omega) rfl hx
        obtain ⟨b0, b1, b2, b3, b4, b5, b6, b7, b8⟩ := own_cells_at HR.out j (j * 9) y (by omega) rfl hy
        have hw1 : IntKind.i64.wrap ((k : Int) - 1) = (j : Int) := (i64_wrap_id _ (by omega) (by omega)).trans (by omega)
        have hut := uniq_take l k hlt hk0
        have hut2 : l[k - 1]'(by omega) = y := by rw [← hy]; congr 1
        rw [hx, hut2] at hut
        have HJ := Aside0.mk hj
        clear hut2 hj
        have HX := Aside0.mk hx
        have HY := Aside0.mk hy
        have HUT := Aside0.mk hut
        have heq := eqE_decide x y
        clear hx hy hut
        by_cases hxy : x = y
        · rw [decide_eq_true hxy] at heq
          have HXY := Aside0.mk hxy
          clear hxy
          go_wp2
          repeat (go_quiet (fail); try go_wp2)
          have hstart : uniq (l.take (k + 1)) = l.take k := by rw [HUT.out, if_pos HXY.out, List.append_nil, HU.out]
          have HST := Aside0.mk hstart
          clear hstart a0 a1 a2 a3 a4 a5 a6 a7 a8 b0 b1 b2 b3 b4 b5 b6 b7 b8 heq hw1 hjl hjz HX HY HUT HXY HJ
          go_loopg [3, 5] l.length (fun gg s3 s5 wr => ∃ (i k2 : Nat) (m : List S41), k ≤ i ∧ 0 < k2 ∧ i + 1 ≤ k + k2 ∧ k + k2 ≤ l.length ∧ l.length - (k + k2) ≤ gg ∧ s3 = .int .i64 i ∧ s5 = .int .i64 k2 ∧ Aside0 (Kd.R k41 41 wr base (fun _ => True) (.slice (some ⟨gb, 0, none⟩) l.length cap) m) ∧ Aside0 (m.take i = uniq (l.take (k + k2))) ∧ Aside0 (m.drop (k + k2 - 1) = l.drop (k + k2 - 1)) ∧ Aside0 (Below base w wr ∧ w.heap.size ≤ wr.heap.size))
          case atStart =>
            exact ⟨k, 1, l, Nat.le_refl _, by omega, by omega, by omega, by omega, rfl, rfl, ⟨Kd.R_drewN HR.out _⟩, ⟨HST.out.symm⟩, ⟨rfl⟩, ⟨below_at rfl (Below.refl _ _), Nat.le_refl _⟩⟩
          case round =>
            obtain ⟨i, k2, m, hki, hk20, hik, hkk, hg2, rfl, rfl, HM, HT, HD, HB⟩ := hrel
            have hml : m.length = l.length := (Kd.R_reads' HM.out).1.symm
            by_cases hlt2 : k + k2 < l.length
            · have hlt2z : (k2 : Int) < ((l.length - k : Nat) : Int) := by omega
              obtain ⟨j, hj⟩ : ∃ j, k2 - 1 = j := ⟨_, rfl⟩
              have hjz : (j : Int) < ((l.length - k : Nat) : Int) := by omega
              have hd0 : m.drop (k + j) = l.drop (k + j) := by have := HD.out; rw [show k + k2 - 1 = k + j by omega] at this; exact this
              obtain ⟨hy, hd1⟩ := del_at hml (by omega) hd0
              rw [show k + j + 1 = k + k2 by omega] at hd1
              obtain ⟨hx, hd2⟩ := del_at hml hlt2 hd1
              obtain ⟨x, hxx⟩ : ∃ x, l[k + k2] = x := ⟨_, rfl⟩
              obtain ⟨y, hyy⟩ : ∃ y, l[k + j]'(by omega) = y := ⟨_, rfl⟩
              have hM1 : m[k + k2]'(by omega) = x := hx.trans hxx
              obtain ⟨a0, a1, a2, a3, a4, a5, a6, a7, a8⟩ := own_cells_at HM.out (k + k2) (k * 9 + k2 * 9) x (by omega) (by omega) (hx.trans hxx)
              obtain ⟨b0, b1, b2, b3, b4, b5, b6, b7, b8⟩ := own_cells_at HM.out (k + j) (k * 9 + j * 9) y (by omega) (by omega) (hy.trans hyy)
              have hw1 : IntKind.i64.wrap ((k2 : Int) - 1) = (j : Int) := (i64_wrap_id _ (by omega) (by omega)).trans (by omega)
              have hut := uniq_take l (k + k2) hlt2 (by omega)
              have hut2 : l[k + k2 - 1]'(by omega) = y := by rw [← hyy]; congr 1; omega
              rw [hxx, hut2] at hut
              have HUT := Aside0.mk hut
              have HD1 := Aside0.mk hd1
              have HJ := Aside0.mk hj
              have heq := eqE_decide x y
              clear hd0 hd1 hd2 hx hy hxx hyy hM1 hut hut2 hj
              by_cases hxy : x = y
              · rw [decide_eq_true hxy] at heq
                have HXY := Aside0.mk hxy
                clear hxy
                go_wp2
                repeat (go_quiet (fail); try go_wp2)
                go_roundg (l.length - (k + (k2 + 1)))
                case measure => omega
                case rel =>
                  refine ⟨i, k2 + 1, m, hki, by omega, by omega, by omega, Nat.le_refl _, rfl, by go_num, ⟨Kd.R_drewN HM.out _⟩, ⟨?_⟩, ⟨HD1.out⟩, ⟨below_at rfl HB.out.1, HB.out.2⟩⟩
                  rw [HT.out, ← Nat.add_assoc, HUT.out, if_pos HXY.out, List.append_nil]
              · rw [decide_eq_false hxy] at heq
                have HXY := Aside0.mk hxy
                clear hxy
                have hiz : (i : Int) < (l.length : Int) := by omega
                go_wp2
                go_quiet (fail)
                go_wp2_with ((with_reducible refine gate_store (t := 41) (p := 51) rfl ?_); refine stop_ ?_)
                refine ⟨?_⟩
                refine Kd.R_store k41 (w0 := w) (o' := i * 9) base rfl rfl 41 (.tmp 51) (.tmp 50) rfl 41 (i : Int) 0 m x (aggR x) (celR x).toList (celR (m[i]'(by omega))).toList (fun _ => True) (fun _ => False) rfl rfl rfl rfl ?at_ ?a1 (Kd.R_drewN HM.out _) ?a0 ?ai rfl ?acc ?aj ?aM (fun _ h => h.elim) (below_at rfl HB.out.1) ?_
                case at_ => obtain ⟨i, hi, hz⟩ := Option.map_eq_some_iff.1 xinfoT; have h0 := congrArg (fun q => q.2.1) hz; rw [hi]; exact congrArg some h0
                case a1 => intro q hq; simp only [celR, List.mem_cons, List.not_mem_nil, or_false] at hq; rcases hq with rfl | rfl | rfl | rfl | rfl | rfl | rfl | rfl | rfl <;> rfl
                case a0 => omega
                case ai => omega
                case acc =>
                  obtain ⟨s0, s1, s2, s3, s4, s5, s6, s7, s8⟩ := own_cells HM.out i (by omega)
                  intro j u hu
                  rw [Int.toNat_natCast]
                  rcases j with _ | _ | _ | _ | _ | _ | _ | _ | _ | j
                  · exact s0.trans hu
                  · exact s1.trans hu
                  · exact s2.trans hu
                  · exact s3.trans hu
                  · exact s4.trans hu
                  · exact s5.trans hu
                  · exact s6.trans hu
                  · exact s7.trans hu
                  · exact s8.trans hu
                  · cases hu
                case aj => exact Nat.le_refl _
                case aM => exact k41_mkM _ _ _ x
                intro w3 hM3 hB3 hg3
                have HM3 := Aside0.mk hM3
                have HB3 := Aside0.mk (And.intro hB3 hg3.size)
                clear hM3 hB3 hg3
                go_wp2
                go_roundg (l.length - (k + (k2 + 1)))
                case measure => omega
                case rel =>
                  refine ⟨i + 1, k2 + 1, m.set i x, by omega, by omega, by omega, by omega, Nat.le_refl _, by go_num, by go_num, ⟨by rw [← Int.toNat_natCast i]; exact HM3.out⟩, ⟨?_⟩, ⟨?_⟩, ⟨HB3.out.1, Nat.le_trans HB.out.2 HB3.out.2⟩⟩
                  · rw [← Nat.add_assoc, HUT.out, if_neg HXY.out, ← HT.out, take_one (m.set i x) i (by rw [List.length_set]; omega), List.take_set_of_le (Nat.le_refl _), List.getElem_set_self]
                  · rw [List.drop_set_of_lt (by omega)]
                    exact HD1.out
            · have hlt2z : ¬ (k2 : Int) < ((l.length - k : Nat) : Int) := by omega
              have hkl : k + k2 = l.length := by omega
              have htake : m.take i = uniq l := by rw [HT.out, hkl, List.take_length]
              have HTK := Aside0.mk htake
              have hil : i < l.length := by omega
              have hicap : (i : Int) ≤ cap := by omega
              have hilz : (i : Int) ≤ l.length := by omega
              obtain ⟨cur, hcur, hsz, hnc⟩ := own_block HM.out
              obtain ⟨vs, hvs, hclr⟩ : ∃ vs : List Value, vs.length = (l.length - i) * 9 ∧ ∀ ty, (Builtin.clear_ #[26] ty #[.slice (some ⟨gb, i * 9, none⟩) (l.length - i) (cap - i)]).run Try.prog wr = .ok (.tuple #[]) (wr.setCells gb (i * 9) vs) := by
                refine ⟨(Builtin.zeroCells (Value.agg #[(.int .i64 0), (.string ⟨#[]⟩), (.string ⟨#[]⟩), (.int .i64 0), (.string ⟨#[]⟩), (.string ⟨#[]⟩), (.int .i64 0), (.string ⟨#[]⟩), (.string ⟨#[]⟩)]).cells (l.length - i)).toList, by simp [Builtin.zeroCells, Value.cells], fun ty => clear_run wr 26 41 ty _ Try.underlying26 zeroR rfl ?_ gb (i * 9) (l.length - i) (cap - i) (by omega) ?_ ?_⟩
                · intro j
                  rcases j with _ | _ | _ | _ | _ | _ | _ | _ | _ | j <;> rfl
                · intro j hj
                  rw [cell_of_row wr gb _ cur 41 (0, 0) hcur]
                  simp
                  omega
                · intro j hj
                  exact blk_frozen hcur _
              have HV := Aside0.mk hvs
              clear hcur hsz hnc hvs htake hkl
              go_wp2
              go_ret
              refine ⟨⟨_, rfl, ?_⟩, ?_, ?_⟩
              · rw [← HTK.out]
                exact own_again (Kd.R_take HM.out (by omega)) vs (i * 9) (Nat.le_refl _) (by rw [HV.out]; omega)
              · exact HB.out.1.trans ⟨(setCells_same gb vs (i * 9) wr).1, (setCells_same gb vs (i * 9) wr).2.1, (setCells_same gb vs (i * 9) wr).2.2.1, by rw [(setCells_same gb vs (i * 9) wr).2.2.2]; exact Nat.le_refl _, fun k hk => setCells_far _ _ k (by omega)⟩
              · rw [(setCells_same gb vs (i * 9) wr).2.2.2]; exact HB.out.2
        · rw [decide_eq_false hxy] at heq
          have HXY := Aside0.mk hxy
          clear hxy
          go_wp2
          go_quiet (fail)
          go_wp2
          go_roundg (l.length - (k + 1))
          case measure => omega
          case rel =>
            refine ⟨k + 1, by omega, by omega, Nat.le_refl _, by go_num, ⟨?_⟩, _, rfl⟩
            rw [HUT.out, if_neg HXY.out, HU.out, take_one l k hlt, HX.out]
      · have hltz : ¬ (k : Int) < (l.length : Int) := by omega
        obtain rfl : k = l.length := by omega
        go_wp2
        go_ret
        have hu := HU.out
        rw [List.take_length] at hu
        rw [hu]
        exact ⟨⟨_, rfl, Kd.R_drewN HR.out _⟩, below_at rfl (Below.refl _ _), Nat.le_refl _⟩
end Go.Proofs.Ytdjamphmndbmjaa.M

/- set.Union: of two lists the triples, sorted, each once. By hand. -/
namespace Go.Proofs.Ytdjamphmndbmjaa.M
open Go.RowKit Go.Proofs.YtdjamphmndbmjaaW.PrintWords Go.Proofs.YtdjamphmndbmjaaW.PrintLast Go.Proofs.YtdjamphmndbmjaaW.PrintMore
set_option linter.unusedVariables false
set_option linter.unusedSimpArgs false

/-- What both have together, sorted, each once. -/
def unionR (a b : List S41) : List S41 := uniq (sortL (a ++ b))
def set_Union.f (l0 : List S41) (l1 : List S41) : Option (List S41) := if (l0.length + l1.length) * 120 ≤ 140737488355328 then some (unionR l0 l1) else none
set_option maxHeartbeats 4000000 in
set_option maxRecDepth 100000 in
theorem set_Union.calls (A0 : Option Addr) (c0 : Nat) (l0 : List S41) (A1 : Option Addr) (c1 : Nat) (l1 : List S41) (r : List S41) (w : World) (hr0 : Kd.C k41 w A0 l0.length l0) (hc0 : l0.length ≤ c0) (hr1 : Kd.C k41 w A1 l1.length l1) (hc1 : l1.length ≤ c1) (h : set_Union.f l0 l1 = some r) :
    Calls Try.prog 60 #[.slice A0 l0.length c0, .slice A1 l1.length c1] w fun e w' => ∃ v0_ : Value, e = .returned (v0_) ∧ Kd.R k41 41 w' w.heap.size (fun _ => True) v0_ r ∧ Below w.heap.size w w' := by
  unfold set_Union.f at h
  split at h
  · rename_i hm
    obtain rfl := Option.some.inj h
    clear h
    have hcat := fun (W : World) (g0 : Nat) (h0 : W.cell? ⟨g0, 0, none⟩ = some (.slice A0 l0.length c0)) (h1 : W.cell? ⟨g0, 1, none⟩ = some (.slice A1 l1.length c1)) (hC0 : Kd.C k41 W A0 l0.length l0) (hC1 : Kd.C k41 W A1 l1.length l1) => concat_calls g0 A0 A1 c0 c1 l0 l1 W h0 h1 hC0 hC1 hc0 hc1 hm
    have HCAT := Aside0.mk hcat
    have hll : (l0 ++ l1).length < 4611686018427387904 := by rw [List.length_append]; omega
    have hsrt := fun (base : Nat) (A : Option Addr) (cap : Nat) (W : World) (hR : Kd.R k41 41 W base (fun _ => True) (.slice A (l0 ++ l1).length cap) (l0 ++ l1)) => srt_calls base A cap (l0 ++ l1) W hR hll
    have hcmp := fun (base : Nat) (A : Option Addr) (cap : Nat) (W : World) (hR : Kd.R k41 41 W base (fun _ => True) (.slice A (sortL (l0 ++ l1)).length cap) (sortL (l0 ++ l1))) (hb : base ≤ W.heap.size) => cmpt_calls base A cap (sortL (l0 ++ l1)) W hR hb
    unfold unionR
    rw [sortL_length] at hcmp
    generalize hn : (l0 ++ l1).length = n at hsrt hcmp
    have HN := Aside0.mk hn
    clear hn
    generalize hsl : sortL (l0 ++ l1) = sl at hsrt hcmp ⊢
    have HSRT := Aside0.mk hsrt
    have HCMP := Aside0.mk hcmp
    have HR0 := Aside0.mk hr0
    have HR1 := Aside0.mk hr1
    have HB := Aside0.mk (Below.refl w.heap.size w)
    clear hcat hsrt hcmp hr0 hr1 hll hsl
    go_enter Try.func60, Try.ntmps60
    go_wp2_with (first | (go_at_call 87; refine (HCAT.out _ _ ?h0 ?h1 (Kd.C_alloc HR0.out _) (Kd.C_alloc HR1.out _)).mono ?_; (case h0 => exact (blk_cell (blk_new w _) 0).trans rfl); (case h1 => exact (blk_cell (blk_new w _) 1).trans rfl); rintro e w' ⟨⟨v, rfl, hv⟩, hb⟩; obtain ⟨A, c, ev⟩ := Kd.R_slice hv; rw [HN.out] at ev; subst ev; have HV1 := Aside0.mk hv; have HB1 := Aside0.mk hb; clear hv hb) | (go_at_call 88; refine (HSRT.out _ _ _ _ HV1.out).mono ?_; rintro e w' ⟨rfl, hv, hb, hsz⟩; have HV2 := Aside0.mk hv; have HB2 := Aside0.mk (And.intro hb hsz); clear hv hb hsz) | (go_at_call 89; refine (HCMP.out _ _ _ _ HV2.out ?hbs).mono ?_; (case hbs => exact Nat.le_trans HB1.out.size HB2.out.2); rintro e w' ⟨⟨v, rfl, hv⟩, hb, hsz⟩; have HV3 := Aside0.mk hv; have HB3 := Aside0.mk (And.intro hb hsz); clear hv hb hsz))
    go_ret
    refine ⟨_, rfl, Kd.R_lower HV3.out ?_, ?_⟩
    · rw [alloc_size1]; omega
    · exact (below_step (below_alloc HB.out _) HB1.out).trans ((HB2.out.1.trans HB3.out.1).mono (by rw [alloc_size1]; omega))
  · cases h
end Go.Proofs.Ytdjamphmndbmjaa.M

/- Package set by hand: Right, Has, Join, Less, Both; stratasame.Triples. Contracts in plain words, results as rows that are read. -/
namespace Go.Proofs.Ytdjamphmndbmjaa.M
open Go.RowKit Go.Proofs.YtdjamphmndbmjaaW.PrintWords Go.Proofs.YtdjamphmndbmjaaW.PrintLast Go.Proofs.YtdjamphmndbmjaaW.PrintMore
set_option linter.unusedVariables false
set_option linter.unusedSimpArgs false

theorem sorted_calls (A : Option Addr) (c : Nat) (l : List S41) (w : World) (hC : Kd.C k41 w A l.length l) (hc : l.length ≤ c) :
    Calls Try.prog 19 #[.slice A l.length c] w fun e w' => e = .returned (errW (sortedR l)) ∧ Below w.heap.size w w' := pSorted.calls A c l _ w hC hc rfl
theorem checkR_calls (x : S41) (w : World) :
    Calls Try.prog 43 #[.agg #[.int .i64 x.f0.f0, .string x.f0.f1, .string x.f0.f2, .int .i64 x.f1.f0, .string x.f1.f1, .string x.f1.f2, .int .i64 x.f2.f0, .string x.f2.f1, .string x.f2.f2]] w fun e w' => e = .returned (errW (chkR x)) ∧ Below w.heap.size w w' := pCheckR.calls _ _ _ _ _ _ _ _ _ _ w rfl
/-- What is wrong with one or two sets. -/
def right2 (a b : List S41) : Option Int := match sortedR a with | some e => some e | none => sortedR b
theorem right2_none {a b : List S41} : right2 a b = none ↔ sortedR a = none ∧ sortedR b = none := by
  unfold right2
  cases h : sortedR a <;> simp
set_option maxHeartbeats 4000000 in
set_option maxRecDepth 100000 in
theorem right2_calls (g0 : Nat) (A0 A1 : Option Addr) (c0 c1 : Nat) (l0 l1 : List S41) (w : World) (h0 : w.cell? ⟨g0, 0, none⟩ = some (.slice A0 l0.length c0)) (h1 : w.cell? ⟨g0, 1, none⟩ = some (.slice A1 l1.length c1))
    (hr0 : Kd.C k41 w A0 l0.length l0) (hr1 : Kd.C k41 w A1 l1.length l1) (hc0 : l0.length ≤ c0) (hc1 : l1.length ≤ c1) :
    Calls Try.prog 47 #[.slice (some ⟨g0, 0, none⟩) 2 2] w fun e w' => e = .returned (errW (right2 l0 l1)) ∧ Below w.heap.size w w' := by
  have HR0 := Aside0.mk hr0
  have HR1 := Aside0.mk hr1
  have H0 := Aside0.mk h0
  have H1 := Aside0.mk h1
  have hS0 := fun W (hC : Kd.C k41 W A0 l0.length l0) => sorted_calls A0 c0 l0 W hC hc0
  have hS1 := fun W (hC : Kd.C k41 W A1 l1.length l1) => sorted_calls A1 c1 l1 W hC hc1
  have HS0 := Aside0.mk hS0
  have HS1 := Aside0.mk hS1
  clear hr0 hr1 h0 h1 hS0 hS1
  go_enter Try.func47, Try.ntmps47
  go_wp2
  go_loopg [4, 5, 8] 2 (fun gg _ _ s8 wr => Aside0 (Below w.heap.size w wr) ∧ ((s8 = .int .i64 0 ∧ gg = 2) ∨ (s8 = .int .i64 1 ∧ gg = 1 ∧ Aside0 (sortedR l0 = none)) ∨ (s8 = .int .i64 2 ∧ gg = 0 ∧ Aside0 (right2 l0 l1 = none))))
  case atStart => exact ⟨⟨Below.refl _ _⟩, .inl ⟨rfl, rfl⟩⟩
  case round =>
    obtain ⟨HB, hrel⟩ := hrel
    rcases hrel with ⟨rfl, rfl⟩ | ⟨rfl, rfl, HN⟩ | ⟨rfl, rfl, HN⟩
    · have h0 := (HB.out.cell (World.block_lt_of_cell? _ _ H0.out)).trans H0.out
      have hS := HS0.out wr (Kd.C_below HR0.out HB.out)
      obtain ⟨r, hr⟩ : ∃ r, sortedR l0 = r := ⟨_, rfl⟩
      rw [hr] at hS
      have HRR := Aside0.mk hr
      clear hr
      cases r with
      | none =>
        rw [errW_none] at hS
        go_wp2_with (go_at_call 19; refine hS.mono ?_; rintro e w' ⟨rfl, hb⟩; have HB1 := Aside0.mk hb; clear hb)
        go_roundg 1
        case measure => omega
        case rel => exact ⟨⟨below_step HB.out HB1.out⟩, .inr (.inl ⟨by go_num, rfl, HRR⟩)⟩
      | some n =>
        rw [errW_some] at hS
        go_wp2_with (go_at_call 19; refine hS.mono ?_; rintro e w' ⟨rfl, hb⟩; have HB1 := Aside0.mk hb; clear hb)
        go_ret
        refine ⟨?_, below_step HB.out HB1.out⟩
        unfold right2
        rw [HRR.out]
        rfl
    · have h1 := (HB.out.cell (World.block_lt_of_cell? _ _ H1.out)).trans H1.out
      have hS := HS1.out wr (Kd.C_below HR1.out HB.out)
      obtain ⟨r, hr⟩ : ∃ r, sortedR l1 = r := ⟨_, rfl⟩
      rw [hr] at hS
      have HRR := Aside0.mk hr
      clear hr
      cases r with
      | none =>
        rw [errW_none] at hS
        go_wp2_with (go_at_call 19; refine hS.mono ?_; rintro e w' ⟨rfl, hb⟩; have HB1 := Aside0.mk hb; clear hb)
        go_roundg 0
        case measure => omega
        case rel => exact ⟨⟨below_step HB.out HB1.out⟩, .inr (.inr ⟨by go_num, rfl, ⟨right2_none.2 ⟨HN.out, HRR.out⟩⟩⟩)⟩
      | some n =>
        rw [errW_some] at hS
        go_wp2_with (go_at_call 19; refine hS.mono ?_; rintro e w' ⟨rfl, hb⟩; have HB1 := Aside0.mk hb; clear hb)
        go_ret
        refine ⟨?_, below_step HB.out HB1.out⟩
        unfold right2
        rw [HN.out]
        show _ = Ending.returned (errW (sortedR l1))
        rw [HRR.out]
        rfl
    · go_wp2
      go_ret
      exact ⟨by rw [HN.out]; rfl, HB.out⟩
set_option maxHeartbeats 4000000 in
set_option maxRecDepth 100000 in
theorem right1_calls (g0 : Nat) (A0 : Option Addr) (c0 : Nat) (l0 : List S41) (w : World) (h0 : w.cell? ⟨g0, 0, none⟩ = some (.slice A0 l0.length c0))
    (hr0 : Kd.C k41 w A0 l0.length l0) (hc0 : l0.length ≤ c0) :
    Calls Try.prog 47 #[.slice (some ⟨g0, 0, none⟩) 1 1] w fun e w' => e = .returned (errW (sortedR l0)) ∧ Below w.heap.size w w' := by
  have HR0 := Aside0.mk hr0
  have H0 := Aside0.mk h0
  have hS0 := fun W (hC : Kd.C k41 W A0 l0.length l0) => sorted_calls A0 c0 l0 W hC hc0
  have HS0 := Aside0.mk hS0
  clear hr0 h0 hS0
  go_enter Try.func47, Try.ntmps47
  go_wp2
  go_loopg [4, 5, 8] 1 (fun gg _ _ s8 wr => Aside0 (Below w.heap.size w wr) ∧ ((s8 = .int .i64 0 ∧ gg = 1) ∨ (s8 = .int .i64 1 ∧ gg = 0 ∧ Aside0 (sortedR l0 = none))))
  case atStart => exact ⟨⟨Below.refl _ _⟩, .inl ⟨rfl, rfl⟩⟩
  case round =>
    obtain ⟨HB, hrel⟩ := hrel
    rcases hrel with ⟨rfl, rfl⟩ | ⟨rfl, rfl, HN⟩
    · have h0 := (HB.out.cell (World.block_lt_of_cell? _ _ H0.out)).trans H0.out
      have hS := HS0.out wr (Kd.C_below HR0.out HB.out)
      obtain ⟨r, hr⟩ : ∃ r, sortedR l0 = r := ⟨_, rfl⟩
      rw [hr] at hS
      have HRR := Aside0.mk hr
      clear hr
      cases r with
      | none =>
        rw [errW_none] at hS
        go_wp2_with (go_at_call 19; refine hS.mono ?_; rintro e w' ⟨rfl, hb⟩; have HB1 := Aside0.mk hb; clear hb)
        go_roundg 0
        case measure => omega
        case rel => exact ⟨⟨below_step HB.out HB1.out⟩, .inr ⟨by go_num, rfl, HRR⟩⟩
      | some n =>
        rw [errW_some] at hS
        go_wp2_with (go_at_call 19; refine hS.mono ?_; rintro e w' ⟨rfl, hb⟩; have HB1 := Aside0.mk hb; clear hb)
        go_ret
        refine ⟨?_, below_step HB.out HB1.out⟩
        rw [HRR.out]
        rfl
    · go_wp2
      go_ret
      exact ⟨by rw [HN.out]; rfl, HB.out⟩
end Go.Proofs.Ytdjamphmndbmjaa.M

/- Package set by hand: Join, Less, Both, Has. -/
namespace Go.Proofs.Ytdjamphmndbmjaa.M
open Go.RowKit Go.Proofs.YtdjamphmndbmjaaW.PrintWords Go.Proofs.YtdjamphmndbmjaaW.PrintLast Go.Proofs.YtdjamphmndbmjaaW.PrintMore
set_option linter.unusedVariables false
set_option linter.unusedSimpArgs false

/-- A result that is a row to be read. -/
def Row (w : World) (v : Value) (l : List S41) : Prop := ∃ A c, v = .slice A l.length c ∧ Kd.C k41 w A l.length l ∧ l.length ≤ c
theorem Row.below {w w' : World} {v : Value} {l : List S41} (h : Row w v l) (hb : Below w.heap.size w w') : Row w' v l := by
  obtain ⟨A, c, e, h1, h2⟩ := h
  exact ⟨A, c, e, Kd.C_below h1 hb, h2⟩
theorem Row.nil (w : World) : Row w (.slice none 0 0) [] := ⟨none, 0, rfl, ⟨rfl, by simp, fun h => absurd h (Nat.lt_irrefl 0)⟩, Nat.le_refl _⟩
theorem Row.of_R {w : World} {base : Nat} {ok : Nat → Prop} {v : Value} {l : List S41} (h : Kd.R k41 41 w base ok v l) : Row w v l := by
  obtain ⟨A, c, e, h1, h2⟩ := Kd.R_reads h
  exact ⟨A, c, e, h2, h1⟩
/-- What of a list is, or is not, in a set. -/
def partR (a b : List S41) (is : Bool) : List S41 := a.filter fun t => inR b t == is
theorem part_calls (A0 : Option Addr) (c0 : Nat) (l0 : List S41) (A1 : Option Addr) (c1 : Nat) (l1 : List S41) (is : Bool) (w : World) (hr0 : Kd.C k41 w A0 l0.length l0) (hc0 : l0.length ≤ c0) (hr1 : Kd.C k41 w A1 l1.length l1) (hc1 : l1.length ≤ c1) (hl : l0.length < 1172812402961) (hs : sortedR l1 = none) :
    Calls Try.prog 49 #[.slice A0 l0.length c0, .slice A1 l1.length c1, .bool is] w fun e w' => ∃ v, e = .returned v ∧ Row w' v (partR l0 l1 is) ∧ Below w.heap.size w w' :=
  (set_Part.calls A0 c0 l0 A1 c1 l1 is (partR l0 l1 is) w hr0 hc0 hr1 hc1 (by unfold set_Part.f partR; rw [if_pos ⟨hl, hs⟩])).mono fun _ _ ⟨v, he, hR, hb⟩ => ⟨v, he, Row.of_R hR, hb⟩
theorem union_calls (A0 : Option Addr) (c0 : Nat) (l0 : List S41) (A1 : Option Addr) (c1 : Nat) (l1 : List S41) (w : World) (hr0 : Kd.C k41 w A0 l0.length l0) (hc0 : l0.length ≤ c0) (hr1 : Kd.C k41 w A1 l1.length l1) (hc1 : l1.length ≤ c1) (hl : (l0.length + l1.length) * 120 ≤ 140737488355328) :
    Calls Try.prog 60 #[.slice A0 l0.length c0, .slice A1 l1.length c1] w fun e w' => ∃ v, e = .returned v ∧ Row w' v (unionR l0 l1) ∧ Below w.heap.size w w' :=
  (set_Union.calls A0 c0 l0 A1 c1 l1 (unionR l0 l1) w hr0 hc0 hr1 hc1 (by unfold set_Union.f; rw [if_pos hl])).mono fun _ _ ⟨v, he, hR, hb⟩ => ⟨v, he, Row.of_R hR, hb⟩
theorem sortedR_len {l : List S41} (h : sortedR l = none) : l.length ≤ 200 := (sortedR_none h).1
def joinR (a b : List S41) : List S41 × Option Int := match right2 a b with | some e => ([], some e) | none => if (unionR a b).length > 200 then ([], some 4) else (unionR a b, none)
def bothR (a b : List S41) (is : Bool) : List S41 × Option Int := match right2 a b with | some e => ([], some e) | none => (partR a b is, none)
def hasR (l : List S41) (x : S41) : Bool × Option Int := match sortedR l with | some e => (false, some e) | none => match chkR x with | some e => (false, some e) | none => (inR l x, none)
theorem cells2 (w : World) (A0 A1 : Option Addr) (c0 c1 n0 n1 : Nat) (T : Nat) : (w.alloc (.cells #[.slice A0 n0 c0, .slice A1 n1 c1] T)).cell? ⟨w.heap.size, 0, none⟩ = some (.slice A0 n0 c0) ∧ (w.alloc (.cells #[.slice A0 n0 c0, .slice A1 n1 c1] T)).cell? ⟨w.heap.size, 1, none⟩ = some (.slice A1 n1 c1) := ⟨(blk_cell (blk_new w _) 0).trans rfl, (blk_cell (blk_new w _) 1).trans rfl⟩
set_option maxHeartbeats 4000000 in
set_option maxRecDepth 100000 in
theorem join_calls (A0 A1 : Option Addr) (c0 c1 : Nat) (l0 l1 : List S41) (w : World) (hr0 : Kd.C k41 w A0 l0.length l0) (hc0 : l0.length ≤ c0) (hr1 : Kd.C k41 w A1 l1.length l1) (hc1 : l1.length ≤ c1) :
    Calls Try.prog 28 #[.slice A0 l0.length c0, .slice A1 l1.length c1] w fun e w' => ∃ v, e = .returned (.tuple #[v, errW (joinR l0 l1).2]) ∧ Row w' v (joinR l0 l1).1 ∧ Below w.heap.size w w' := by
  have HR0 := Aside0.mk hr0
  have HR1 := Aside0.mk hr1
  have HB := Aside0.mk (Below.refl w.heap.size w)
  have hright := fun W g0 h0 h1 hC0 hC1 => right2_calls g0 A0 A1 c0 c1 l0 l1 W h0 h1 hC0 hC1 hc0 hc1
  obtain ⟨r, hr⟩ : ∃ r, right2 l0 l1 = r := ⟨_, rfl⟩
  rw [hr] at hright
  cases r with
  | some n =>
    have hj : joinR l0 l1 = ([], some n) := by unfold joinR; rw [hr]
    rw [hj]
    have HRT := Aside0.mk hright
    clear hr0 hr1 hright hr hj
    go_enter Try.func28, Try.ntmps28
    go_wp2_with (go_at_call 47; refine (HRT.out _ _ (cells2 w A0 A1 c0 c1 _ _ _).1 (cells2 w A0 A1 c0 c1 _ _ _).2 (Kd.C_alloc HR0.out _) (Kd.C_alloc HR1.out _)).mono ?_; rintro e w' ⟨he, hb⟩; rw [errW_some] at he; subst he; have HB1 := Aside0.mk hb; clear hb)
    go_ret2
    exact ⟨_, rfl, Row.nil _, below_step (below_alloc HB.out _) HB1.out⟩
  | none =>
    obtain ⟨hs0, hs1⟩ := right2_none.1 hr
    have hl0 := sortedR_len hs0
    have hl1 := sortedR_len hs1
    have hun := fun W hC0 hC1 => union_calls A0 c0 l0 A1 c1 l1 W hC0 hc0 hC1 hc1 (by omega)
    have hj : joinR l0 l1 = if (unionR l0 l1).length > 200 then ([], some 4) else (unionR l0 l1, none) := by unfold joinR; rw [hr]
    rw [hj]
    generalize unionR l0 l1 = u at hun ⊢
    have HRT := Aside0.mk hright
    have HUN := Aside0.mk hun
    clear hr0 hr1 hright hr hj hun hs0 hs1 hl0 hl1
    by_cases hu : u.length > 200
    · have huz : (u.length : Int) > 200 := by omega
      rw [if_pos hu]
      go_enter Try.func28, Try.ntmps28
      go_wp2_with (first | (go_at_call 47; refine (HRT.out _ _ (cells2 w A0 A1 c0 c1 _ _ _).1 (cells2 w A0 A1 c0 c1 _ _ _).2 (Kd.C_alloc HR0.out _) (Kd.C_alloc HR1.out _)).mono ?_; rintro e w' ⟨he, hb⟩; rw [errW_none] at he; subst he; have HB1 := Aside0.mk (below_step (below_alloc HB.out _) hb); clear hb) | (go_at_call 60; refine (HUN.out _ (Kd.C_below HR0.out HB1.out) (Kd.C_below HR1.out HB1.out)).mono ?_; rintro e w' ⟨v, rfl, hv, hb⟩; obtain ⟨Au, cu, rfl, hCu, hcu⟩ := hv; have HB2 := Aside0.mk (below_step HB1.out hb); clear hb hCu hcu))
      go_ret2
      exact ⟨_, rfl, Row.nil _, HB2.out⟩
    · have huz : ¬ (u.length : Int) > 200 := by omega
      rw [if_neg hu]
      go_enter Try.func28, Try.ntmps28
      go_wp2_with (first | (go_at_call 47; refine (HRT.out _ _ (cells2 w A0 A1 c0 c1 _ _ _).1 (cells2 w A0 A1 c0 c1 _ _ _).2 (Kd.C_alloc HR0.out _) (Kd.C_alloc HR1.out _)).mono ?_; rintro e w' ⟨he, hb⟩; rw [errW_none] at he; subst he; have HB1 := Aside0.mk (below_step (below_alloc HB.out _) hb); clear hb) | (go_at_call 60; refine (HUN.out _ (Kd.C_below HR0.out HB1.out) (Kd.C_below HR1.out HB1.out)).mono ?_; rintro e w' ⟨v, rfl, hv, hb⟩; obtain ⟨Au, cu, rfl, hCu, hcu⟩ := hv; have HB2 := Aside0.mk (below_step HB1.out hb); have HU := Aside0.mk (And.intro hCu hcu); clear hb hCu hcu))
      go_ret2
      exact ⟨_, rfl, ⟨_, _, rfl, HU.out.1, HU.out.2⟩, HB2.out⟩
set_option maxHeartbeats 4000000 in
set_option maxRecDepth 100000 in
theorem less_calls (A0 A1 : Option Addr) (c0 c1 : Nat) (l0 l1 : List S41) (w : World) (hr0 : Kd.C k41 w A0 l0.length l0) (hc0 : l0.length ≤ c0) (hr1 : Kd.C k41 w A1 l1.length l1) (hc1 : l1.length ≤ c1) :
    Calls Try.prog 29 #[.slice A0 l0.length c0, .slice A1 l1.length c1] w fun e w' => ∃ v, e = .returned (.tuple #[v, errW (bothR l0 l1 false).2]) ∧ Row w' v (bothR l0 l1 false).1 ∧ Below w.heap.size w w' := by
  have HR0 := Aside0.mk hr0
  have HR1 := Aside0.mk hr1
  have HB := Aside0.mk (Below.refl w.heap.size w)
  have hright := fun W g0 h0 h1 hC0 hC1 => right2_calls g0 A0 A1 c0 c1 l0 l1 W h0 h1 hC0 hC1 hc0 hc1
  obtain ⟨r, hr⟩ : ∃ r, right2 l0 l1 = r := ⟨_, rfl⟩
  rw [hr] at hright
  cases r with
  | some n =>
    have hj : bothR l0 l1 false = ([], some n) := by unfold bothR; rw [hr]
    rw [hj]
    have HRT := Aside0.mk hright
    clear hr0 hr1 hright hr hj
    go_enter Try.func29, Try.ntmps29
    go_wp2_with (go_at_call 47; refine (HRT.out _ _ (cells2 w A0 A1 c0 c1 _ _ _).1 (cells2 w A0 A1 c0 c1 _ _ _).2 (Kd.C_alloc HR0.out _) (Kd.C_alloc HR1.out _)).mono ?_; rintro e w' ⟨he, hb⟩; rw [errW_some] at he; subst he; have HB1 := Aside0.mk hb; clear hb)
    go_ret2
    exact ⟨_, rfl, Row.nil _, below_step (below_alloc HB.out _) HB1.out⟩
  | none =>
    obtain ⟨hs0, hs1⟩ := right2_none.1 hr
    have hl0 := sortedR_len hs0
    have hun := fun W hC0 hC1 => part_calls A0 c0 l0 A1 c1 l1 false W hC0 hc0 hC1 hc1 (by omega) hs1
    have hj : bothR l0 l1 false = (partR l0 l1 false, none) := by unfold bothR; rw [hr]
    rw [hj]
    generalize partR l0 l1 false = u at hun ⊢
    have HRT := Aside0.mk hright
    have HUN := Aside0.mk hun
    clear hr0 hr1 hright hr hj hun hs0 hs1 hl0
    go_enter Try.func29, Try.ntmps29
    go_wp2_with (first | (go_at_call 47; refine (HRT.out _ _ (cells2 w A0 A1 c0 c1 _ _ _).1 (cells2 w A0 A1 c0 c1 _ _ _).2 (Kd.C_alloc HR0.out _) (Kd.C_alloc HR1.out _)).mono ?_; rintro e w' ⟨he, hb⟩; rw [errW_none] at he; subst he; have HB1 := Aside0.mk (below_step (below_alloc HB.out _) hb); clear hb) | (go_at_call 49; refine (HUN.out _ (Kd.C_below HR0.out HB1.out) (Kd.C_below HR1.out HB1.out)).mono ?_; rintro e w' ⟨v, rfl, hv, hb⟩; obtain ⟨Au, cu, rfl, hCu, hcu⟩ := hv; have HB2 := Aside0.mk (below_step HB1.out hb); have HU := Aside0.mk (And.intro hCu hcu); clear hb hCu hcu))
    go_ret2
    exact ⟨_, rfl, ⟨_, _, rfl, HU.out.1, HU.out.2⟩, HB2.out⟩
end Go.Proofs.Ytdjamphmndbmjaa.M

/- Package set by hand: Both, Has; stratasame.Triples. -/
namespace Go.Proofs.Ytdjamphmndbmjaa.M
open Go.RowKit Go.Proofs.YtdjamphmndbmjaaW.PrintWords Go.Proofs.YtdjamphmndbmjaaW.PrintLast Go.Proofs.YtdjamphmndbmjaaW.PrintMore
set_option linter.unusedVariables false
set_option linter.unusedSimpArgs false

set_option maxHeartbeats 4000000 in
set_option maxRecDepth 100000 in
theorem both_calls (A0 A1 : Option Addr) (c0 c1 : Nat) (l0 l1 : List S41) (w : World) (hr0 : Kd.C k41 w A0 l0.length l0) (hc0 : l0.length ≤ c0) (hr1 : Kd.C k41 w A1 l1.length l1) (hc1 : l1.length ≤ c1) :
    Calls Try.prog 23 #[.slice A0 l0.length c0, .slice A1 l1.length c1] w fun e w' => ∃ v, e = .returned (.tuple #[v, errW (bothR l0 l1 true).2]) ∧ Row w' v (bothR l0 l1 true).1 ∧ Below w.heap.size w w' := by
  have HR0 := Aside0.mk hr0
  have HR1 := Aside0.mk hr1
  have HB := Aside0.mk (Below.refl w.heap.size w)
  have hright := fun W g0 h0 h1 hC0 hC1 => right2_calls g0 A0 A1 c0 c1 l0 l1 W h0 h1 hC0 hC1 hc0 hc1
  obtain ⟨r, hr⟩ : ∃ r, right2 l0 l1 = r := ⟨_, rfl⟩
  rw [hr] at hright
  cases r with
  | some n =>
    have hj : bothR l0 l1 true = ([], some n) := by unfold bothR; rw [hr]
    rw [hj]
    have HRT := Aside0.mk hright
    clear hr0 hr1 hright hr hj
    go_enter Try.func23, Try.ntmps23
    go_wp2_with (go_at_call 47; refine (HRT.out _ _ (cells2 w A0 A1 c0 c1 _ _ _).1 (cells2 w A0 A1 c0 c1 _ _ _).2 (Kd.C_alloc HR0.out _) (Kd.C_alloc HR1.out _)).mono ?_; rintro e w' ⟨he, hb⟩; rw [errW_some] at he; subst he; have HB1 := Aside0.mk hb; clear hb)
    go_ret2
    exact ⟨_, rfl, Row.nil _, below_step (below_alloc HB.out _) HB1.out⟩
  | none =>
    obtain ⟨hs0, hs1⟩ := right2_none.1 hr
    have hl0 := sortedR_len hs0
    have hun := fun W hC0 hC1 => part_calls A0 c0 l0 A1 c1 l1 true W hC0 hc0 hC1 hc1 (by omega) hs1
    have hj : bothR l0 l1 true = (partR l0 l1 true, none) := by unfold bothR; rw [hr]
    rw [hj]
    generalize partR l0 l1 true = u at hun ⊢
    have HRT := Aside0.mk hright
    have HUN := Aside0.mk hun
    clear hr0 hr1 hright hr hj hun hs0 hs1 hl0
    go_enter Try.func23, Try.ntmps23
    go_wp2_with (first | (go_at_call 47; refine (HRT.out _ _ (cells2 w A0 A1 c0 c1 _ _ _).1 (cells2 w A0 A1 c0 c1 _ _ _).2 (Kd.C_alloc HR0.out _) (Kd.C_alloc HR1.out _)).mono ?_; rintro e w' ⟨he, hb⟩; rw [errW_none] at he; subst he; have HB1 := Aside0.mk (below_step (below_alloc HB.out _) hb); clear hb) | (go_at_call 49; refine (HUN.out _ (Kd.C_below HR0.out HB1.out) (Kd.C_below HR1.out HB1.out)).mono ?_; rintro e w' ⟨v, rfl, hv, hb⟩; obtain ⟨Au, cu, rfl, hCu, hcu⟩ := hv; have HB2 := Aside0.mk (below_step HB1.out hb); have HU := Aside0.mk (And.intro hCu hcu); clear hb hCu hcu))
    go_ret2
    exact ⟨_, rfl, ⟨_, _, rfl, HU.out.1, HU.out.2⟩, HB2.out⟩
theorem cells1 (w : World) (A0 : Option Addr) (c0 n0 : Nat) (T : Nat) : (w.alloc (.cells #[.slice A0 n0 c0] T)).cell? ⟨w.heap.size, 0, none⟩ = some (.slice A0 n0 c0) := (blk_cell (blk_new w _) 0).trans rfl
theorem cells1b (w : World) (o : Obj) (A0 : Option Addr) (c0 n0 : Nat) (T : Nat) : ((w.alloc o).alloc (.cells #[.slice A0 n0 c0] T)).cell? ⟨w.heap.size + 1, 0, none⟩ = some (.slice A0 n0 c0) := by rw [← alloc_size1 w o]; exact cells1 _ _ _ _ _
set_option maxHeartbeats 4000000 in
set_option maxRecDepth 100000 in
theorem has_calls (A0 : Option Addr) (c0 : Nat) (l0 : List S41) (x : S41) (w : World) (hr0 : Kd.C k41 w A0 l0.length l0) (hc0 : l0.length ≤ c0) :
    Calls Try.prog 22 #[.slice A0 l0.length c0, .agg #[.int .i64 x.f0.f0, .string x.f0.f1, .string x.f0.f2, .int .i64 x.f1.f0, .string x.f1.f1, .string x.f1.f2, .int .i64 x.f2.f0, .string x.f2.f1, .string x.f2.f2]] w fun e w' => e = .returned (.tuple #[.bool (hasR l0 x).1, errW (hasR l0 x).2]) ∧ Below w.heap.size w w' := by
  have HR0 := Aside0.mk hr0
  have HB := Aside0.mk (below_alloc (Below.refl w.heap.size w) (.cells (celR x) 41))
  have hright := fun W g0 h0 hC0 => right1_calls g0 A0 c0 l0 W h0 hC0 hc0
  have hchk := fun W => checkR_calls x W
  obtain ⟨r, hr⟩ : ∃ r, sortedR l0 = r := ⟨_, rfl⟩
  rw [hr] at hright
  have hbx := fun (W : World) (hW : Below (w.heap.size + 1) (w.alloc (.cells (celR x) 41)) W) (c : Nat) (v : Value) (h : (celR x)[c]? = some v) => (Below.cell hW (p := ⟨w.heap.size, c, none⟩) (Nat.lt_succ_self _)).trans ((blk_cell (blk_new w (.cells (celR x) 41)) c).trans h)
  have HBX := Aside0.mk hbx
  clear hbx
  cases r with
  | some n =>
    have hj : hasR l0 x = (false, some n) := by unfold hasR; rw [hr]
    rw [hj]
    have HRT := Aside0.mk hright
    clear hr0 hright hr hj hchk
    go_enter Try.func22, Try.ntmps22
    go_wp2_with (go_at_call 47; refine (HRT.out _ _ (cells1b w _ A0 c0 _ _) (Kd.C_alloc (Kd.C_alloc HR0.out _) _)).mono ?_; rintro e w' ⟨he, hb⟩; rw [errW_some] at he; subst he; have HB1 := Aside0.mk (below_step (below_alloc HB.out _) hb); clear hb)
    go_ret2
    exact ⟨rfl, HB1.out⟩
  | none =>
    obtain ⟨q, hq⟩ : ∃ q, chkR x = q := ⟨_, rfl⟩
    rw [hq] at hchk
    cases q with
    | some n =>
      have hj : hasR l0 x = (false, some n) := by unfold hasR; rw [hr, hq]
      rw [hj]
      have HRT := Aside0.mk hright
      have HCK := Aside0.mk hchk
      clear hr0 hright hr hj hchk hq
      go_enter Try.func22, Try.ntmps22
      go_wp2_with (first | (go_at_call 47; refine (HRT.out _ _ (cells1b w _ A0 c0 _ _) (Kd.C_alloc (Kd.C_alloc HR0.out _) _)).mono ?_; rintro e w' ⟨he, hb⟩; rw [errW_none] at he; subst he; have HB1 := Aside0.mk (below_step (below_alloc HB.out _) hb); have hW := (Below.alloc (Below.refl (w.heap.size + 1) (w.alloc (.cells (celR x) 41))) (by rw [alloc_size1]; exact Nat.le_refl _) _).trans (hb.mono (by rw [alloc_size1, alloc_size1]; omega)); have HW := Aside0.mk hW; have b0 := HBX.out _ hW 0 (.int .i64 x.f0.f0) rfl; have b1 := HBX.out _ hW 1 (.string x.f0.f1) rfl; have b2 := HBX.out _ hW 2 (.string x.f0.f2) rfl; have b3 := HBX.out _ hW 3 (.int .i64 x.f1.f0) rfl; have b4 := HBX.out _ hW 4 (.string x.f1.f1) rfl; have b5 := HBX.out _ hW 5 (.string x.f1.f2) rfl; have b6 := HBX.out _ hW 6 (.int .i64 x.f2.f0) rfl; have b7 := HBX.out _ hW 7 (.string x.f2.f1) rfl; have b8 := HBX.out _ hW 8 (.string x.f2.f2) rfl; clear hb hW) | (go_at_call 43; refine (HCK.out _).mono ?_; rintro e w' ⟨he, hb⟩; rw [errW_some] at he; subst he; have HB2 := Aside0.mk (below_step HB1.out hb); clear hb))
      go_ret2
      exact ⟨rfl, HB2.out⟩
    | none =>
      have hj : hasR l0 x = (inR l0 x, none) := by unfold hasR; rw [hr, hq]
      rw [hj]
      have hin := fun W hC => inR_calls A0 c0 l0 x W hC hr
      generalize inR l0 x = b at hin ⊢
      have HRT := Aside0.mk hright
      have HCK := Aside0.mk hchk
      have HIN := Aside0.mk hin
      clear hr0 hright hr hj hchk hq hin
      go_enter Try.func22, Try.ntmps22
      go_wp2_with (first | (go_at_call 47; refine (HRT.out _ _ (cells1b w _ A0 c0 _ _) (Kd.C_alloc (Kd.C_alloc HR0.out _) _)).mono ?_; rintro e w' ⟨he, hb⟩; rw [errW_none] at he; subst he; have HB1 := Aside0.mk (below_step (below_alloc HB.out _) hb); have hW := (Below.alloc (Below.refl (w.heap.size + 1) (w.alloc (.cells (celR x) 41))) (by rw [alloc_size1]; exact Nat.le_refl _) _).trans (hb.mono (by rw [alloc_size1, alloc_size1]; omega)); have HW := Aside0.mk hW; have b0 := HBX.out _ hW 0 (.int .i64 x.f0.f0) rfl; have b1 := HBX.out _ hW 1 (.string x.f0.f1) rfl; have b2 := HBX.out _ hW 2 (.string x.f0.f2) rfl; have b3 := HBX.out _ hW 3 (.int .i64 x.f1.f0) rfl; have b4 := HBX.out _ hW 4 (.string x.f1.f1) rfl; have b5 := HBX.out _ hW 5 (.string x.f1.f2) rfl; have b6 := HBX.out _ hW 6 (.int .i64 x.f2.f0) rfl; have b7 := HBX.out _ hW 7 (.string x.f2.f1) rfl; have b8 := HBX.out _ hW 8 (.string x.f2.f2) rfl; clear hb hW) | (go_at_call 43; refine (HCK.out _).mono ?_; rintro e w' ⟨he, hb⟩; rw [errW_none] at he; subst he; have HB2 := Aside0.mk (below_step HB1.out hb); have hW := HW.out.trans (hb.mono (by have := HW.out.size; rw [alloc_size1] at this; exact this)); have b0 := HBX.out _ hW 0 (.int .i64 x.f0.f0) rfl; have b1 := HBX.out _ hW 1 (.string x.f0.f1) rfl; have b2 := HBX.out _ hW 2 (.string x.f0.f2) rfl; have b3 := HBX.out _ hW 3 (.int .i64 x.f1.f0) rfl; have b4 := HBX.out _ hW 4 (.string x.f1.f1) rfl; have b5 := HBX.out _ hW 5 (.string x.f1.f2) rfl; have b6 := HBX.out _ hW 6 (.int .i64 x.f2.f0) rfl; have b7 := HBX.out _ hW 7 (.string x.f2.f1) rfl; have b8 := HBX.out _ hW 8 (.string x.f2.f2) rfl; clear hb hW) | (go_at_call 48; refine (HIN.out _ (Kd.C_below HR0.out HB2.out)).mono ?_; rintro e w' ⟨rfl, hb⟩; have HB3 := Aside0.mk (below_step HB2.out hb); clear hb))
      go_ret2
      exact ⟨rfl, HB3.out⟩
end Go.Proofs.Ytdjamphmndbmjaa.M

/- stratasame.Triples by hand. -/
namespace Go.Proofs.Ytdjamphmndbmjaa.M
open Go.RowKit Go.Proofs.YtdjamphmndbmjaaW.PrintWords Go.Proofs.YtdjamphmndbmjaaW.PrintLast Go.Proofs.YtdjamphmndbmjaaW.PrintMore
set_option linter.unusedVariables false
set_option linter.unusedSimpArgs false

attribute [local go_sem high] eqTR
set_option maxHeartbeats 4000000 in
set_option maxRecDepth 100000 in
theorem same_calls (A0 A1 : Option Addr) (c0 c1 : Nat) (l0 l1 : List S41) (w : World) (hr0 : Kd.C k41 w A0 l0.length l0) (hr1 : Kd.C k41 w A1 l1.length l1) :
    Calls Try.prog 20 #[.slice A0 l0.length c0, .slice A1 l1.length c1] w fun e w' => e = .returned (.bool (decide (l0 = l1))) ∧ ∃ q, w' = w.drewN q := by
  have hbig : l0.length ≤ 9223372036854775807 := by have := hr0.2.1; simpa [maxLen] using this
  have hu41 := Try.underlying41
  by_cases hlen : l0.length = l1.length
  · have HR0 := Aside0.mk hr0
    have HR1 := Aside0.mk hr1
    have hlz : ((l0.length : Int) != (l1.length : Int)) = false := by rw [hlen]; simp
    have hlz2 : (l0.length == l1.length) = true := by simpa using hlen
    obtain ⟨n, hn⟩ : ∃ n, l0.length = n := ⟨_, rfl⟩
    have hn1 : l1.length = n := by omega
    rw [hn, hn1] at hlz hlz2
    have HN := Aside0.mk hn
    have HN1 := Aside0.mk hn1
    rw [hn] at hbig
    rw [hn, hn1]
    clear hr0 hr1 hlen hn hn1
    go_enter Try.func20, Try.ntmps20
    go_wp2
    repeat (go_quiet (fail); try go_wp2)
    go_loopg [5] n (fun gg s5 wr => ∃ i : Nat, i ≤ n ∧ n - i ≤ gg ∧ s5 = .int .i64 i ∧ Aside0 (l0.take i = l1.take i) ∧ ∃ q, wr = w.drewN q)
    case atStart => exact ⟨0, by omega, by omega, rfl, ⟨rfl⟩, by first | exact ⟨0, rfl⟩ | exact ⟨_, rfl⟩⟩
    case round =>
      obtain ⟨i, hin, hgg, rfl, HT, q, rfl⟩ := hrel
      by_cases hlt : i < n
      · have hltz : (i : Int) < (n : Int) := by omega
        have h0l : i < l0.length := by rw [HN.out]; exact hlt
        have h1l : i < l1.length := by rw [HN1.out]; exact hlt
        obtain ⟨ad0, e0, a0, a1, a2, a3, a4, a5, a6, a7, a8⟩ := at_T41 HR0.out (i : Int) (by omega) (by omega)
        obtain ⟨ad1, e1, b0, b1, b2, b3, b4, b5, b6, b7, b8⟩ := at_T41 HR1.out (i : Int) (by omega) (by omega)
        subst e0; subst e1
        rw [rd_T41_at l0 i h0l, Int.toNat_natCast] at a0 a1 a2 a3 a4 a5 a6 a7 a8
        rw [rd_T41_at l1 i h1l, Int.toNat_natCast] at b0 b1 b2 b3 b4 b5 b6 b7 b8
        have ht0 := take_one l0 i h0l
        have ht1 := take_one l1 i h1l
        have hd : ∀ h : l0 = l1, l0[i] = l1[i] := fun h => by subst h; rfl
        obtain ⟨x, hx⟩ : ∃ x, l0[i] = x := ⟨_, rfl⟩
        obtain ⟨y, hy⟩ : ∃ y, l1[i] = y := ⟨_, rfl⟩
        rw [hx] at a0 a1 a2 a3 a4 a5 a6 a7 a8 ht0 hd
        rw [hy] at b0 b1 b2 b3 b4 b5 b6 b7 b8 ht1 hd
        have HT0 := Aside0.mk ht0
        have HT1 := Aside0.mk ht1
        have HD := Aside0.mk hd
        have heq := eqE_decide x y
        clear ht0 ht1 hd hx hy h0l h1l
        by_cases hxy : x = y
        · rw [decide_eq_true hxy] at heq
          have HXY := Aside0.mk hxy
          clear hxy
          go_wp2
          repeat (go_quiet (fail); try go_wp2)
          go_roundg (n - (i + 1))
          case measure => omega
          case rel => exact ⟨i + 1, by omega, Nat.le_refl _, by go_num, ⟨by rw [HT0.out, HT1.out, HT.out, HXY.out]⟩, _, rfl⟩
        · rw [decide_eq_false hxy] at heq
          have HXY := Aside0.mk hxy
          clear hxy
          go_wp2
          repeat (go_quiet (fail); try go_wp2)
          go_ret
          exact ⟨by rw [decide_eq_false (fun h => HXY.out (HD.out h))]; rfl, _, World.drewN_drewN _ _ _⟩
      · have hltz : ¬ (i : Int) < (n : Int) := by omega
        obtain rfl : i = n := by omega
        go_wp2
        go_ret
        have ht := HT.out
        rw [List.take_of_length_le (by rw [HN.out]; exact Nat.le_refl _), List.take_of_length_le (by rw [HN1.out]; exact Nat.le_refl _)] at ht
        exact ⟨by rw [decide_eq_true ht]; rfl, _, rfl⟩
  · have hne : ¬ l0 = l1 := fun h => hlen (by rw [h])
    rw [decide_eq_false hne]
    have hlz : ((l0.length : Int) != (l1.length : Int)) = true := by rw [bne_iff_ne]; omega
    have hlz2 : (l0.length == l1.length) = false := by simpa using hlen
    clear hr0 hr1 hne
    go_enter Try.func20, Try.ntmps20
    go_wp2
    repeat (go_quiet (fail); try go_wp2)
    go_ret
    exact ⟨rfl, by first | exact ⟨0, rfl⟩ | exact ⟨_, rfl⟩⟩
end Go.Proofs.Ytdjamphmndbmjaa.M

/- Sets in plain words: what strict lists that have the same are, what the union and the parts have. No program in sight. -/
namespace Go.Proofs.Ytdjamphmndbmjaa.M
open Go.RowKit Go.Proofs.YtdjamphmndbmjaaW.PrintWords Go.Proofs.YtdjamphmndbmjaaW.PrintLast Go.Proofs.YtdjamphmndbmjaaW.PrintMore
set_option linter.unusedVariables false
set_option linter.unusedSimpArgs false

open Go.Lib
def Strict (l : List S41) : Prop := l.Pairwise fun a b => cmpR a b < 0
theorem cmp_irrefl (x : S41) : ¬ cmpR x x < 0 := by rw [(lawR.zero x x).2 rfl]; omega
theorem Strict.nodup {l : List S41} (h : Strict l) : l.Nodup := h.imp fun {a b} hab he => by subst he; exact cmp_irrefl _ hab
theorem strict_ext {l l' : List S41} (h : Strict l) (h' : Strict l') (hm : ∀ x, x ∈ l ↔ x ∈ l') : l = l' := by
  have hp : l.Perm l' := (List.perm_ext_iff_of_nodup h.nodup h'.nodup).2 hm
  exact hp.eq_of_pairwise (le := fun a b => cmpR a b < 0) (fun a b _ _ h1 h2 => absurd (lawR.trans a b a h1 h2) (cmp_irrefl a)) h h'
theorem sortedR_iff {l : List S41} : sortedR l = none ↔ l.length ≤ 200 ∧ (∀ x ∈ l, chkR x = none) ∧ Strict l := by
  refine ⟨fun h => sortedR_none h, fun ⟨h1, h2, h3⟩ => ?_⟩
  unfold sortedR
  rw [if_neg (by omega)]
  have : ∀ (l : List S41) (p : Option S41), (∀ x ∈ l, chkR x = none) → Strict l → (∀ q, p = some q → ∀ x ∈ l, cmpR q x < 0) → sortedFrom p l = none := by
    intro l
    induction l with
    | nil => intro p _ _ _; cases p <;> rfl
    | cons t l ih =>
      intro p hc hs hp
      have ht := hc t List.mem_cons_self
      have hrec := ih (some t) (fun x hx => hc x (List.mem_cons_of_mem _ hx)) (List.Pairwise.of_cons hs) (fun q hq x hx => by injection hq with hq; subst hq; exact List.rel_of_pairwise_cons hs hx)
      unfold sortedFrom
      rw [ht]
      cases p with
      | none => simpa using hrec
      | some q =>
        have := hp q rfl t List.mem_cons_self
        simp only
        rw [if_neg (by simp; omega)]
        exact hrec
  exact this l none h2 h3 (fun q hq => by cases hq)
theorem inR_iff {l : List S41} {x : S41} : inR l x = true ↔ x ∈ l := by
  unfold inR
  rw [List.any_eq_true]
  constructor
  · rintro ⟨y, hy, he⟩
    rw [← of_decide_eq_true he]; exact hy
  · exact fun h => ⟨x, h, decide_eq_true rfl⟩
theorem mem_partR {a b : List S41} {is : Bool} {x : S41} : x ∈ partR a b is ↔ x ∈ a ∧ (x ∈ b ↔ is = true) := by
  unfold partR
  rw [List.mem_filter, beq_iff_eq, ← inR_iff (l := b)]
  cases inR b x <;> cases is <;> simp
theorem strict_partR {a b : List S41} {is : Bool} (h : Strict a) : Strict (partR a b is) := List.Pairwise.filter _ h
/-! the union -/
theorem mem_uniqFrom {p : S41} {l : List S41} {x : S41} : x ∈ uniqFrom p l → x ∈ l := by
  induction l generalizing p with
  | nil => intro h; cases h
  | cons y l ih =>
    unfold uniqFrom
    split
    · exact fun h => List.mem_cons_of_mem _ (ih h)
    · intro h
      rcases List.mem_cons.1 h with h | h
      · rw [h]; exact List.mem_cons_self
      · exact List.mem_cons_of_mem _ (ih h)
theorem uniqFrom_mem {p : S41} {l : List S41} {x : S41} : x ∈ l → x = p ∨ x ∈ uniqFrom p l := by
  induction l generalizing p with
  | nil => intro h; cases h
  | cons y l ih =>
    intro h
    unfold uniqFrom
    split
    · rename_i e
      rcases List.mem_cons.1 h with h | h
      · exact .inl (h.trans e)
      · exact ih h
    · rcases List.mem_cons.1 h with h | h
      · exact .inr (by rw [h]; exact List.mem_cons_self)
      · rcases ih (p := y) h with h | h
        · exact .inr (by rw [h]; exact List.mem_cons_self)
        · exact .inr (List.mem_cons_of_mem _ h)
theorem mem_uniq {l : List S41} {x : S41} : x ∈ uniq l ↔ x ∈ l := by
  cases l with
  | nil => exact Iff.rfl
  | cons y l =>
    unfold uniq
    rw [List.mem_cons, List.mem_cons]
    constructor
    · rintro (h | h)
      · exact .inl h
      · exact .inr (mem_uniqFrom h)
    · rintro (h | h)
      · exact .inl h
      · exact uniqFrom_mem h
theorem strict_uniqFrom {p : S41} {l : List S41} (h : (p :: l).Pairwise fun a b => cmpR a b ≤ 0) : (∀ x ∈ uniqFrom p l, cmpR p x < 0) ∧ Strict (uniqFrom p l) := by
  induction l generalizing p with
  | nil => exact ⟨fun x hx => (by cases hx), List.Pairwise.nil⟩
  | cons y l ih =>
    have hpy : cmpR p y ≤ 0 := List.rel_of_pairwise_cons h List.mem_cons_self
    have hy : (y :: l).Pairwise fun a b => cmpR a b ≤ 0 := List.Pairwise.of_cons h
    unfold uniqFrom
    split
    · rename_i e; subst e
      exact ih hy
    · rename_i e
      have hlt : cmpR p y < 0 := by
        rcases Int.lt_or_eq_of_le hpy with h | h
        · exact h
        · exact absurd ((lawR.zero p y).1 h).symm e
      obtain ⟨h1, h2⟩ := ih hy
      refine ⟨fun x hx => ?_, List.Pairwise.cons h1 h2⟩
      rcases List.mem_cons.1 hx with hx | hx
      · rw [hx]; exact hlt
      · exact lawR.trans p y x hlt (h1 x hx)
theorem sortL_sorted (l : List S41) : (sortL l).Pairwise fun a b => cmpR a b ≤ 0 := by
  have h := List.pairwise_mergeSort (le := fun x y => !(ltOf cmpR) y x) (fun a b c => by
      unfold ltOf
      simp only [Bool.not_eq_true', decide_eq_false_iff_not]
      intro h1 h2 h3
      exact absurd h3 (by have := swoR.ntrans c b a; unfold ltOf at this; simp only [decide_eq_false_iff_not] at this; exact this h2 h1)) (fun a b => by
      unfold ltOf
      rw [Bool.or_eq_true, Bool.not_eq_true', Bool.not_eq_true', decide_eq_false_iff_not, decide_eq_false_iff_not]
      have := lawR.anti a b
      omega) l
  refine h.imp fun {a b} hab => ?_
  unfold ltOf at hab
  simp only [Bool.not_eq_true', decide_eq_false_iff_not] at hab
  have := lawR.anti a b
  omega
theorem strict_unionR (a b : List S41) : Strict (unionR a b) := by
  unfold unionR
  have h := sortL_sorted (a ++ b)
  generalize sortL (a ++ b) = l at h
  cases l with
  | nil => exact List.Pairwise.nil
  | cons x l =>
    obtain ⟨h1, h2⟩ := strict_uniqFrom h
    exact List.Pairwise.cons h1 h2
theorem mem_unionR {a b : List S41} {x : S41} : x ∈ unionR a b ↔ x ∈ a ∨ x ∈ b := by
  unfold unionR
  rw [mem_uniq]
  unfold sortL
  rw [List.mem_mergeSort, List.mem_append]
theorem unionR_comm (a b : List S41) : unionR a b = unionR b a := strict_ext (strict_unionR _ _) (strict_unionR _ _) fun x => by rw [mem_unionR, mem_unionR, Or.comm]
theorem chk_unionR {a b : List S41} (ha : ∀ x ∈ a, chkR x = none) (hb : ∀ x ∈ b, chkR x = none) : ∀ x ∈ unionR a b, chkR x = none := fun x hx => by
  rcases mem_unionR.1 hx with h | h
  · exact ha x h
  · exact hb x h
theorem sorted_unionR {a b : List S41} (ha : sortedR a = none) (hb : sortedR b = none) (hl : (unionR a b).length ≤ 200) : sortedR (unionR a b) = none :=
  sortedR_iff.2 ⟨hl, chk_unionR (sortedR_iff.1 ha).2.1 (sortedR_iff.1 hb).2.1, strict_unionR _ _⟩
theorem sorted_partR {a b : List S41} {is : Bool} (ha : sortedR a = none) : sortedR (partR a b is) = none := by
  obtain ⟨h1, h2, h3⟩ := sortedR_iff.1 ha
  exact sortedR_iff.2 ⟨Nat.le_trans (List.length_filter_le _ _) h1, fun x hx => h2 x ((List.mem_filter.1 hx).1), strict_partR h3⟩
theorem part_lengths (a b : List S41) : (partR a b false).length + (partR a b true).length = a.length := by
  unfold partR
  induction a with
  | nil => rfl
  | cons x a ih =>
    rw [List.filter_cons, List.filter_cons]
    cases h : inR b x
    · rw [if_pos (by rfl), if_neg (by decide)]; simp only [List.length_cons]; omega
    · rw [if_neg (by decide), if_pos (by rfl)]; simp only [List.length_cons]; omega
theorem strict_perm {l l' : List S41} (h : l.Nodup) (h' : l'.Nodup) (hm : ∀ x, x ∈ l ↔ x ∈ l') : l.length = l'.length := ((List.perm_ext_iff_of_nodup h h').2 hm).length_eq
theorem union_length {a b : List S41} (ha : Strict a) (hb : Strict b) : (unionR a b).length = a.length + (partR b a false).length := by
  rw [← List.length_append]
  refine strict_perm (strict_unionR a b).nodup ?_ fun x => ?_
  · rw [List.nodup_append]
    refine ⟨ha.nodup, (strict_partR hb).nodup, fun x hx y hy he => ?_⟩
    subst he
    have := (mem_partR.1 hy).2.1 hx
    cases this
  · rw [mem_unionR, List.mem_append, mem_partR]
    by_cases h : x ∈ a <;> simp [h]
theorem union_lengths {a b : List S41} (ha : Strict a) (hb : Strict b) : (unionR a b).length = (partR a b false).length + (partR b a false).length + (partR a b true).length := by
  rw [union_length ha hb]
  have := part_lengths a b
  omega
theorem union_parts {a b : List S41} (ha : Strict a) : unionR (partR a b false) (partR a b true) = a := strict_ext (strict_unionR _ _) ha fun x => by
  rw [mem_unionR, mem_partR, mem_partR]
  by_cases h : x ∈ b <;> simp [h]
theorem union_more {a b : List S41} : unionR a (partR b a false) = unionR a b := strict_ext (strict_unionR _ _) (strict_unionR _ _) fun x => by
  rw [mem_unionR, mem_unionR, mem_partR]
  by_cases h : x ∈ a <;> simp [h]
theorem in_union {a b : List S41} {x : S41} : inR (unionR a b) x = (inR a x || inR b x) := by
  rw [Bool.eq_iff_iff, Bool.or_eq_true, inR_iff, inR_iff, inR_iff, mem_unionR]
theorem in_both {a b : List S41} {x : S41} : inR (partR a b true) x = (inR a x && inR b x) := by
  rw [Bool.eq_iff_iff, Bool.and_eq_true, inR_iff, inR_iff, inR_iff, mem_partR]
  simp
end Go.Proofs.Ytdjamphmndbmjaa.M

/- What the walks of several laws share: the triple of the facts, the rows it lies in. -/
namespace Go.Proofs.Ytdjamphmndbmjaa.M
open Go.RowKit Go.Proofs.YtdjamphmndbmjaaW.PrintWords Go.Proofs.YtdjamphmndbmjaaW.PrintLast Go.Proofs.YtdjamphmndbmjaaW.PrintMore
set_option linter.unusedVariables false
set_option linter.unusedSimpArgs false

/-- The triple of the laws' facts. -/
def xabc : S41 := ⟨⟨1, ⟨#[97]⟩, ⟨#[]⟩⟩, ⟨1, ⟨#[98]⟩, ⟨#[]⟩⟩, ⟨1, ⟨#[99]⟩, ⟨#[]⟩⟩⟩
theorem chk_xabc : chkR xabc = none := by decide +kernel
theorem sorted_one {x : S41} (h : chkR x = none) : sortedR [x] = none := sortedR_iff.2 ⟨by simp, fun y hy => by rw [List.mem_singleton.1 hy]; exact h, List.pairwise_singleton _ _⟩
theorem sorted_nil : sortedR ([] : List S41) = none := rfl
theorem row_one (w : World) (x : S41) : Kd.C k41 (w.alloc (.cells (celR x) 41)) (some ⟨w.heap.size, 0, none⟩) 1 [x] := by
  refine ⟨rfl, by simp, fun _ => ⟨_, rfl, fun j p hj => ?_⟩⟩
  have hj0 : j = 0 := by
    rcases j with _ | j
    · rfl
    · simp at hj
  subst hj0
  obtain rfl : x = p := by simpa using hj
  refine ⟨(celR x).toList, rfl, k41_mk _ x, fun i u hi => ?_⟩
  have ha : Addr.add ⟨w.heap.size, 0, none⟩ (0 * 9 + i) = ⟨w.heap.size, i, none⟩ := by simp [Addr.add]; intro h; exact h.symm
  have e9 : k41.sz = 9 := rfl
  rw [e9, ha]
  exact (blk_cell (blk_new w _) i).trans (by rw [← hi]; simp)
theorem row_three (w : World) (o1 o2 : Obj) : Kd.C k41 (((w.alloc o1).alloc o2).alloc (.cells (celR xabc) 41)) (some ⟨w.heap.size + 1 + 1, 0, none⟩) 1 [xabc] := by
  have h := row_one ((w.alloc o1).alloc o2) xabc
  rw [alloc_size1, alloc_size1] at h
  exact h
theorem C_none (w : World) : Kd.C k41 w none 0 ([] : List S41) := ⟨rfl, by simp, fun h => absurd h (Nat.lt_irrefl 0)⟩
theorem cell_keep {W0 W W' : World} {p : Addr} {v : Value} (h : Below W0.heap.size W0 W) (hb : Below W.heap.size W W') (hc : W0.cell? p = some v) : W'.cell? p = some v := by
  have h1 : W.cell? p = some v := (h.cell (World.block_lt_of_cell? W0 _ hc)).trans hc
  exact (hb.cell (World.block_lt_of_cell? W _ h1)).trans h1
theorem one_cells {w : World} {A : Option Addr} {x : S41} (h : Kd.C k41 w A 1 [x]) : ∃ ad, A = some ad ∧ w.cell? ad = some (.int .i64 x.f0.f0) ∧ w.cell? ⟨ad.block, ad.off + 1, none⟩ = some (.string x.f0.f1) ∧ w.cell? ⟨ad.block, ad.off + 2, none⟩ = some (.string x.f0.f2) ∧ w.cell? ⟨ad.block, ad.off + 3, none⟩ = some (.int .i64 x.f1.f0) ∧ w.cell? ⟨ad.block, ad.off + 4, none⟩ = some (.string x.f1.f1) ∧ w.cell? ⟨ad.block, ad.off + 5, none⟩ = some (.string x.f1.f2) ∧ w.cell? ⟨ad.block, ad.off + 6, none⟩ = some (.int .i64 x.f2.f0) ∧ w.cell? ⟨ad.block, ad.off + 7, none⟩ = some (.string x.f2.f1) ∧ w.cell? ⟨ad.block, ad.off + 8, none⟩ = some (.string x.f2.f2) := by
  obtain ⟨ad, e, hc⟩ := at_T41 h 0 (by omega) (by omega)
  have ea : ad.add ((0 : Int).toNat * 9) = ad := by simp [Addr.add]
  rw [ea] at hc
  exact ⟨ad, e, hc⟩
theorem right2_turn {a b : List S41} {n : Int} (h : right2 a b = some n) : ∃ n', right2 b a = some n' := by
  cases h' : right2 b a with
  | some n' => exact ⟨n', rfl⟩
  | none => rw [right2_none.2 (And.symm (right2_none.1 h'))] at h; cases h
theorem strict_one (x : S41) : Strict [x] := List.pairwise_singleton _ _
theorem join_xabc : joinR [xabc] [] = ([xabc], none) := by
  have hr : right2 [xabc] [] = none := right2_none.2 ⟨sorted_one chk_xabc, sorted_nil⟩
  have hu : unionR [xabc] [] = [xabc] := strict_ext (strict_unionR _ _) (strict_one _) fun x => by rw [mem_unionR]; simp
  unfold joinR
  rw [hr]
  simp only [hu]
  rfl
theorem join_ok {u l0 l1 : List S41} (h : joinR l0 l1 = (u, none)) (A0 A1 : Option Addr) (c0 c1 : Nat) (w : World) (hr0 : Kd.C k41 w A0 l0.length l0) (hc0 : l0.length ≤ c0) (hr1 : Kd.C k41 w A1 l1.length l1) (hc1 : l1.length ≤ c1) :
    Calls Try.prog 28 #[.slice A0 l0.length c0, .slice A1 l1.length c1] w fun e w' => ∃ v, e = .returned (.tuple #[v, .nilIface]) ∧ Row w' v u ∧ Below w.heap.size w w' := by
  have hc := join_calls A0 A1 c0 c1 l0 l1 w hr0 hc0 hr1 hc1
  rw [h] at hc
  exact hc
theorem join_err {u l0 l1 : List S41} {n : Int} (h : joinR l0 l1 = (u, some n)) (A0 A1 : Option Addr) (c0 c1 : Nat) (w : World) (hr0 : Kd.C k41 w A0 l0.length l0) (hc0 : l0.length ≤ c0) (hr1 : Kd.C k41 w A1 l1.length l1) (hc1 : l1.length ≤ c1) :
    Calls Try.prog 28 #[.slice A0 l0.length c0, .slice A1 l1.length c1] w fun e w' => ∃ v, e = .returned (.tuple #[v, .iface 23 (.int .i64 n)]) ∧ Row w' v u ∧ Below w.heap.size w w' := by
  have hc := join_calls A0 A1 c0 c1 l0 l1 w hr0 hc0 hr1 hc1
  rw [h] at hc
  exact hc
theorem less_ok {u l0 l1 : List S41} (h : bothR l0 l1 false = (u, none)) (A0 A1 : Option Addr) (c0 c1 : Nat) (w : World) (hr0 : Kd.C k41 w A0 l0.length l0) (hc0 : l0.length ≤ c0) (hr1 : Kd.C k41 w A1 l1.length l1) (hc1 : l1.length ≤ c1) :
    Calls Try.prog 29 #[.slice A0 l0.length c0, .slice A1 l1.length c1] w fun e w' => ∃ v, e = .returned (.tuple #[v, .nilIface]) ∧ Row w' v u ∧ Below w.heap.size w w' := by
  have hc := less_calls A0 A1 c0 c1 l0 l1 w hr0 hc0 hr1 hc1
  rw [h] at hc
  exact hc
theorem less_err {u l0 l1 : List S41} {n : Int} (h : bothR l0 l1 false = (u, some n)) (A0 A1 : Option Addr) (c0 c1 : Nat) (w : World) (hr0 : Kd.C k41 w A0 l0.length l0) (hc0 : l0.length ≤ c0) (hr1 : Kd.C k41 w A1 l1.length l1) (hc1 : l1.length ≤ c1) :
    Calls Try.prog 29 #[.slice A0 l0.length c0, .slice A1 l1.length c1] w fun e w' => ∃ v, e = .returned (.tuple #[v, .iface 23 (.int .i64 n)]) ∧ Row w' v u ∧ Below w.heap.size w w' := by
  have hc := less_calls A0 A1 c0 c1 l0 l1 w hr0 hc0 hr1 hc1
  rw [h] at hc
  exact hc
theorem both_ok {u l0 l1 : List S41} (h : bothR l0 l1 true = (u, none)) (A0 A1 : Option Addr) (c0 c1 : Nat) (w : World) (hr0 : Kd.C k41 w A0 l0.length l0) (hc0 : l0.length ≤ c0) (hr1 : Kd.C k41 w A1 l1.length l1) (hc1 : l1.length ≤ c1) :
    Calls Try.prog 23 #[.slice A0 l0.length c0, .slice A1 l1.length c1] w fun e w' => ∃ v, e = .returned (.tuple #[v, .nilIface]) ∧ Row w' v u ∧ Below w.heap.size w w' := by
  have hc := both_calls A0 A1 c0 c1 l0 l1 w hr0 hc0 hr1 hc1
  rw [h] at hc
  exact hc
theorem both_err {u l0 l1 : List S41} {n : Int} (h : bothR l0 l1 true = (u, some n)) (A0 A1 : Option Addr) (c0 c1 : Nat) (w : World) (hr0 : Kd.C k41 w A0 l0.length l0) (hc0 : l0.length ≤ c0) (hr1 : Kd.C k41 w A1 l1.length l1) (hc1 : l1.length ≤ c1) :
    Calls Try.prog 23 #[.slice A0 l0.length c0, .slice A1 l1.length c1] w fun e w' => ∃ v, e = .returned (.tuple #[v, .iface 23 (.int .i64 n)]) ∧ Row w' v u ∧ Below w.heap.size w w' := by
  have hc := both_calls A0 A1 c0 c1 l0 l1 w hr0 hc0 hr1 hc1
  rw [h] at hc
  exact hc
theorem has_ok {x : S41} {l0 : List S41} {b : Bool} (h : hasR l0 x = (b, none)) (A0 : Option Addr) (c0 : Nat) (w : World) (hr0 : Kd.C k41 w A0 l0.length l0) (hc0 : l0.length ≤ c0) :
    Calls Try.prog 22 #[.slice A0 l0.length c0, .agg #[.int .i64 x.f0.f0, .string x.f0.f1, .string x.f0.f2, .int .i64 x.f1.f0, .string x.f1.f1, .string x.f1.f2, .int .i64 x.f2.f0, .string x.f2.f1, .string x.f2.f2]] w fun e w' => e = .returned (.tuple #[.bool b, .nilIface]) ∧ Below w.heap.size w w' := by
  have hc := has_calls A0 c0 l0 x w hr0 hc0
  rw [h] at hc
  exact hc
theorem has_err {x : S41} {l0 : List S41} {b : Bool} {n : Int} (h : hasR l0 x = (b, some n)) (A0 : Option Addr) (c0 : Nat) (w : World) (hr0 : Kd.C k41 w A0 l0.length l0) (hc0 : l0.length ≤ c0) :
    Calls Try.prog 22 #[.slice A0 l0.length c0, .agg #[.int .i64 x.f0.f0, .string x.f0.f1, .string x.f0.f2, .int .i64 x.f1.f0, .string x.f1.f1, .string x.f1.f2, .int .i64 x.f2.f0, .string x.f2.f1, .string x.f2.f2]] w fun e w' => e = .returned (.tuple #[.bool b, .iface 23 (.int .i64 n)]) ∧ Below w.heap.size w w' := by
  have hc := has_calls A0 c0 l0 x w hr0 hc0
  rw [h] at hc
  exact hc
theorem same_true {l0 l1 : List S41} (h : l0 = l1) (A0 A1 : Option Addr) (c0 c1 : Nat) (w : World) (hr0 : Kd.C k41 w A0 l0.length l0) (hr1 : Kd.C k41 w A1 l1.length l1) :
    Calls Try.prog 20 #[.slice A0 l0.length c0, .slice A1 l1.length c1] w fun e w' => e = .returned (.bool true) ∧ Below w.heap.size w w' := by
  have hc := same_calls A0 A1 c0 c1 l0 l1 w hr0 hr1
  rw [decide_eq_true h] at hc
  exact hc.mono fun _ _ ⟨he, q, hq⟩ => ⟨he, by rw [hq]; exact pw_below_drewN (Below.refl _ _) q⟩
theorem same_false {l0 l1 : List S41} (h : ¬ l0 = l1) (A0 A1 : Option Addr) (c0 c1 : Nat) (w : World) (hr0 : Kd.C k41 w A0 l0.length l0) (hr1 : Kd.C k41 w A1 l1.length l1) :
    Calls Try.prog 20 #[.slice A0 l0.length c0, .slice A1 l1.length c1] w fun e w' => e = .returned (.bool false) ∧ Below w.heap.size w w' := by
  have hc := same_calls A0 A1 c0 c1 l0 l1 w hr0 hr1
  rw [decide_eq_false h] at hc
  exact hc.mono fun _ _ ⟨he, q, hq⟩ => ⟨he, by rw [hq]; exact pw_below_drewN (Below.refl _ _) q⟩
end Go.Proofs.Ytdjamphmndbmjaa.M

/- Layers in plain words: what is wrong with one, what is between two sets, what one makes of a set, one behind another. No program in sight. -/
namespace Go.Proofs.Ytdjamphmndbmjaa.M
open Go.RowKit Go.Proofs.YtdjamphmndbmjaaW.PrintWords Go.Proofs.YtdjamphmndbmjaaW.PrintLast Go.Proofs.YtdjamphmndbmjaaW.PrintMore
set_option linter.unusedVariables false
set_option linter.unusedSimpArgs false

def layErr (a t : List S41) : Option Int := match right2 a t with | some e => some e | none => if (partR a t true).length > 0 then some 7 else none
def betwR (a b : List S41) : (List S41 × List S41) × Option Int := match right2 a b with | some e => (([], []), some e) | none => ((partR b a false, partR a b false), none)
def applyR (s a t : List S41) : List S41 × Option Int :=
  match sortedR s with
  | some e => ([], some e)
  | none => match layErr a t with
    | some e => ([], some e)
    | none => if (partR a s true).length > 0 then ([], some 7) else if (partR t s false).length > 0 then ([], some 5) else if (unionR (partR s t false) a).length > 200 then ([], some 4) else (unionR (partR s t false) a, none)
def thenR (a t a' t' : List S41) : (List S41 × List S41) × Option Int :=
  match layErr a t with
  | some e => (([], []), some e)
  | none => match layErr a' t' with
    | some e => (([], []), some e)
    | none => if (partR a a' true).length > 0 ∨ (partR t t' true).length > 0 then (([], []), some 7) else if (unionR (partR a t' false) (partR a' t false)).length > 200 ∨ (unionR (partR t a' false) (partR t' a false)).length > 200 then (([], []), some 4) else ((unionR (partR a t' false) (partR a' t false), unionR (partR t a' false) (partR t' a false)), none)
theorem part_nil {a b : List S41} {is : Bool} (h : ∀ x ∈ a, ¬ (x ∈ b ↔ is = true)) : partR a b is = [] := List.eq_nil_iff_forall_not_mem.2 fun x hx => by
  obtain ⟨h1, h2⟩ := mem_partR.1 hx
  exact h x h1 h2
theorem mem_less {a b : List S41} {x : S41} : x ∈ partR a b false ↔ x ∈ a ∧ ¬ x ∈ b := by rw [mem_partR]; simp
theorem mem_both {a b : List S41} {x : S41} : x ∈ partR a b true ↔ x ∈ a ∧ x ∈ b := by rw [mem_partR]; simp
theorem part_less {a b : List S41} : partR a b false = [] ↔ ∀ x ∈ a, x ∈ b := by
  rw [List.eq_nil_iff_forall_not_mem]
  constructor
  · intro h x hx
    exact Classical.byContradiction fun hn => h x (mem_less.2 ⟨hx, hn⟩)
  · intro h x hx
    obtain ⟨h1, h2⟩ := mem_less.1 hx
    exact h2 (h x h1)
theorem part_both {a b : List S41} : partR a b true = [] ↔ ∀ x ∈ a, ¬ x ∈ b := by
  rw [List.eq_nil_iff_forall_not_mem]
  constructor
  · exact fun h x hx hb => h x (mem_both.2 ⟨hx, hb⟩)
  · intro h x hx
    obtain ⟨h1, h2⟩ := mem_both.1 hx
    exact h x h1 h2
theorem no_more {l : List S41} (h : l = []) : ¬ l.length > 0 := by subst h; simp
theorem lay_ok {a t : List S41} (ha : sortedR a = none) (ht : sortedR t = none) (h : ∀ x ∈ a, ¬ x ∈ t) : layErr a t = none := by
  unfold layErr
  rw [right2_none.2 ⟨ha, ht⟩]
  simp only
  rw [part_both.2 h]
  rfl
theorem lay_none {a t : List S41} (h : layErr a t = none) : sortedR a = none ∧ sortedR t = none ∧ ∀ x ∈ a, ¬ x ∈ t := by
  unfold layErr at h
  cases hr : right2 a t with
  | some e => rw [hr] at h; cases h
  | none =>
    rw [hr] at h
    simp only at h
    obtain ⟨h1, h2⟩ := right2_none.1 hr
    refine ⟨h1, h2, part_both.1 ?_⟩
    by_cases hl : (partR a t true).length > 0
    · rw [if_pos hl] at h; cases h
    · exact List.eq_nil_of_length_eq_zero (by omega)
theorem betw_ok {a b : List S41} (ha : sortedR a = none) (hb : sortedR b = none) : betwR a b = ((partR b a false, partR a b false), none) := by
  unfold betwR
  rw [right2_none.2 ⟨ha, hb⟩]
theorem betw_lay {a b : List S41} (ha : sortedR a = none) (hb : sortedR b = none) : layErr (partR b a false) (partR a b false) = none :=
  lay_ok (sorted_partR hb) (sorted_partR ha) fun x hx hy => (mem_less.1 hx).2 (mem_less.1 hy).1
/-- What is between two sets makes of the one the other. -/
theorem apply_betw {a b : List S41} (ha : sortedR a = none) (hb : sortedR b = none) : applyR a (partR b a false) (partR a b false) = (b, none) := by
  have hu : unionR (partR a (partR a b false) false) (partR b a false) = b := strict_ext (strict_unionR _ _) (sortedR_iff.1 hb).2.2 fun x => by
    rw [mem_unionR, mem_less, mem_less, mem_less]
    by_cases h1 : x ∈ a <;> by_cases h2 : x ∈ b <;> simp [h1, h2]
  unfold applyR
  rw [ha, betw_lay ha hb]
  simp only
  rw [part_both.2 (fun x hx => (mem_less.1 hx).2), part_less.2 (fun x hx => (mem_less.1 hx).1), hu]
  rw [if_neg (no_more rfl), if_neg (no_more rfl), if_neg (by have := sortedR_len hb; omega)]
theorem turn_lay {a t : List S41} (h : layErr a t = none) : layErr t a = none := by
  obtain ⟨h1, h2, h3⟩ := lay_none h
  exact lay_ok h2 h1 fun x hx hy => h3 x hy hx
/-- Of three, one behind the other comes to what is between the ends. -/
theorem then_betw {a b c : List S41} (ha : sortedR a = none) (hb : sortedR b = none) (hc : sortedR c = none) : thenR (partR b a false) (partR a b false) (partR c b false) (partR b c false) = ((partR c a false, partR a c false), none) := by
  have h1 : unionR (partR (partR b a false) (partR b c false) false) (partR (partR c b false) (partR a b false) false) = partR c a false := strict_ext (strict_unionR _ _) (strict_partR (sortedR_iff.1 hc).2.2) fun x => by
    rw [mem_unionR]
    simp only [mem_less]
    by_cases h1 : x ∈ a <;> by_cases h2 : x ∈ b <;> by_cases h3 : x ∈ c <;> simp [h1, h2, h3]
  have h2 : unionR (partR (partR a b false) (partR c b false) false) (partR (partR b c false) (partR b a false) false) = partR a c false := strict_ext (strict_unionR _ _) (strict_partR (sortedR_iff.1 ha).2.2) fun x => by
    rw [mem_unionR]
    simp only [mem_less]
    by_cases h1 : x ∈ a <;> by_cases h2 : x ∈ b <;> by_cases h3 : x ∈ c <;> simp [h1, h2, h3]
  unfold thenR
  rw [betw_lay ha hb, betw_lay hb hc]
  simp only
  rw [part_both.2 (fun x hx hy => (mem_less.1 hy).2 (mem_less.1 hx).1), part_both.2 (fun x hx hy => (mem_less.1 hx).2 (mem_less.1 hy).1), h1, h2]
  have l1 := sortedR_len (sorted_partR (b := a) (is := false) hc)
  have l2 := sortedR_len (sorted_partR (b := c) (is := false) ha)
  rw [if_neg (fun h => by rcases h with h | h <;> exact absurd h (no_more rfl)), if_neg (fun h => by rcases h with h | h <;> omega)]
end Go.Proofs.Ytdjamphmndbmjaa.M

/- A region that draws its order, by what holds all the way: each operation that may come up next keeps it. -/
namespace Go.Proofs.Ytdjamphmndbmjaa.M
open Go.RowKit Go.Proofs.YtdjamphmndbmjaaW.PrintWords Go.Proofs.YtdjamphmndbmjaaW.PrintLast Go.Proofs.YtdjamphmndbmjaaW.PrintMore
set_option linter.unusedVariables false
set_option linter.unusedSimpArgs false

theorem cell?_alloc_old' {W : World} {a : Addr} {v : Value} (h : W.cell? a = some v) (o : Obj) : (W.alloc o).cell? a = some v := Lib.cell?_alloc_some o h
/-- How many have not come up. -/
def left (l : Array Bool) : Nat := (l.toList.filter fun b => !b).length
theorem left_set {l : Array Bool} {i : Nat} (h : l.getD i true = false) : left (l.setIfInBounds i true) + 1 = left l := by
  obtain ⟨l⟩ := l
  unfold left
  simp only [List.setIfInBounds_toArray]
  induction l generalizing i with
  | nil => simp at h
  | cons b l ih =>
    cases i with
    | zero =>
      simp at h
      subst h
      simp
    | succ i =>
      have h' : (⟨l⟩ : Array Bool).getD i true = false := by simpa using h
      have := ih h'
      cases b <;> simp at this ⊢ <;> omega
theorem ready_nil_of_left {md : Region.Mode} {ops : Array Oper} {l : Array Bool} (h : left l = 0) : Region.ready md ops l = [] := by
  rcases hr : Region.ready md ops l with _ | ⟨i, rs⟩
  · rfl
  · have hi : i ∈ Region.ready md ops l := by rw [hr]; exact List.mem_cons_self
    have := left_set (mem_ready.1 hi).1
    omega
theorem all_up {ops : Array Oper} {l : Array Bool} (hup : (List.range ops.size).all (fun i => (ops[i]?.map fun o => o.after.all fun e => !Region.binds .any e || decide (e.on < i)).getD true) = true) (hs : l.size = ops.size) (hr : Region.ready .any ops l = []) : ∀ i, i < ops.size → l.getD i false = true := by
  intro i
  induction i using Nat.strongRecOn with
  | _ i ih =>
    intro hi
    have hil : i < l.size := by omega
    cases hl : l[i] with
    | true => simp [Array.getD_eq_getD_getElem?, hil, hl]
    | false =>
      exfalso
      have hu := List.all_eq_true.1 hup i (List.mem_range.2 hi)
      rw [Array.getElem?_eq_getElem hi] at hu
      simp only [Option.map_some, Option.getD_some] at hu
      have : i ∈ Region.ready .any ops l := mem_ready.2 ⟨by simp [Array.getD_eq_getD_getElem?, hil, hl], _, Array.getElem?_eq_getElem hi, fun e he hbe => by
        have h1 := Array.all_eq_true_iff_forall_mem.1 hu e he
        rw [hbe, Bool.not_true, Bool.false_or] at h1
        have h2 := of_decide_eq_true h1
        exact ih e.on h2 (by omega)⟩
      rw [hr] at this
      cases this
theorem region_inv {P : Program} {ops : Array Oper} {Q : Exit → Act → World → Prop} {id : Nat} {a : Act} {w : World} (hm : P.follows .mixedOrders = true) (Inv : Array Bool → Act → World → Prop)
    (h0 : Inv (Array.replicate ops.size false) a w.drew)
    (hstep : ∀ l a w i oi, Inv l a w → ops[i]? = some oi → i ∈ Region.ready .any ops l → ∀ K : Act → World → Prop, Shut (∀ a' w', Inv (l.setIfInBounds i true) a' w' → K a' w') → if Region.wanted oi (yielded ops a.tmps) = true then Oper.wp P oi a w K Q else K (a.put oi.dst undef) w)
    (hup : (List.range ops.size).all (fun i => (ops[i]?.map fun o => o.after.all fun e => !Region.binds .any e || decide (e.on < i)).getD true) = true)
    (hend : ∀ l a w, Inv l a w → (∀ i, i < ops.size → l.getD i false = true) → Q .normal a w) : (Code.region id ops true).wp P Q a w := by
  have hend : ∀ l a w, l.size = ops.size → Inv l a w → Region.ready .any ops l = [] → Q .normal a w := fun l a w hs hi hr => hend l a w hi (all_up hup hs hr)
  have key : ∀ (n : Nat) (l : Array Bool) (a : Act) (w : World), l.size = ops.size → left l ≤ n → Inv l a w → wpAnyLast P .any ops Q (fun _ => True) [] n l a w := by
    intro n
    induction n with
    | zero => exact fun l a w hs hl hi => ⟨ready_nil_of_left (by omega), hend l a w hs hi (ready_nil_of_left (by omega))⟩
    | succ n ih =>
      intro l a w hs hl hi
      refine ⟨fun h => hend l a w hs hi h, fun i hir => ?_⟩
      obtain ⟨hun, oi, hoi, _⟩ := mem_ready.1 hir
      refine wpOp_step hoi fun K hK => hstep l a w i oi hi hoi hir K (fun a' w' h' => hK a' w' ⟨fun _ _ => trivial, ih _ _ _ (by rw [Array.size_setIfInBounds]; exact hs) (by have := left_set hun; omega) h'⟩)
  refine wp_region_last (S := fun _ => True) (ds := []) hm (key _ _ _ _ (by simp) ?_ h0)
  unfold left
  exact Nat.le_trans (List.length_filter_le _ _) (by simp)
theorem skip_step {P : Program} {ops : Array Oper} {o : Oper} {a : Act} {Q : Exit → Act → World → Prop} {Kc : Act → World → Prop} {W w1 : World} (hw : Region.wanted o (yielded ops a.tmps) = true) (hrun : (execOp a.eval o).run P W = .ok .skip w1) (h : Kc (a.put o.dst undef) w1) : if Region.wanted o (yielded ops a.tmps) = true then Oper.wp P o a W Kc Q else Kc (a.put o.dst undef) W := by
  rw [if_pos hw]
  unfold Oper.wp
  rw [hrun]
  exact h
end Go.Proofs.Ytdjamphmndbmjaa.M

/- Boxes: blocks whose cells are known; triple.Sorted by outcome. -/
namespace Go.Proofs.Ytdjamphmndbmjaa.M
open Go.RowKit Go.Proofs.YtdjamphmndbmjaaW.PrintWords Go.Proofs.YtdjamphmndbmjaaW.PrintLast Go.Proofs.YtdjamphmndbmjaaW.PrintMore
set_option linter.unusedVariables false
set_option linter.unusedSimpArgs false

theorem sorted_ok {l0 : List S41} (h : sortedR l0 = none) (A0 : Option Addr) (c0 : Nat) (w : World) (hr0 : Kd.C k41 w A0 l0.length l0) (hc0 : l0.length ≤ c0) :
    Calls Try.prog 19 #[.slice A0 l0.length c0] w fun e w' => e = .returned .nilIface ∧ Below w.heap.size w w' := by
  have hc := sorted_calls A0 c0 l0 w hr0 hc0
  rw [h] at hc
  exact hc
theorem sorted_err {l0 : List S41} {n : Int} (h : sortedR l0 = some n) (A0 : Option Addr) (c0 : Nat) (w : World) (hr0 : Kd.C k41 w A0 l0.length l0) (hc0 : l0.length ≤ c0) :
    Calls Try.prog 19 #[.slice A0 l0.length c0] w fun e w' => e = .returned (.iface 23 (.int .i64 n)) ∧ Below w.heap.size w w' := by
  have hc := sorted_calls A0 c0 l0 w hr0 hc0
  rw [h] at hc
  exact hc
/-- A box's cells. -/
def Box (w : World) (b : Nat) (cs : Array Value) : Prop := ∀ (c : Nat) (v : Value), cs[c]? = some v → w.cell? ⟨b, c, none⟩ = some v
theorem Box.new (w : World) (cs : Array Value) (T : Nat) : Box (w.alloc (.cells cs T)) w.heap.size cs := fun c v h => (blk_cell (blk_new w _) c).trans h
theorem Box.keep {W0 W W' : World} {b : Nat} {cs : Array Value} (h : Below W0.heap.size W0 W) (hb : Below W.heap.size W W') (H : Box W0 b cs) : Box W' b cs := fun c v hc => cell_keep h hb (H c v hc)
end Go.Proofs.Ytdjamphmndbmjaa.M

/- Package layer: Check, Of, Between (printed by wip/gen_lay.py). -/
namespace Go.Proofs.Ytdjamphmndbmjaa.M
open Go.RowKit Go.Proofs.YtdjamphmndbmjaaW.PrintWords Go.Proofs.YtdjamphmndbmjaaW.PrintLast Go.Proofs.YtdjamphmndbmjaaW.PrintMore
set_option linter.unusedVariables false
set_option linter.unusedSimpArgs false

theorem cells2b (w : World) (o : Obj) (A0 A1 : Option Addr) (c0 c1 n0 n1 : Nat) (T : Nat) : ((w.alloc o).alloc (.cells #[.slice A0 n0 c0, .slice A1 n1 c1] T)).cell? ⟨w.heap.size + 1, 0, none⟩ = some (.slice A0 n0 c0) ∧ ((w.alloc o).alloc (.cells #[.slice A0 n0 c0, .slice A1 n1 c1] T)).cell? ⟨w.heap.size + 1, 1, none⟩ = some (.slice A1 n1 c1) := by rw [← alloc_size1 w o]; exact cells2 _ _ _ _ _ _ _ _
theorem part_R (A0 : Option Addr) (c0 : Nat) (l0 : List S41) (A1 : Option Addr) (c1 : Nat) (l1 : List S41) (is : Bool) (w : World) (hr0 : Kd.C k41 w A0 l0.length l0) (hc0 : l0.length ≤ c0) (hr1 : Kd.C k41 w A1 l1.length l1) (hc1 : l1.length ≤ c1) (hl : l0.length < 1172812402961) (hs : sortedR l1 = none) :
    Calls Try.prog 49 #[.slice A0 l0.length c0, .slice A1 l1.length c1, .bool is] w fun e w' => ∃ v, e = .returned v ∧ Kd.R k41 41 w' w.heap.size (fun _ => True) v (partR l0 l1 is) ∧ Below w.heap.size w w' :=
  set_Part.calls A0 c0 l0 A1 c1 l1 is (partR l0 l1 is) w hr0 hc0 hr1 hc1 (by unfold set_Part.f partR; rw [if_pos ⟨hl, hs⟩])
set_option maxHeartbeats 4000000 in
set_option maxRecDepth 100000 in
theorem lcheck_calls (A0 : Option Addr) (c0 : Nat) (l0 : List S41) (A1 : Option Addr) (c1 : Nat) (l1 : List S41) (w : World) (hr0 : Kd.C k41 w A0 l0.length l0) (hc0 : l0.length ≤ c0) (hr1 : Kd.C k41 w A1 l1.length l1) (hc1 : l1.length ≤ c1) :
    Calls Try.prog 33 #[.agg #[.slice A0 l0.length c0, .slice A1 l1.length c1]] w fun e w' => e = .returned (errW (layErr l0 l1)) ∧ Below w.heap.size w w' := by
  have HR0 := Aside0.mk hr0; have HR1 := Aside0.mk hr1; have HB := Aside0.mk (Below.refl w.heap.size w)
  have Bl : Aside0 (Box (w.alloc (.cells #[.slice A0 l0.length c0, .slice A1 l1.length c1] 69)) w.heap.size #[.slice A0 l0.length c0, .slice A1 l1.length c1]) := ⟨Box.new _ _ _⟩
  have hright := fun W g0 h0 h1 hC0 hC1 => right2_calls g0 A0 A1 c0 c1 l0 l1 W h0 h1 hC0 hC1 hc0 hc1
  obtain ⟨r, hr⟩ : ∃ r, right2 l0 l1 = r := ⟨_, rfl⟩
  rw [hr] at hright
  cases r with
  | some n =>
    rw [show layErr l0 l1 = some n by unfold layErr; rw [hr], errW_some]
    have HRT := Aside0.mk hright
    clear hr0 hr1 hright hr
    go_enter Try.func33, Try.ntmps33
    go_wp2_with (go_at_call 47; refine (HRT.out _ _ (cells2b w _ A0 A1 c0 c1 _ _ _).1 (cells2b w _ A0 A1 c0 c1 _ _ _).2 (Kd.C_alloc (Kd.C_alloc HR0.out _) _) (Kd.C_alloc (Kd.C_alloc HR1.out _) _)).mono ?_; rintro e w' ⟨he, hb⟩; rw [errW_some] at he; subst he; have n0 := Aside0.mk (Kd.C_below (Kd.C_below HR0.out (by repeat (first | exact Below.refl _ _ | refine below_alloc ?_ _ | refine pw_below_drewN ?_ _ | refine below_drew1 ?_ | refine below_set ?_ (Nat.le_refl _)))) hb); have n1 := Aside0.mk (Kd.C_below (Kd.C_below HR1.out (by repeat (first | exact Below.refl _ _ | refine below_alloc ?_ _ | refine pw_below_drewN ?_ _ | refine below_drew1 ?_ | refine below_set ?_ (Nat.le_refl _)))) hb); have bl := Aside0.mk (Box.keep (by repeat (first | exact Below.refl _ _ | refine below_alloc ?_ _ | refine pw_below_drewN ?_ _ | refine below_drew1 ?_ | refine below_set ?_ (Nat.le_refl _))) hb Bl.out); have nb := Aside0.mk (below_step (below_step HB.out (by repeat (first | exact Below.refl _ _ | refine below_alloc ?_ _ | refine pw_below_drewN ?_ _ | refine below_drew1 ?_ | refine below_set ?_ (Nat.le_refl _)))) hb); clear HB HR0 HR1 Bl; have HB := nb; have HR0 := n0; have HR1 := n1; have Bl := bl; clear nb n0 n1 bl; clear hb)
    go_ret
    exact ⟨rfl, HB.out⟩
  | none =>
    obtain ⟨hs0, hs1⟩ := right2_none.1 hr
    have hp := fun W hC0 hC1 => part_calls A0 c0 l0 A1 c1 l1 true W hC0 hc0 hC1 hc1 (by have := sortedR_len hs0; omega) hs1
    rw [show layErr l0 l1 = if (partR l0 l1 true).length > 0 then some 7 else none by unfold layErr; rw [hr]]
    generalize partR l0 l1 true = u at hp ⊢
    have HRT := Aside0.mk hright
    by_cases hu : u.length > 0
    · have huz : (u.length : Int) > 0 := by omega
      have huz2 : 0 < u.length := hu
      rw [if_pos hu]
      have HP := Aside0.mk hp
      clear hr0 hr1 hright hr hs0 hs1 hp hu
      go_enter Try.func33, Try.ntmps33
      go_wp2_with (first | (go_at_call 47; refine (HRT.out _ _ (cells2b w _ A0 A1 c0 c1 _ _ _).1 (cells2b w _ A0 A1 c0 c1 _ _ _).2 (Kd.C_alloc (Kd.C_alloc HR0.out _) _) (Kd.C_alloc (Kd.C_alloc HR1.out _) _)).mono ?_; rintro e w' ⟨he, hb⟩; rw [errW_none] at he; subst he; have n0 := Aside0.mk (Kd.C_below (Kd.C_below HR0.out (by repeat (first | exact Below.refl _ _ | refine below_alloc ?_ _ | refine pw_below_drewN ?_ _ | refine below_drew1 ?_ | refine below_set ?_ (Nat.le_refl _)))) hb); have n1 := Aside0.mk (Kd.C_below (Kd.C_below HR1.out (by repeat (first | exact Below.refl _ _ | refine below_alloc ?_ _ | refine pw_below_drewN ?_ _ | refine below_drew1 ?_ | refine below_set ?_ (Nat.le_refl _)))) hb); have bl := Aside0.mk (Box.keep (by repeat (first | exact Below.refl _ _ | refine below_alloc ?_ _ | refine pw_below_drewN ?_ _ | refine below_drew1 ?_ | refine below_set ?_ (Nat.le_refl _))) hb Bl.out); have nb := Aside0.mk (below_step (below_step HB.out (by repeat (first | exact Below.refl _ _ | refine below_alloc ?_ _ | refine pw_below_drewN ?_ _ | refine below_drew1 ?_ | refine below_set ?_ (Nat.le_refl _)))) hb); clear HB HR0 HR1 Bl; have HB := nb; have HR0 := n0; have HR1 := n1; have Bl := bl; clear nb n0 n1 bl; have k0 := Bl.out 0 (.slice A0 l0.length c0) rfl; have k1 := Bl.out 1 (.slice A1 l1.length c1) rfl; clear hb) | (go_at_call 49; refine (HP.out _ HR0.out HR1.out).mono ?_; rintro e w' ⟨v, rfl, hv, hb⟩; obtain ⟨Au, cu, rfl, hCu, hcu⟩ := hv; have HB2 := Aside0.mk (below_step HB.out hb); clear hb hCu hcu))
      go_ret
      exact ⟨rfl, HB2.out⟩
    · obtain rfl : u = [] := List.eq_nil_of_length_eq_zero (by omega)
      rw [if_neg hu]
      have HP := Aside0.mk hp
      clear hr0 hr1 hright hr hs0 hs1 hp hu
      go_enter Try.func33, Try.ntmps33
      go_wp2_with (first | (go_at_call 47; refine (HRT.out _ _ (cells2b w _ A0 A1 c0 c1 _ _ _).1 (cells2b w _ A0 A1 c0 c1 _ _ _).2 (Kd.C_alloc (Kd.C_alloc HR0.out _) _) (Kd.C_alloc (Kd.C_alloc HR1.out _) _)).mono ?_; rintro e w' ⟨he, hb⟩; rw [errW_none] at he; subst he; have n0 := Aside0.mk (Kd.C_below (Kd.C_below HR0.out (by repeat (first | exact Below.refl _ _ | refine below_alloc ?_ _ | refine pw_below_drewN ?_ _ | refine below_drew1 ?_ | refine below_set ?_ (Nat.le_refl _)))) hb); have n1 := Aside0.mk (Kd.C_below (Kd.C_below HR1.out (by repeat (first | exact Below.refl _ _ | refine below_alloc ?_ _ | refine pw_below_drewN ?_ _ | refine below_drew1 ?_ | refine below_set ?_ (Nat.le_refl _)))) hb); have bl := Aside0.mk (Box.keep (by repeat (first | exact Below.refl _ _ | refine below_alloc ?_ _ | refine pw_below_drewN ?_ _ | refine below_drew1 ?_ | refine below_set ?_ (Nat.le_refl _))) hb Bl.out); have nb := Aside0.mk (below_step (below_step HB.out (by repeat (first | exact Below.refl _ _ | refine below_alloc ?_ _ | refine pw_below_drewN ?_ _ | refine below_drew1 ?_ | refine below_set ?_ (Nat.le_refl _)))) hb); clear HB HR0 HR1 Bl; have HB := nb; have HR0 := n0; have HR1 := n1; have Bl := bl; clear nb n0 n1 bl; have k0 := Bl.out 0 (.slice A0 l0.length c0) rfl; have k1 := Bl.out 1 (.slice A1 l1.length c1) rfl; clear hb) | (go_at_call 49; refine (HP.out _ HR0.out HR1.out).mono ?_; rintro e w' ⟨v, rfl, hv, hb⟩; obtain ⟨Au, cu, rfl, hCu, hcu⟩ := hv; have HB2 := Aside0.mk (below_step HB.out hb); clear hb hCu hcu))
      go_ret
      exact ⟨rfl, HB2.out⟩
/-- A layer's two rows, both of the call's own, as a value. -/
def LRow (w : World) (base : Nat) (v : Value) (a t : List S41) : Prop := ∃ v1 v2, v = .agg #[v1, v2] ∧ Kd.R k41 41 w base (fun _ => True) v1 a ∧ Kd.R k41 41 w base (fun _ => True) v2 t
theorem LRow.lower {w : World} {b b' : Nat} {v : Value} {a t : List S41} (h : LRow w b v a t) (hb : b' ≤ b) : LRow w b' v a t := by
  obtain ⟨v1, v2, e, h1, h2⟩ := h
  exact ⟨v1, v2, e, Kd.R_lower h1 hb, Kd.R_lower h2 hb⟩
set_option maxHeartbeats 4000000 in
set_option maxRecDepth 100000 in
theorem lof_calls (A0 : Option Addr) (c0 : Nat) (l0 : List S41) (A1 : Option Addr) (c1 : Nat) (l1 : List S41) (w : World) (hr0 : Kd.C k41 w A0 l0.length l0) (hc0 : l0.length ≤ c0) (hr1 : Kd.C k41 w A1 l1.length l1) (hc1 : l1.length ≤ c1) (hs0 : sortedR l0 = none) (hs1 : sortedR l1 = none) :
    Calls Try.prog 61 #[.slice A0 l0.length c0, .slice A1 l1.length c1] w fun e w' => ∃ v, e = .returned v ∧ LRow w' w.heap.size v (partR l1 l0 false) (partR l0 l1 false) ∧ Below w.heap.size w w' := by
  have HR0 := Aside0.mk hr0; have HR1 := Aside0.mk hr1; have HB := Aside0.mk (Below.refl w.heap.size w)
  have hp := fun W hC0 hC1 => part_R A1 c1 l1 A0 c0 l0 false W hC1 hc1 hC0 hc0 (by have := sortedR_len hs1; omega) hs0
  have hq := fun W hC0 hC1 => part_R A0 c0 l0 A1 c1 l1 false W hC0 hc0 hC1 hc1 (by have := sortedR_len hs0; omega) hs1
  generalize partR l1 l0 false = u at hp ⊢
  generalize partR l0 l1 false = v at hq ⊢
  have HP := Aside0.mk hp; have HQ := Aside0.mk hq
  clear hp hq hr0 hr1 hs0 hs1
  have HK : Aside0 ((w.alloc (.cells #[.slice none 0 0, .slice none 0 0] 69 (0, 0))).heap[w.heap.size]? = some (.cells #[.slice none 0 0, .slice none 0 0] 69 (0, 0))) := ⟨blk_new w _⟩
  go_enter Try.func61, Try.ntmps61
  go_wp2_with (first | (go_at_call 49; refine stop_ ?_))
  refine ⟨?_⟩
  refine Calls.mono (HP.out _ (Kd.C_alloc HR0.out _) (Kd.C_alloc HR1.out _)) ?_
  rintro e w1 ⟨v1, rfl, hv1, hb⟩
  have HK1 := Aside0.mk (blk_below HK.out hb); have HB1 := Aside0.mk (below_step (below_alloc HB.out (.cells #[.slice none 0 0, .slice none 0 0] 69 (0, 0))) hb); have HU := Aside0.mk (Kd.R_lower hv1 (show w.heap.size ≤ (w.alloc _).heap.size by rw [alloc_size1]; omega)); clear hv1 hb
  go_wp2_with (first | (go_at_call 49; refine stop_ ?_))
  refine ⟨?_⟩
  refine Calls.mono (HQ.out _ (Kd.C_below HR0.out HB1.out) (Kd.C_below HR1.out HB1.out)) ?_
  rintro e w2 ⟨v2, rfl, hv2, hb⟩
  have hK2 := blk_below HK1.out hb; have HB2 := Aside0.mk (below_step HB1.out hb); have HU2 := Aside0.mk (Kd.R_below HU.out hb); have HV2 := Aside0.mk (Kd.R_lower hv2 HB1.out.size)
  obtain ⟨Au, cu, eu⟩ := Kd.R_slice HU2.out
  subst eu
  obtain ⟨Av, cv, ev⟩ := Kd.R_slice HV2.out
  subst ev
  have k0 : w2.cell? ⟨w.heap.size, 0, none⟩ = some (.slice none 0 0) := (blk_cell hK2 0).trans rfl; have k1 : w2.cell? ⟨w.heap.size, 1, none⟩ = some (.slice none 0 0) := (blk_cell hK2 1).trans rfl
  have f0 := blk_frozen hK2 0; have f1 := blk_frozen hK2 1
  have HK2 := Aside0.mk hK2
  clear hK2 hv2 hb
  go_wp2
  refine bodyPost_ret (results_cell_row rfl _ _ w.heap.size 69 #[.slice Au u.length cu, .slice Av v.length cv] (0, 0) _ rfl (blk_put (cs := #[.slice Au u.length cu, .slice none 0 0]) (blk_put (cs := #[.slice none 0 0, .slice none 0 0]) HK2.out 0 _ rfl) 1 _ rfl) Try.underlying69 rfl (by kernel_rfl)) rfl ?_
  exact ⟨_, rfl, ⟨_, _, rfl, Kd.R_set (Kd.R_set HU2.out HK2.out (by decide) 0 _) (blk_put HK2.out 0 _ rfl) (by decide) 1 _, Kd.R_set (Kd.R_set HV2.out HK2.out (by decide) 0 _) (blk_put HK2.out 0 _ rfl) (by decide) 1 _⟩, below_set (below_set HB2.out (Nat.le_refl _)) (Nat.le_refl _)⟩
set_option maxHeartbeats 4000000 in
set_option maxRecDepth 100000 in
theorem betw_calls (A0 : Option Addr) (c0 : Nat) (l0 : List S41) (A1 : Option Addr) (c1 : Nat) (l1 : List S41) (w : World) (hr0 : Kd.C k41 w A0 l0.length l0) (hc0 : l0.length ≤ c0) (hr1 : Kd.C k41 w A1 l1.length l1) (hc1 : l1.length ≤ c1) :
    Calls Try.prog 30 #[.slice A0 l0.length c0, .slice A1 l1.length c1] w fun e w' => ∃ v, e = .returned (.tuple #[v, errW (betwR l0 l1).2]) ∧ LRow w' w.heap.size v (betwR l0 l1).1.1 (betwR l0 l1).1.2 ∧ Below w.heap.size w w' := by
  have HR0 := Aside0.mk hr0; have HR1 := Aside0.mk hr1; have HB := Aside0.mk (Below.refl w.heap.size w)
  have hright := fun W g0 h0 h1 hC0 hC1 => right2_calls g0 A0 A1 c0 c1 l0 l1 W h0 h1 hC0 hC1 hc0 hc1
  have HK : Aside0 ((w.alloc (.cells #[.slice none 0 0, .slice none 0 0] 69 (0, 0))).heap[w.heap.size]? = some (.cells #[.slice none 0 0, .slice none 0 0] 69 (0, 0))) := ⟨blk_new w _⟩
  obtain ⟨r, hr⟩ : ∃ r, right2 l0 l1 = r := ⟨_, rfl⟩
  rw [hr] at hright
  have HRT := Aside0.mk hright
  cases r with
  | some n =>
    rw [show betwR l0 l1 = (([], []), some n) by unfold betwR; rw [hr]]
    clear hr0 hr1 hright hr
    go_enter Try.func30, Try.ntmps30
    go_wp2_with (go_at_call 47; refine (HRT.out _ _ (cells2b w _ A0 A1 c0 c1 _ _ _).1 (cells2b w _ A0 A1 c0 c1 _ _ _).2 (Kd.C_alloc (Kd.C_alloc HR0.out _) _) (Kd.C_alloc (Kd.C_alloc HR1.out _) _)).mono ?_; rintro e w1 ⟨he, hb⟩; rw [errW_some] at he; subst he; have HB1 := Aside0.mk (below_step (below_alloc (below_alloc HB.out _) _) hb); have hK1 := blk_below (blk_alloc HK.out _) hb; have k0 : w1.cell? ⟨w.heap.size, 0, none⟩ = some (.slice none 0 0) := (blk_cell hK1 0).trans rfl; have k1 : w1.cell? ⟨w.heap.size, 1, none⟩ = some (.slice none 0 0) := (blk_cell hK1 1).trans rfl; have f0 := blk_frozen hK1 0; have f1 := blk_frozen hK1 1; have HK1 := Aside0.mk hK1; clear hK1; clear hb)
    refine bodyPost_ret (results_ct rfl _ _ w.heap.size 69 #[.slice none 0 0, .slice none 0 0] (0, 0) _ rfl (blk_put (cs := #[.slice none 0 0, .slice none 0 0]) (blk_put (cs := #[.slice none 0 0, .slice none 0 0]) HK1.out 0 _ rfl) 1 _ rfl) Try.underlying69 rfl (by kernel_rfl)) rfl ?_
    exact ⟨_, rfl, ⟨_, _, rfl, Kd.R_nil _ _ _ _ _, Kd.R_nil _ _ _ _ _⟩, below_set (below_set HB1.out (Nat.le_refl _)) (Nat.le_refl _)⟩
  | none =>
    obtain ⟨hs0, hs1⟩ := right2_none.1 hr
    rw [betw_ok hs0 hs1]
    have ho := fun W hC0 hC1 => lof_calls A0 c0 l0 A1 c1 l1 W hC0 hc0 hC1 hc1 hs0 hs1
    generalize partR l1 l0 false = u at ho ⊢
    generalize partR l0 l1 false = v at ho ⊢
    have HO := Aside0.mk ho
    clear hr0 hr1 hright hr hs0 hs1 ho
    go_enter Try.func30, Try.ntmps30
    go_wp2_with (first | (go_at_call 47; refine (HRT.out _ _ (cells2b w _ A0 A1 c0 c1 _ _ _).1 (cells2b w _ A0 A1 c0 c1 _ _ _).2 (Kd.C_alloc (Kd.C_alloc HR0.out _) _) (Kd.C_alloc (Kd.C_alloc HR1.out _) _)).mono ?_; rintro e w1 ⟨he, hb⟩; rw [errW_none] at he; subst he; have HB1 := Aside0.mk (below_step (below_alloc (below_alloc HB.out _) _) hb); have hK1 := blk_below (blk_alloc HK.out _) hb; have HK1 := Aside0.mk hK1; clear hK1; clear hb) | (go_at_call 61; refine stop_ ?_))
    refine ⟨?_⟩
    refine Calls.mono (HO.out _ (Kd.C_below HR0.out HB1.out) (Kd.C_below HR1.out HB1.out)) ?_
    rintro e w2 ⟨vv, rfl, ⟨v1, v2, rfl, hu, hv⟩, hb⟩
    have HB2 := Aside0.mk (below_step HB1.out hb); have hK2 := blk_below HK1.out hb; have HU2 := Aside0.mk (Kd.R_lower hu HB1.out.size); have HV2 := Aside0.mk (Kd.R_lower hv HB1.out.size)
    obtain ⟨Au, cu, eu⟩ := Kd.R_slice HU2.out
    subst eu
    obtain ⟨Av, cv, ev⟩ := Kd.R_slice HV2.out
    subst ev
    have k0 : w2.cell? ⟨w.heap.size, 0, none⟩ = some (.slice none 0 0) := (blk_cell hK2 0).trans rfl; have k1 : w2.cell? ⟨w.heap.size, 1, none⟩ = some (.slice none 0 0) := (blk_cell hK2 1).trans rfl; have f0 := blk_frozen hK2 0; have f1 := blk_frozen hK2 1; have HK2 := Aside0.mk hK2
    clear hK2 hu hv hb
    go_wp2
    refine bodyPost_ret (results_ct rfl _ _ w.heap.size 69 #[.slice Au u.length cu, .slice Av v.length cv] (0, 0) _ rfl (blk_put (cs := #[.slice Au u.length cu, .slice none 0 0]) (blk_put (cs := #[.slice none 0 0, .slice none 0 0]) HK2.out 0 _ rfl) 1 _ rfl) Try.underlying69 rfl (by kernel_rfl)) rfl ?_
    exact ⟨_, rfl, ⟨_, _, rfl, Kd.R_set (Kd.R_set HU2.out HK2.out (by decide) 0 _) (blk_put HK2.out 0 _ rfl) (by decide) 1 _, Kd.R_set (Kd.R_set HV2.out HK2.out (by decide) 0 _) (blk_put HK2.out 0 _ rfl) (by decide) 1 _⟩, below_set (below_set HB2.out (Nat.le_refl _)) (Nat.le_refl _)⟩
end Go.Proofs.Ytdjamphmndbmjaa.M

/- Package layer: Apply (printed by wip/gen_lay2.py). -/
namespace Go.Proofs.Ytdjamphmndbmjaa.M
open Go.RowKit Go.Proofs.YtdjamphmndbmjaaW.PrintWords Go.Proofs.YtdjamphmndbmjaaW.PrintLast Go.Proofs.YtdjamphmndbmjaaW.PrintMore
set_option linter.unusedVariables false
set_option linter.unusedSimpArgs false

theorem union_R (A0 : Option Addr) (c0 : Nat) (l0 : List S41) (A1 : Option Addr) (c1 : Nat) (l1 : List S41) (w : World) (hr0 : Kd.C k41 w A0 l0.length l0) (hc0 : l0.length ≤ c0) (hr1 : Kd.C k41 w A1 l1.length l1) (hc1 : l1.length ≤ c1) (hl : (l0.length + l1.length) * 120 ≤ 140737488355328) :
    Calls Try.prog 60 #[.slice A0 l0.length c0, .slice A1 l1.length c1] w fun e w' => ∃ v, e = .returned v ∧ Kd.R k41 41 w' w.heap.size (fun _ => True) v (unionR l0 l1) ∧ Below w.heap.size w w' :=
  set_Union.calls A0 c0 l0 A1 c1 l1 (unionR l0 l1) w hr0 hc0 hr1 hc1 (by unfold set_Union.f; rw [if_pos hl])
theorem R_row {w : World} {base : Nat} {v : Value} {l : List S41} (h : Kd.R k41 41 w base (fun _ => True) v l) : ∃ A c, v = .slice A l.length c ∧ Kd.C k41 w A l.length l ∧ l.length ≤ c := Row.of_R h
set_option maxHeartbeats 4000000 in
set_option maxRecDepth 100000 in
theorem apply_calls (A0 : Option Addr) (c0 : Nat) (l0 : List S41) (A1 : Option Addr) (c1 : Nat) (l1 : List S41) (A2 : Option Addr) (c2 : Nat) (l2 : List S41) (w : World) (hr0 : Kd.C k41 w A0 l0.length l0) (hc0 : l0.length ≤ c0) (hr1 : Kd.C k41 w A1 l1.length l1) (hc1 : l1.length ≤ c1) (hr2 : Kd.C k41 w A2 l2.length l2) (hc2 : l2.length ≤ c2) :
    Calls Try.prog 31 #[.slice A0 l0.length c0, .agg #[.slice A1 l1.length c1, .slice A2 l2.length c2]] w fun e w' => ∃ v, e = .returned (.tuple #[v, errW (applyR l0 l1 l2).2]) ∧ Kd.R k41 41 w' w.heap.size (fun _ => True) v (applyR l0 l1 l2).1 ∧ Below w.heap.size w w' := by
  have HR0 := Aside0.mk hr0; have HR1 := Aside0.mk hr1; have HR2 := Aside0.mk hr2; have HB := Aside0.mk (Below.refl w.heap.size w)
  have Bl : Aside0 (Box (w.alloc (.cells #[.slice A1 l1.length c1, .slice A2 l2.length c2] 69)) w.heap.size #[.slice A1 l1.length c1, .slice A2 l2.length c2]) := ⟨Box.new _ _ _⟩
  have hright := fun W g0 h0 hC0 => right1_calls g0 A0 c0 l0 W h0 hC0 hc0
  have hchk := fun W hC1 hC2 => lcheck_calls A1 c1 l1 A2 c2 l2 W hC1 hc1 hC2 hc2
  cases hr : sortedR l0 with
  | some n =>
    rw [show applyR l0 l1 l2 = ([], some n) by unfold applyR; rw [hr]]
    rw [hr] at hright
    have HRT := Aside0.mk hright
    clear hr0 hr1 hr2 hright hchk hr
    go_enter Try.func31, Try.ntmps31
    go_wp2_with (first | (go_at_call 47; refine stop_ ?_) | (go_at_call 33; refine stop_ ?_) | (go_at_call 49; refine stop_ ?_))
    refine ⟨?_⟩
    refine Calls.mono (HRT.out _ _ (cells1b w _ A0 c0 _ _) (Kd.C_alloc (Kd.C_alloc HR0.out _) _)) ?_
    rintro e w' ⟨he, hb⟩
    have n0 := Aside0.mk (Kd.C_below (Kd.C_below HR0.out (by repeat (first | exact Below.refl _ _ | refine below_alloc ?_ _ | refine pw_below_drewN ?_ _ | refine below_drew1 ?_ | refine below_set ?_ (Nat.le_refl _)))) hb); have n1 := Aside0.mk (Kd.C_below (Kd.C_below HR1.out (by repeat (first | exact Below.refl _ _ | refine below_alloc ?_ _ | refine pw_below_drewN ?_ _ | refine below_drew1 ?_ | refine below_set ?_ (Nat.le_refl _)))) hb); have n2 := Aside0.mk (Kd.C_below (Kd.C_below HR2.out (by repeat (first | exact Below.refl _ _ | refine below_alloc ?_ _ | refine pw_below_drewN ?_ _ | refine below_drew1 ?_ | refine below_set ?_ (Nat.le_refl _)))) hb); have bl := Aside0.mk (Box.keep (by repeat (first | exact Below.refl _ _ | refine below_alloc ?_ _ | refine pw_below_drewN ?_ _ | refine below_drew1 ?_ | refine below_set ?_ (Nat.le_refl _))) hb Bl.out); have nb := Aside0.mk (below_step (below_step HB.out (by repeat (first | exact Below.refl _ _ | refine below_alloc ?_ _ | refine pw_below_drewN ?_ _ | refine below_drew1 ?_ | refine below_set ?_ (Nat.le_refl _)))) hb); clear HB HR0 HR1 HR2 Bl; have HB := nb; have HR0 := n0; have HR1 := n1; have HR2 := n2; have Bl := bl; clear nb n0 n1 n2 bl; have k0 := Bl.out 0 (.slice A1 l1.length c1) rfl; have k1 := Bl.out 1 (.slice A2 l2.length c2) rfl; clear hb
    rw [errW_some] at he; subst he
    go_wp2_with (first | (go_at_call 47; refine stop_ ?_) | (go_at_call 33; refine stop_ ?_) | (go_at_call 49; refine stop_ ?_))
    go_ret2
    exact ⟨_, rfl, Kd.R_nil _ _ _ _ _, HB.out⟩
  | none =>
    rw [hr] at hright
    have HRT := Aside0.mk hright
    cases he : layErr l1 l2 with
    | some n =>
      rw [show applyR l0 l1 l2 = ([], some n) by unfold applyR; rw [hr, he]]
      rw [he] at hchk
      have HCK := Aside0.mk hchk
      clear hr0 hr1 hr2 hright hchk hr he
      go_enter Try.func31, Try.ntmps31
      go_wp2_with (first | (go_at_call 47; refine stop_ ?_) | (go_at_call 33; refine stop_ ?_) | (go_at_call 49; refine stop_ ?_))
      refine ⟨?_⟩
      refine Calls.mono (HRT.out _ _ (cells1b w _ A0 c0 _ _) (Kd.C_alloc (Kd.C_alloc HR0.out _) _)) ?_
      rintro e w' ⟨he, hb⟩
      have n0 := Aside0.mk (Kd.C_below (Kd.C_below HR0.out (by repeat (first | exact Below.refl _ _ | refine below_alloc ?_ _ | refine pw_below_drewN ?_ _ | refine below_drew1 ?_ | refine below_set ?_ (Nat.le_refl _)))) hb); have n1 := Aside0.mk (Kd.C_below (Kd.C_below HR1.out (by repeat (first | exact Below.refl _ _ | refine below_alloc ?_ _ | refine pw_below_drewN ?_ _ | refine below_drew1 ?_ | refine below_set ?_ (Nat.le_refl _)))) hb); have n2 := Aside0.mk (Kd.C_below (Kd.C_below HR2.out (by repeat (first | exact Below.refl _ _ | refine below_alloc ?_ _ | refine pw_below_drewN ?_ _ | refine below_drew1 ?_ | refine below_set ?_ (Nat.le_refl _)))) hb); have bl := Aside0.mk (Box.keep (by repeat (first | exact Below.refl _ _ | refine below_alloc ?_ _ | refine pw_below_drewN ?_ _ | refine below_drew1 ?_ | refine below_set ?_ (Nat.le_refl _))) hb Bl.out); have nb := Aside0.mk (below_step (below_step HB.out (by repeat (first | exact Below.refl _ _ | refine below_alloc ?_ _ | refine pw_below_drewN ?_ _ | refine below_drew1 ?_ | refine below_set ?_ (Nat.le_refl _)))) hb); clear HB HR0 HR1 HR2 Bl; have HB := nb; have HR0 := n0; have HR1 := n1; have HR2 := n2; have Bl := bl; clear nb n0 n1 n2 bl; have k0 := Bl.out 0 (.slice A1 l1.length c1) rfl; have k1 := Bl.out 1 (.slice A2 l2.length c2) rfl; clear hb
      rw [errW_none] at he; subst he
      go_wp2_with (first | (go_at_call 47; refine stop_ ?_) | (go_at_call 33; refine stop_ ?_) | (go_at_call 49; refine stop_ ?_))
      clear k0 k1
      refine ⟨?_⟩
      refine Calls.mono (HCK.out _ (Kd.C_below HR1.out (by repeat (first | exact Below.refl _ _ | refine below_alloc ?_ _ | refine pw_below_drewN ?_ _ | refine below_drew1 ?_ | refine below_set ?_ (Nat.le_refl _)))) (Kd.C_below HR2.out (by repeat (first | exact Below.refl _ _ | refine below_alloc ?_ _ | refine pw_below_drewN ?_ _ | refine below_drew1 ?_ | refine below_set ?_ (Nat.le_refl _))))) ?_
      rintro e w' ⟨he, hb⟩
      have n0 := Aside0.mk (Kd.C_below (Kd.C_below HR0.out (by repeat (first | exact Below.refl _ _ | refine below_alloc ?_ _ | refine pw_below_drewN ?_ _ | refine below_drew1 ?_ | refine below_set ?_ (Nat.le_refl _)))) hb); have n1 := Aside0.mk (Kd.C_below (Kd.C_below HR1.out (by repeat (first | exact Below.refl _ _ | refine below_alloc ?_ _ | refine pw_below_drewN ?_ _ | refine below_drew1 ?_ | refine below_set ?_ (Nat.le_refl _)))) hb); have n2 := Aside0.mk (Kd.C_below (Kd.C_below HR2.out (by repeat (first | exact Below.refl _ _ | refine below_alloc ?_ _ | refine pw_below_drewN ?_ _ | refine below_drew1 ?_ | refine below_set ?_ (Nat.le_refl _)))) hb); have bl := Aside0.mk (Box.keep (by repeat (first | exact Below.refl _ _ | refine below_alloc ?_ _ | refine pw_below_drewN ?_ _ | refine below_drew1 ?_ | refine below_set ?_ (Nat.le_refl _))) hb Bl.out); have nb := Aside0.mk (below_step (below_step HB.out (by repeat (first | exact Below.refl _ _ | refine below_alloc ?_ _ | refine pw_below_drewN ?_ _ | refine below_drew1 ?_ | refine below_set ?_ (Nat.le_refl _)))) hb); clear HB HR0 HR1 HR2 Bl; have HB := nb; have HR0 := n0; have HR1 := n1; have HR2 := n2; have Bl := bl; clear nb n0 n1 n2 bl; have k0 := Bl.out 0 (.slice A1 l1.length c1) rfl; have k1 := Bl.out 1 (.slice A2 l2.length c2) rfl; clear hb
      rw [errW_some] at he; subst he
      go_wp2_with (first | (go_at_call 47; refine stop_ ?_) | (go_at_call 33; refine stop_ ?_) | (go_at_call 49; refine stop_ ?_))
      go_ret2
      exact ⟨_, rfl, Kd.R_nil _ _ _ _ _, HB.out⟩
    | none =>
      rw [he] at hchk
      have HCK := Aside0.mk hchk
      obtain ⟨hs1, hs2, _⟩ := lay_none he
      have n0 := sortedR_len hr; have n1 := sortedR_len hs1; have n2 := sortedR_len hs2
      have hp := fun W hC1 hC0 => part_R A1 c1 l1 A0 c0 l0 true W hC1 hc1 hC0 hc0 (by omega) hr
      have hq := fun W hC2 hC0 => part_R A2 c2 l2 A0 c0 l0 false W hC2 hc2 hC0 hc0 (by omega) hr
      have hs := fun W hC0 hC2 => part_R A0 c0 l0 A2 c2 l2 false W hC0 hc0 hC2 hc2 (by omega) hs2
      have n3 : (partR l0 l2 false).length ≤ l0.length := List.length_filter_le _ _
      have hu := fun W A c hC hc hC1 => union_R A c (partR l0 l2 false) A1 c1 l1 W hC hc hC1 hc1 (by omega)
      rw [show applyR l0 l1 l2 = if (partR l1 l0 true).length > 0 then ([], some 7) else if (partR l2 l0 false).length > 0 then ([], some 5) else if (unionR (partR l0 l2 false) l1).length > 200 then ([], some 4) else (unionR (partR l0 l2 false) l1, none) by unfold applyR; rw [hr, he]]
      clear hr he hs1 hs2 n0 n1 n2 n3 hright hchk hr0 hr1 hr2
      generalize partR l1 l0 true = p at hp ⊢
      generalize partR l2 l0 false = q at hq ⊢
      generalize partR l0 l2 false = s at hs hu ⊢
      generalize unionR s l1 = u at hu ⊢
      have HP := Aside0.mk hp; have HQ := Aside0.mk hq; have HS := Aside0.mk hs; have HU := Aside0.mk hu
      clear hp hq hs hu
      by_cases hp : p.length > 0
      · rw [if_pos hp]
        have hpz : (p.length : Int) > 0 := by omega
        have hpy : 0 < p.length := hp
        clear hp
        go_enter Try.func31, Try.ntmps31
        go_wp2_with (first | (go_at_call 47; refine stop_ ?_) | (go_at_call 33; refine stop_ ?_) | (go_at_call 49; refine stop_ ?_))
        refine ⟨?_⟩
        refine Calls.mono (HRT.out _ _ (cells1b w _ A0 c0 _ _) (Kd.C_alloc (Kd.C_alloc HR0.out _) _)) ?_
        rintro e w' ⟨he, hb⟩
        have n0 := Aside0.mk (Kd.C_below (Kd.C_below HR0.out (by repeat (first | exact Below.refl _ _ | refine below_alloc ?_ _ | refine pw_below_drewN ?_ _ | refine below_drew1 ?_ | refine below_set ?_ (Nat.le_refl _)))) hb); have n1 := Aside0.mk (Kd.C_below (Kd.C_below HR1.out (by repeat (first | exact Below.refl _ _ | refine below_alloc ?_ _ | refine pw_below_drewN ?_ _ | refine below_drew1 ?_ | refine below_set ?_ (Nat.le_refl _)))) hb); have n2 := Aside0.mk (Kd.C_below (Kd.C_below HR2.out (by repeat (first | exact Below.refl _ _ | refine below_alloc ?_ _ | refine pw_below_drewN ?_ _ | refine below_drew1 ?_ | refine below_set ?_ (Nat.le_refl _)))) hb); have bl := Aside0.mk (Box.keep (by repeat (first | exact Below.refl _ _ | refine below_alloc ?_ _ | refine pw_below_drewN ?_ _ | refine below_drew1 ?_ | refine below_set ?_ (Nat.le_refl _))) hb Bl.out); have nb := Aside0.mk (below_step (below_step HB.out (by repeat (first | exact Below.refl _ _ | refine below_alloc ?_ _ | refine pw_below_drewN ?_ _ | refine below_drew1 ?_ | refine below_set ?_ (Nat.le_refl _)))) hb); clear HB HR0 HR1 HR2 Bl; have HB := nb; have HR0 := n0; have HR1 := n1; have HR2 := n2; have Bl := bl; clear nb n0 n1 n2 bl; have k0 := Bl.out 0 (.slice A1 l1.length c1) rfl; have k1 := Bl.out 1 (.slice A2 l2.length c2) rfl; clear hb
        rw [errW_none] at he; subst he
        go_wp2_with (first | (go_at_call 47; refine stop_ ?_) | (go_at_call 33; refine stop_ ?_) | (go_at_call 49; refine stop_ ?_))
        clear k0 k1
        refine ⟨?_⟩
        refine Calls.mono (HCK.out _ (Kd.C_below HR1.out (by repeat (first | exact Below.refl _ _ | refine below_alloc ?_ _ | refine pw_below_drewN ?_ _ | refine below_drew1 ?_ | refine below_set ?_ (Nat.le_refl _)))) (Kd.C_below HR2.out (by repeat (first | exact Below.refl _ _ | refine below_alloc ?_ _ | refine pw_below_drewN ?_ _ | refine below_drew1 ?_ | refine below_set ?_ (Nat.le_refl _))))) ?_
        rintro e w' ⟨he, hb⟩
        have n0 := Aside0.mk (Kd.C_below (Kd.C_below HR0.out (by repeat (first | exact Below.refl _ _ | refine below_alloc ?_ _ | refine pw_below_drewN ?_ _ | refine below_drew1 ?_ | refine below_set ?_ (Nat.le_refl _)))) hb); have n1 := Aside0.mk (Kd.C_below (Kd.C_below HR1.out (by repeat (first | exact Below.refl _ _ | refine below_alloc ?_ _ | refine pw_below_drewN ?_ _ | refine below_drew1 ?_ | refine below_set ?_ (Nat.le_refl _)))) hb); have n2 := Aside0.mk (Kd.C_below (Kd.C_below HR2.out (by repeat (first | exact Below.refl _ _ | refine below_alloc ?_ _ | refine pw_below_drewN ?_ _ | refine below_drew1 ?_ | refine below_set ?_ (Nat.le_refl _)))) hb); have bl := Aside0.mk (Box.keep (by repeat (first | exact Below.refl _ _ | refine below_alloc ?_ _ | refine pw_below_drewN ?_ _ | refine below_drew1 ?_ | refine below_set ?_ (Nat.le_refl _))) hb Bl.out); have nb := Aside0.mk (below_step (below_step HB.out (by repeat (first | exact Below.refl _ _ | refine below_alloc ?_ _ | refine pw_below_drewN ?_ _ | refine below_drew1 ?_ | refine below_set ?_ (Nat.le_refl _)))) hb); clear HB HR0 HR1 HR2 Bl; have HB := nb; have HR0 := n0; have HR1 := n1; have HR2 := n2; have Bl := bl; clear nb n0 n1 n2 bl; have k0 := Bl.out 0 (.slice A1 l1.length c1) rfl; have k1 := Bl.out 1 (.slice A2 l2.length c2) rfl; clear hb
        rw [errW_none] at he; subst he
        go_wp2_with (first | (go_at_call 47; refine stop_ ?_) | (go_at_call 33; refine stop_ ?_) | (go_at_call 49; refine stop_ ?_))
        clear k0 k1
        refine ⟨?_⟩
        refine Calls.mono (HP.out _ (Kd.C_below HR1.out (by repeat (first | exact Below.refl _ _ | refine below_alloc ?_ _ | refine pw_below_drewN ?_ _ | refine below_drew1 ?_ | refine below_set ?_ (Nat.le_refl _)))) (Kd.C_below HR0.out (by repeat (first | exact Below.refl _ _ | refine below_alloc ?_ _ | refine pw_below_drewN ?_ _ | refine below_drew1 ?_ | refine below_set ?_ (Nat.le_refl _))))) ?_
        rintro e w' ⟨v, rfl, hv, hb⟩
        have n0 := Aside0.mk (Kd.C_below (Kd.C_below HR0.out (by repeat (first | exact Below.refl _ _ | refine below_alloc ?_ _ | refine pw_below_drewN ?_ _ | refine below_drew1 ?_ | refine below_set ?_ (Nat.le_refl _)))) hb); have n1 := Aside0.mk (Kd.C_below (Kd.C_below HR1.out (by repeat (first | exact Below.refl _ _ | refine below_alloc ?_ _ | refine pw_below_drewN ?_ _ | refine below_drew1 ?_ | refine below_set ?_ (Nat.le_refl _)))) hb); have n2 := Aside0.mk (Kd.C_below (Kd.C_below HR2.out (by repeat (first | exact Below.refl _ _ | refine below_alloc ?_ _ | refine pw_below_drewN ?_ _ | refine below_drew1 ?_ | refine below_set ?_ (Nat.le_refl _)))) hb); have bl := Aside0.mk (Box.keep (by repeat (first | exact Below.refl _ _ | refine below_alloc ?_ _ | refine pw_below_drewN ?_ _ | refine below_drew1 ?_ | refine below_set ?_ (Nat.le_refl _))) hb Bl.out); have nb := Aside0.mk (below_step (below_step HB.out (by repeat (first | exact Below.refl _ _ | refine below_alloc ?_ _ | refine pw_below_drewN ?_ _ | refine below_drew1 ?_ | refine below_set ?_ (Nat.le_refl _)))) hb); clear HB HR0 HR1 HR2 Bl; have HB := nb; have HR0 := n0; have HR1 := n1; have HR2 := n2; have Bl := bl; clear nb n0 n1 n2 bl; have k0 := Bl.out 0 (.slice A1 l1.length c1) rfl; have k1 := Bl.out 1 (.slice A2 l2.length c2) rfl; clear hb
        obtain ⟨Ap, cp, ep⟩ := Kd.R_slice hv
        subst ep
        clear hv
        go_wp2_with (first | (go_at_call 47; refine stop_ ?_) | (go_at_call 33; refine stop_ ?_) | (go_at_call 49; refine stop_ ?_))
        go_ret2
        exact ⟨_, rfl, Kd.R_nil _ _ _ _ _, HB.out⟩
      · rw [if_neg hp]
        obtain rfl : p = [] := List.eq_nil_of_length_eq_zero (by omega)
        clear hp
        by_cases hq : q.length > 0
        · rw [if_pos hq]
          have hqz : (q.length : Int) > 0 := by omega
          have hqy : 0 < q.length := hq
          clear hq
          go_enter Try.func31, Try.ntmps31
          go_wp2_with (first | (go_at_call 47; refine stop_ ?_) | (go_at_call 33; refine stop_ ?_) | (go_at_call 49; refine stop_ ?_))
          refine ⟨?_⟩
          refine Calls.mono (HRT.out _ _ (cells1b w _ A0 c0 _ _) (Kd.C_alloc (Kd.C_alloc HR0.out _) _)) ?_
          rintro e w' ⟨he, hb⟩
          have n0 := Aside0.mk (Kd.C_below (Kd.C_below HR0.out (by repeat (first | exact Below.refl _ _ | refine below_alloc ?_ _ | refine pw_below_drewN ?_ _ | refine below_drew1 ?_ | refine below_set ?_ (Nat.le_refl _)))) hb); have n1 := Aside0.mk (Kd.C_below (Kd.C_below HR1.out (by repeat (first | exact Below.refl _ _ | refine below_alloc ?_ _ | refine pw_below_drewN ?_ _ | refine below_drew1 ?_ | refine below_set ?_ (Nat.le_refl _)))) hb); have n2 := Aside0.mk (Kd.C_below (Kd.C_below HR2.out (by repeat (first | exact Below.refl _ _ | refine below_alloc ?_ _ | refine pw_below_drewN ?_ _ | refine below_drew1 ?_ | refine below_set ?_ (Nat.le_refl _)))) hb); have bl := Aside0.mk (Box.keep (by repeat (first | exact Below.refl _ _ | refine below_alloc ?_ _ | refine pw_below_drewN ?_ _ | refine below_drew1 ?_ | refine below_set ?_ (Nat.le_refl _))) hb Bl.out); have nb := Aside0.mk (below_step (below_step HB.out (by repeat (first | exact Below.refl _ _ | refine below_alloc ?_ _ | refine pw_below_drewN ?_ _ | refine below_drew1 ?_ | refine below_set ?_ (Nat.le_refl _)))) hb); clear HB HR0 HR1 HR2 Bl; have HB := nb; have HR0 := n0; have HR1 := n1; have HR2 := n2; have Bl := bl; clear nb n0 n1 n2 bl; have k0 := Bl.out 0 (.slice A1 l1.length c1) rfl; have k1 := Bl.out 1 (.slice A2 l2.length c2) rfl; clear hb
          rw [errW_none] at he; subst he
          go_wp2_with (first | (go_at_call 47; refine stop_ ?_) | (go_at_call 33; refine stop_ ?_) | (go_at_call 49; refine stop_ ?_))
          clear k0 k1
          refine ⟨?_⟩
          refine Calls.mono (HCK.out _ (Kd.C_below HR1.out (by repeat (first | exact Below.refl _ _ | refine below_alloc ?_ _ | refine pw_below_drewN ?_ _ | refine below_drew1 ?_ | refine below_set ?_ (Nat.le_refl _)))) (Kd.C_below HR2.out (by repeat (first | exact Below.refl _ _ | refine below_alloc ?_ _ | refine pw_below_drewN ?_ _ | refine below_drew1 ?_ | refine below_set ?_ (Nat.le_refl _))))) ?_
          rintro e w' ⟨he, hb⟩
          have n0 := Aside0.mk (Kd.C_below (Kd.C_below HR0.out (by repeat (first | exact Below.refl _ _ | refine below_alloc ?_ _ | refine pw_below_drewN ?_ _ | refine below_drew1 ?_ | refine below_set ?_ (Nat.le_refl _)))) hb); have n1 := Aside0.mk (Kd.C_below (Kd.C_below HR1.out (by repeat (first | exact Below.refl _ _ | refine below_alloc ?_ _ | refine pw_below_drewN ?_ _ | refine below_drew1 ?_ | refine below_set ?_ (Nat.le_refl _)))) hb); have n2 := Aside0.mk (Kd.C_below (Kd.C_below HR2.out (by repeat (first | exact Below.refl _ _ | refine below_alloc ?_ _ | refine pw_below_drewN ?_ _ | refine below_drew1 ?_ | refine below_set ?_ (Nat.le_refl _)))) hb); have bl := Aside0.mk (Box.keep (by repeat (first | exact Below.refl _ _ | refine below_alloc ?_ _ | refine pw_below_drewN ?_ _ | refine below_drew1 ?_ | refine below_set ?_ (Nat.le_refl _))) hb Bl.out); have nb := Aside0.mk (below_step (below_step HB.out (by repeat (first | exact Below.refl _ _ | refine below_alloc ?_ _ | refine pw_below_drewN ?_ _ | refine below_drew1 ?_ | refine below_set ?_ (Nat.le_refl _)))) hb); clear HB HR0 HR1 HR2 Bl; have HB := nb; have HR0 := n0; have HR1 := n1; have HR2 := n2; have Bl := bl; clear nb n0 n1 n2 bl; have k0 := Bl.out 0 (.slice A1 l1.length c1) rfl; have k1 := Bl.out 1 (.slice A2 l2.length c2) rfl; clear hb
          rw [errW_none] at he; subst he
          go_wp2_with (first | (go_at_call 47; refine stop_ ?_) | (go_at_call 33; refine stop_ ?_) | (go_at_call 49; refine stop_ ?_))
          clear k0 k1
          refine ⟨?_⟩
          refine Calls.mono (HP.out _ (Kd.C_below HR1.out (by repeat (first | exact Below.refl _ _ | refine below_alloc ?_ _ | refine pw_below_drewN ?_ _ | refine below_drew1 ?_ | refine below_set ?_ (Nat.le_refl _)))) (Kd.C_below HR0.out (by repeat (first | exact Below.refl _ _ | refine below_alloc ?_ _ | refine pw_below_drewN ?_ _ | refine below_drew1 ?_ | refine below_set ?_ (Nat.le_refl _))))) ?_
          rintro e w' ⟨v, rfl, hv, hb⟩
          have n0 := Aside0.mk (Kd.C_below (Kd.C_below HR0.out (by repeat (first | exact Below.refl _ _ | refine below_alloc ?_ _ | refine pw_below_drewN ?_ _ | refine below_drew1 ?_ | refine below_set ?_ (Nat.le_refl _)))) hb); have n1 := Aside0.mk (Kd.C_below (Kd.C_below HR1.out (by repeat (first | exact Below.refl _ _ | refine below_alloc ?_ _ | refine pw_below_drewN ?_ _ | refine below_drew1 ?_ | refine below_set ?_ (Nat.le_refl _)))) hb); have n2 := Aside0.mk (Kd.C_below (Kd.C_below HR2.out (by repeat (first | exact Below.refl _ _ | refine below_alloc ?_ _ | refine pw_below_drewN ?_ _ | refine below_drew1 ?_ | refine below_set ?_ (Nat.le_refl _)))) hb); have bl := Aside0.mk (Box.keep (by repeat (first | exact Below.refl _ _ | refine below_alloc ?_ _ | refine pw_below_drewN ?_ _ | refine below_drew1 ?_ | refine below_set ?_ (Nat.le_refl _))) hb Bl.out); have nb := Aside0.mk (below_step (below_step HB.out (by repeat (first | exact Below.refl _ _ | refine below_alloc ?_ _ | refine pw_below_drewN ?_ _ | refine below_drew1 ?_ | refine below_set ?_ (Nat.le_refl _)))) hb); clear HB HR0 HR1 HR2 Bl; have HB := nb; have HR0 := n0; have HR1 := n1; have HR2 := n2; have Bl := bl; clear nb n0 n1 n2 bl; have k0 := Bl.out 0 (.slice A1 l1.length c1) rfl; have k1 := Bl.out 1 (.slice A2 l2.length c2) rfl; clear hb
          obtain ⟨Ap, cp, ep⟩ := Kd.R_slice hv
          subst ep
          clear hv
          go_wp2_with (first | (go_at_call 47; refine stop_ ?_) | (go_at_call 33; refine stop_ ?_) | (go_at_call 49; refine stop_ ?_))
          clear k0 k1
          refine ⟨?_⟩
          refine Calls.mono (HQ.out _ (Kd.C_below HR2.out (by repeat (first | exact Below.refl _ _ | refine below_alloc ?_ _ | refine pw_below_drewN ?_ _ | refine below_drew1 ?_ | refine below_set ?_ (Nat.le_refl _)))) (Kd.C_below HR0.out (by repeat (first | exact Below.refl _ _ | refine below_alloc ?_ _ | refine pw_below_drewN ?_ _ | refine below_drew1 ?_ | refine below_set ?_ (Nat.le_refl _))))) ?_
          rintro e w' ⟨v, rfl, hv, hb⟩
          have n0 := Aside0.mk (Kd.C_below (Kd.C_below HR0.out (by repeat (first | exact Below.refl _ _ | refine below_alloc ?_ _ | refine pw_below_drewN ?_ _ | refine below_drew1 ?_ | refine below_set ?_ (Nat.le_refl _)))) hb); have n1 := Aside0.mk (Kd.C_below (Kd.C_below HR1.out (by repeat (first | exact Below.refl _ _ | refine below_alloc ?_ _ | refine pw_below_drewN ?_ _ | refine below_drew1 ?_ | refine below_set ?_ (Nat.le_refl _)))) hb); have n2 := Aside0.mk (Kd.C_below (Kd.C_below HR2.out (by repeat (first | exact Below.refl _ _ | refine below_alloc ?_ _ | refine pw_below_drewN ?_ _ | refine below_drew1 ?_ | refine below_set ?_ (Nat.le_refl _)))) hb); have bl := Aside0.mk (Box.keep (by repeat (first | exact Below.refl _ _ | refine below_alloc ?_ _ | refine pw_below_drewN ?_ _ | refine below_drew1 ?_ | refine below_set ?_ (Nat.le_refl _))) hb Bl.out); have nb := Aside0.mk (below_step (below_step HB.out (by repeat (first | exact Below.refl _ _ | refine below_alloc ?_ _ | refine pw_below_drewN ?_ _ | refine below_drew1 ?_ | refine below_set ?_ (Nat.le_refl _)))) hb); clear HB HR0 HR1 HR2 Bl; have HB := nb; have HR0 := n0; have HR1 := n1; have HR2 := n2; have Bl := bl; clear nb n0 n1 n2 bl; have k0 := Bl.out 0 (.slice A1 l1.length c1) rfl; have k1 := Bl.out 1 (.slice A2 l2.length c2) rfl; clear hb
          obtain ⟨Aq, cq, eq_⟩ := Kd.R_slice hv
          subst eq_
          clear hv
          go_wp2_with (first | (go_at_call 47; refine stop_ ?_) | (go_at_call 33; refine stop_ ?_) | (go_at_call 49; refine stop_ ?_))
          go_ret2
          exact ⟨_, rfl, Kd.R_nil _ _ _ _ _, HB.out⟩
        · rw [if_neg hq]
          obtain rfl : q = [] := List.eq_nil_of_length_eq_zero (by omega)
          clear hq
          by_cases hu : u.length > 200
          · rw [if_pos hu]
            have huz : (u.length : Int) > 200 := by omega
            clear hu
            go_enter Try.func31, Try.ntmps31
            go_wp2_with (first | (go_at_call 47; refine stop_ ?_) | (go_at_call 33; refine stop_ ?_) | (go_at_call 49; refine stop_ ?_))
            refine ⟨?_⟩
            refine Calls.mono (HRT.out _ _ (cells1b w _ A0 c0 _ _) (Kd.C_alloc (Kd.C_alloc HR0.out _) _)) ?_
            rintro e w' ⟨he, hb⟩
            have n0 := Aside0.mk (Kd.C_below (Kd.C_below HR0.out (by repeat (first | exact Below.refl _ _ | refine below_alloc ?_ _ | refine pw_below_drewN ?_ _ | refine below_drew1 ?_ | refine below_set ?_ (Nat.le_refl _)))) hb); have n1 := Aside0.mk (Kd.C_below (Kd.C_below HR1.out (by repeat (first | exact Below.refl _ _ | refine below_alloc ?_ _ | refine pw_below_drewN ?_ _ | refine below_drew1 ?_ | refine below_set ?_ (Nat.le_refl _)))) hb); have n2 := Aside0.mk (Kd.C_below (Kd.C_below HR2.out (by repeat (first | exact Below.refl _ _ | refine below_alloc ?_ _ | refine pw_below_drewN ?_ _ | refine below_drew1 ?_ | refine below_set ?_ (Nat.le_refl _)))) hb); have bl := Aside0.mk (Box.keep (by repeat (first | exact Below.refl _ _ | refine below_alloc ?_ _ | refine pw_below_drewN ?_ _ | refine below_drew1 ?_ | refine below_set ?_ (Nat.le_refl _))) hb Bl.out); have nb := Aside0.mk (below_step (below_step HB.out (by repeat (first | exact Below.refl _ _ | refine below_alloc ?_ _ | refine pw_below_drewN ?_ _ | refine below_drew1 ?_ | refine below_set ?_ (Nat.le_refl _)))) hb); clear HB HR0 HR1 HR2 Bl; have HB := nb; have HR0 := n0; have HR1 := n1; have HR2 := n2; have Bl := bl; clear nb n0 n1 n2 bl; have k0 := Bl.out 0 (.slice A1 l1.length c1) rfl; have k1 := Bl.out 1 (.slice A2 l2.length c2) rfl; clear hb
            rw [errW_none] at he; subst he
            go_wp2_with (first | (go_at_call 47; refine stop_ ?_) | (go_at_call 33; refine stop_ ?_) | (go_at_call 49; refine stop_ ?_))
            clear k0 k1
            refine ⟨?_⟩
            refine Calls.mono (HCK.out _ (Kd.C_below HR1.out (by repeat (first | exact Below.refl _ _ | refine below_alloc ?_ _ | refine pw_below_drewN ?_ _ | refine below_drew1 ?_ | refine below_set ?_ (Nat.le_refl _)))) (Kd.C_below HR2.out (by repeat (first | exact Below.refl _ _ | refine below_alloc ?_ _ | refine pw_below_drewN ?_ _ | refine below_drew1 ?_ | refine below_set ?_ (Nat.le_refl _))))) ?_
            rintro e w' ⟨he, hb⟩
            have n0 := Aside0.mk (Kd.C_below (Kd.C_below HR0.out (by repeat (first | exact Below.refl _ _ | refine below_alloc ?_ _ | refine pw_below_drewN ?_ _ | refine below_drew1 ?_ | refine below_set ?_ (Nat.le_refl _)))) hb); have n1 := Aside0.mk (Kd.C_below (Kd.C_below HR1.out (by repeat (first | exact Below.refl _ _ | refine below_alloc ?_ _ | refine pw_below_drewN ?_ _ | refine below_drew1 ?_ | refine below_set ?_ (Nat.le_refl _)))) hb); have n2 := Aside0.mk (Kd.C_below (Kd.C_below HR2.out (by repeat (first | exact Below.refl _ _ | refine below_alloc ?_ _ | refine pw_below_drewN ?_ _ | refine below_drew1 ?_ | refine below_set ?_ (Nat.le_refl _)))) hb); have bl := Aside0.mk (Box.keep (by repeat (first | exact Below.refl _ _ | refine below_alloc ?_ _ | refine pw_below_drewN ?_ _ | refine below_drew1 ?_ | refine below_set ?_ (Nat.le_refl _))) hb Bl.out); have nb := Aside0.mk (below_step (below_step HB.out (by repeat (first | exact Below.refl _ _ | refine below_alloc ?_ _ | refine pw_below_drewN ?_ _ | refine below_drew1 ?_ | refine below_set ?_ (Nat.le_refl _)))) hb); clear HB HR0 HR1 HR2 Bl; have HB := nb; have HR0 := n0; have HR1 := n1; have HR2 := n2; have Bl := bl; clear nb n0 n1 n2 bl; have k0 := Bl.out 0 (.slice A1 l1.length c1) rfl; have k1 := Bl.out 1 (.slice A2 l2.length c2) rfl; clear hb
            rw [errW_none] at he; subst he
            go_wp2_with (first | (go_at_call 47; refine stop_ ?_) | (go_at_call 33; refine stop_ ?_) | (go_at_call 49; refine stop_ ?_))
            clear k0 k1
            refine ⟨?_⟩
            refine Calls.mono (HP.out _ (Kd.C_below HR1.out (by repeat (first | exact Below.refl _ _ | refine below_alloc ?_ _ | refine pw_below_drewN ?_ _ | refine below_drew1 ?_ | refine below_set ?_ (Nat.le_refl _)))) (Kd.C_below HR0.out (by repeat (first | exact Below.refl _ _ | refine below_alloc ?_ _ | refine pw_below_drewN ?_ _ | refine below_drew1 ?_ | refine below_set ?_ (Nat.le_refl _))))) ?_
            rintro e w' ⟨v, rfl, hv, hb⟩
            have n0 := Aside0.mk (Kd.C_below (Kd.C_below HR0.out (by repeat (first | exact Below.refl _ _ | refine below_alloc ?_ _ | refine pw_below_drewN ?_ _ | refine below_drew1 ?_ | refine below_set ?_ (Nat.le_refl _)))) hb); have n1 := Aside0.mk (Kd.C_below (Kd.C_below HR1.out (by repeat (first | exact Below.refl _ _ | refine below_alloc ?_ _ | refine pw_below_drewN ?_ _ | refine below_drew1 ?_ | refine below_set ?_ (Nat.le_refl _)))) hb); have n2 := Aside0.mk (Kd.C_below (Kd.C_below HR2.out (by repeat (first | exact Below.refl _ _ | refine below_alloc ?_ _ | refine pw_below_drewN ?_ _ | refine below_drew1 ?_ | refine below_set ?_ (Nat.le_refl _)))) hb); have bl := Aside0.mk (Box.keep (by repeat (first | exact Below.refl _ _ | refine below_alloc ?_ _ | refine pw_below_drewN ?_ _ | refine below_drew1 ?_ | refine below_set ?_ (Nat.le_refl _))) hb Bl.out); have nb := Aside0.mk (below_step (below_step HB.out (by repeat (first | exact Below.refl _ _ | refine below_alloc ?_ _ | refine pw_below_drewN ?_ _ | refine below_drew1 ?_ | refine below_set ?_ (Nat.le_refl _)))) hb); clear HB HR0 HR1 HR2 Bl; have HB := nb; have HR0 := n0; have HR1 := n1; have HR2 := n2; have Bl := bl; clear nb n0 n1 n2 bl; have k0 := Bl.out 0 (.slice A1 l1.length c1) rfl; have k1 := Bl.out 1 (.slice A2 l2.length c2) rfl; clear hb
            obtain ⟨Ap, cp, ep⟩ := Kd.R_slice hv
            subst ep
            clear hv
            go_wp2_with (first | (go_at_call 47; refine stop_ ?_) | (go_at_call 33; refine stop_ ?_) | (go_at_call 49; refine stop_ ?_))
            clear k0 k1
            refine ⟨?_⟩
            refine Calls.mono (HQ.out _ (Kd.C_below HR2.out (by repeat (first | exact Below.refl _ _ | refine below_alloc ?_ _ | refine pw_below_drewN ?_ _ | refine below_drew1 ?_ | refine below_set ?_ (Nat.le_refl _)))) (Kd.C_below HR0.out (by repeat (first | exact Below.refl _ _ | refine below_alloc ?_ _ | refine pw_below_drewN ?_ _ | refine below_drew1 ?_ | refine below_set ?_ (Nat.le_refl _))))) ?_
            rintro e w' ⟨v, rfl, hv, hb⟩
            have n0 := Aside0.mk (Kd.C_below (Kd.C_below HR0.out (by repeat (first | exact Below.refl _ _ | refine below_alloc ?_ _ | refine pw_below_drewN ?_ _ | refine below_drew1 ?_ | refine below_set ?_ (Nat.le_refl _)))) hb); have n1 := Aside0.mk (Kd.C_below (Kd.C_below HR1.out (by repeat (first | exact Below.refl _ _ | refine below_alloc ?_ _ | refine pw_below_drewN ?_ _ | refine below_drew1 ?_ | refine below_set ?_ (Nat.le_refl _)))) hb); have n2 := Aside0.mk (Kd.C_below (Kd.C_below HR2.out (by repeat (first | exact Below.refl _ _ | refine below_alloc ?_ _ | refine pw_below_drewN ?_ _ | refine below_drew1 ?_ | refine below_set ?_ (Nat.le_refl _)))) hb); have bl := Aside0.mk (Box.keep (by repeat (first | exact Below.refl _ _ | refine below_alloc ?_ _ | refine pw_below_drewN ?_ _ | refine below_drew1 ?_ | refine below_set ?_ (Nat.le_refl _))) hb Bl.out); have nb := Aside0.mk (below_step (below_step HB.out (by repeat (first | exact Below.refl _ _ | refine below_alloc ?_ _ | refine pw_below_drewN ?_ _ | refine below_drew1 ?_ | refine below_set ?_ (Nat.le_refl _)))) hb); clear HB HR0 HR1 HR2 Bl; have HB := nb; have HR0 := n0; have HR1 := n1; have HR2 := n2; have Bl := bl; clear nb n0 n1 n2 bl; have k0 := Bl.out 0 (.slice A1 l1.length c1) rfl; have k1 := Bl.out 1 (.slice A2 l2.length c2) rfl; clear hb
            obtain ⟨Aq, cq, eq_⟩ := Kd.R_slice hv
            subst eq_
            clear hv
            go_wp2_with (first | (go_at_call 47; refine stop_ ?_) | (go_at_call 33; refine stop_ ?_) | (go_at_call 49; refine stop_ ?_))
            go_region_held3 (fun W => W.cell? ⟨w.heap.size, 0, none⟩ = some (.slice A1 l1.length c1) ∧ W.cell? ⟨w.heap.size, 1, none⟩ = some (.slice A2 l2.length c2)) (first | exact ⟨m0, m1⟩ | exact ⟨k0, k1⟩ | go_keep) (first | (go_at_call 49; refine (HS.out _ (Kd.C_below HR0.out (by repeat (first | exact Below.refl _ _ | refine below_alloc ?_ _ | refine pw_below_drewN ?_ _ | refine below_drew1 ?_ | refine below_set ?_ (Nat.le_refl _)))) (Kd.C_below HR2.out (by repeat (first | exact Below.refl _ _ | refine below_alloc ?_ _ | refine pw_below_drewN ?_ _ | refine below_drew1 ?_ | refine below_set ?_ (Nat.le_refl _))))).mono ?_; rintro e w5 ⟨v, rfl, hv, hb⟩; obtain ⟨As, cs, rfl, hCs, hcs⟩ := R_row hv; have HRS := Aside0.mk hCs; have HLS := Aside0.mk hcs; clear hv hCs hcs; have n0 := Aside0.mk (Kd.C_below (Kd.C_below HR0.out (by repeat (first | exact Below.refl _ _ | refine below_alloc ?_ _ | refine pw_below_drewN ?_ _ | refine below_drew1 ?_ | refine below_set ?_ (Nat.le_refl _)))) hb); have n1 := Aside0.mk (Kd.C_below (Kd.C_below HR1.out (by repeat (first | exact Below.refl _ _ | refine below_alloc ?_ _ | refine pw_below_drewN ?_ _ | refine below_drew1 ?_ | refine below_set ?_ (Nat.le_refl _)))) hb); have n2 := Aside0.mk (Kd.C_below (Kd.C_below HR2.out (by repeat (first | exact Below.refl _ _ | refine below_alloc ?_ _ | refine pw_below_drewN ?_ _ | refine below_drew1 ?_ | refine below_set ?_ (Nat.le_refl _)))) hb); have bl := Aside0.mk (Box.keep (by repeat (first | exact Below.refl _ _ | refine below_alloc ?_ _ | refine pw_below_drewN ?_ _ | refine below_drew1 ?_ | refine below_set ?_ (Nat.le_refl _))) hb Bl.out); have nb := Aside0.mk (below_step (below_step HB.out (by repeat (first | exact Below.refl _ _ | refine below_alloc ?_ _ | refine pw_below_drewN ?_ _ | refine below_drew1 ?_ | refine below_set ?_ (Nat.le_refl _)))) hb); clear HB HR0 HR1 HR2 Bl; have HB := nb; have HR0 := n0; have HR1 := n1; have HR2 := n2; have Bl := bl; clear nb n0 n1 n2 bl; have m0 := Bl.out 0 (.slice A1 l1.length c1) rfl; have m1 := Bl.out 1 (.slice A2 l2.length c2) rfl; clear hb) | (go_at_call 60; refine (HU.out _ As cs (Kd.C_below HRS.out (by repeat (first | exact Below.refl _ _ | refine below_alloc ?_ _ | refine pw_below_drewN ?_ _ | refine below_drew1 ?_ | refine below_set ?_ (Nat.le_refl _)))) HLS.out (Kd.C_below HR1.out (by repeat (first | exact Below.refl _ _ | refine below_alloc ?_ _ | refine pw_below_drewN ?_ _ | refine below_drew1 ?_ | refine below_set ?_ (Nat.le_refl _))))).mono ?_; rintro e w6 ⟨v, rfl, hv, hb⟩; obtain ⟨Au, cu, eu⟩ := Kd.R_slice hv; subst eu; have HV := Aside0.mk (Kd.R_lower hv (Nat.le_trans HB.out.size (show _ ≤ _ from Nat.le_of_eq (by first | rfl | simp)))); clear hv; have n0 := Aside0.mk (Kd.C_below (Kd.C_below HR0.out (by repeat (first | exact Below.refl _ _ | refine below_alloc ?_ _ | refine pw_below_drewN ?_ _ | refine below_drew1 ?_ | refine below_set ?_ (Nat.le_refl _)))) hb); have n1 := Aside0.mk (Kd.C_below (Kd.C_below HR1.out (by repeat (first | exact Below.refl _ _ | refine below_alloc ?_ _ | refine pw_below_drewN ?_ _ | refine below_drew1 ?_ | refine below_set ?_ (Nat.le_refl _)))) hb); have n2 := Aside0.mk (Kd.C_below (Kd.C_below HR2.out (by repeat (first | exact Below.refl _ _ | refine below_alloc ?_ _ | refine pw_below_drewN ?_ _ | refine below_drew1 ?_ | refine below_set ?_ (Nat.le_refl _)))) hb); have bl := Aside0.mk (Box.keep (by repeat (first | exact Below.refl _ _ | refine below_alloc ?_ _ | refine pw_below_drewN ?_ _ | refine below_drew1 ?_ | refine below_set ?_ (Nat.le_refl _))) hb Bl.out); have nb := Aside0.mk (below_step (below_step HB.out (by repeat (first | exact Below.refl _ _ | refine below_alloc ?_ _ | refine pw_below_drewN ?_ _ | refine below_drew1 ?_ | refine below_set ?_ (Nat.le_refl _)))) hb); clear HB HR0 HR1 HR2 Bl; have HB := nb; have HR0 := n0; have HR1 := n1; have HR2 := n2; have Bl := bl; clear nb n0 n1 n2 bl; have m0 := Bl.out 0 (.slice A1 l1.length c1) rfl; have m1 := Bl.out 1 (.slice A2 l2.length c2) rfl; clear hb))
            go_wp2
            go_ret2
            exact ⟨_, rfl, Kd.R_nil _ _ _ _ _, HB.out⟩
          · rw [if_neg hu]
            have huz : ¬ (u.length : Int) > 200 := by omega
            clear hu
            go_enter Try.func31, Try.ntmps31
            go_wp2_with (first | (go_at_call 47; refine stop_ ?_) | (go_at_call 33; refine stop_ ?_) | (go_at_call 49; refine stop_ ?_))
            refine ⟨?_⟩
            refine Calls.mono (HRT.out _ _ (cells1b w _ A0 c0 _ _) (Kd.C_alloc (Kd.C_alloc HR0.out _) _)) ?_
            rintro e w' ⟨he, hb⟩
            have n0 := Aside0.mk (Kd.C_below (Kd.C_below HR0.out (by repeat (first | exact Below.refl _ _ | refine below_alloc ?_ _ | refine pw_below_drewN ?_ _ | refine below_drew1 ?_ | refine below_set ?_ (Nat.le_refl _)))) hb); have n1 := Aside0.mk (Kd.C_below (Kd.C_below HR1.out (by repeat (first | exact Below.refl _ _ | refine below_alloc ?_ _ | refine pw_below_drewN ?_ _ | refine below_drew1 ?_ | refine below_set ?_ (Nat.le_refl _)))) hb); have n2 := Aside0.mk (Kd.C_below (Kd.C_below HR2.out (by repeat (first | exact Below.refl _ _ | refine below_alloc ?_ _ | refine pw_below_drewN ?_ _ | refine below_drew1 ?_ | refine below_set ?_ (Nat.le_refl _)))) hb); have bl := Aside0.mk (Box.keep (by repeat (first | exact Below.refl _ _ | refine below_alloc ?_ _ | refine pw_below_drewN ?_ _ | refine below_drew1 ?_ | refine below_set ?_ (Nat.le_refl _))) hb Bl.out); have nb := Aside0.mk (below_step (below_step HB.out (by repeat (first | exact Below.refl _ _ | refine below_alloc ?_ _ | refine pw_below_drewN ?_ _ | refine below_drew1 ?_ | refine below_set ?_ (Nat.le_refl _)))) hb); clear HB HR0 HR1 HR2 Bl; have HB := nb; have HR0 := n0; have HR1 := n1; have HR2 := n2; have Bl := bl; clear nb n0 n1 n2 bl; have k0 := Bl.out 0 (.slice A1 l1.length c1) rfl; have k1 := Bl.out 1 (.slice A2 l2.length c2) rfl; clear hb
            rw [errW_none] at he; subst he
            go_wp2_with (first | (go_at_call 47; refine stop_ ?_) | (go_at_call 33; refine stop_ ?_) | (go_at_call 49; refine stop_ ?_))
            clear k0 k1
            refine ⟨?_⟩
            refine Calls.mono (HCK.out _ (Kd.C_below HR1.out (by repeat (first | exact Below.refl _ _ | refine below_alloc ?_ _ | refine pw_below_drewN ?_ _ | refine below_drew1 ?_ | refine below_set ?_ (Nat.le_refl _)))) (Kd.C_below HR2.out (by repeat (first | exact Below.refl _ _ | refine below_alloc ?_ _ | refine pw_below_drewN ?_ _ | refine below_drew1 ?_ | refine below_set ?_ (Nat.le_refl _))))) ?_
            rintro e w' ⟨he, hb⟩
            have n0 := Aside0.mk (Kd.C_below (Kd.C_below HR0.out (by repeat (first | exact Below.refl _ _ | refine below_alloc ?_ _ | refine pw_below_drewN ?_ _ | refine below_drew1 ?_ | refine below_set ?_ (Nat.le_refl _)))) hb); have n1 := Aside0.mk (Kd.C_below (Kd.C_below HR1.out (by repeat (first | exact Below.refl _ _ | refine below_alloc ?_ _ | refine pw_below_drewN ?_ _ | refine below_drew1 ?_ | refine below_set ?_ (Nat.le_refl _)))) hb); have n2 := Aside0.mk (Kd.C_below (Kd.C_below HR2.out (by repeat (first | exact Below.refl _ _ | refine below_alloc ?_ _ | refine pw_below_drewN ?_ _ | refine below_drew1 ?_ | refine below_set ?_ (Nat.le_refl _)))) hb); have bl := Aside0.mk (Box.keep (by repeat (first | exact Below.refl _ _ | refine below_alloc ?_ _ | refine pw_below_drewN ?_ _ | refine below_drew1 ?_ | refine below_set ?_ (Nat.le_refl _))) hb Bl.out); have nb := Aside0.mk (below_step (below_step HB.out (by repeat (first | exact Below.refl _ _ | refine below_alloc ?_ _ | refine pw_below_drewN ?_ _ | refine below_drew1 ?_ | refine below_set ?_ (Nat.le_refl _)))) hb); clear HB HR0 HR1 HR2 Bl; have HB := nb; have HR0 := n0; have HR1 := n1; have HR2 := n2; have Bl := bl; clear nb n0 n1 n2 bl; have k0 := Bl.out 0 (.slice A1 l1.length c1) rfl; have k1 := Bl.out 1 (.slice A2 l2.length c2) rfl; clear hb
            rw [errW_none] at he; subst he
            go_wp2_with (first | (go_at_call 47; refine stop_ ?_) | (go_at_call 33; refine stop_ ?_) | (go_at_call 49; refine stop_ ?_))
            clear k0 k1
            refine ⟨?_⟩
            refine Calls.mono (HP.out _ (Kd.C_below HR1.out (by repeat (first | exact Below.refl _ _ | refine below_alloc ?_ _ | refine pw_below_drewN ?_ _ | refine below_drew1 ?_ | refine below_set ?_ (Nat.le_refl _)))) (Kd.C_below HR0.out (by repeat (first | exact Below.refl _ _ | refine below_alloc ?_ _ | refine pw_below_drewN ?_ _ | refine below_drew1 ?_ | refine below_set ?_ (Nat.le_refl _))))) ?_
            rintro e w' ⟨v, rfl, hv, hb⟩
            have n0 := Aside0.mk (Kd.C_below (Kd.C_below HR0.out (by repeat (first | exact Below.refl _ _ | refine below_alloc ?_ _ | refine pw_below_drewN ?_ _ | refine below_drew1 ?_ | refine below_set ?_ (Nat.le_refl _)))) hb); have n1 := Aside0.mk (Kd.C_below (Kd.C_below HR1.out (by repeat (first | exact Below.refl _ _ | refine below_alloc ?_ _ | refine pw_below_drewN ?_ _ | refine below_drew1 ?_ | refine below_set ?_ (Nat.le_refl _)))) hb); have n2 := Aside0.mk (Kd.C_below (Kd.C_below HR2.out (by repeat (first | exact Below.refl _ _ | refine below_alloc ?_ _ | refine pw_below_drewN ?_ _ | refine below_drew1 ?_ | refine below_set ?_ (Nat.le_refl _)))) hb); have bl := Aside0.mk (Box.keep (by repeat (first | exact Below.refl _ _ | refine below_alloc ?_ _ | refine pw_below_drewN ?_ _ | refine below_drew1 ?_ | refine below_set ?_ (Nat.le_refl _))) hb Bl.out); have nb := Aside0.mk (below_step (below_step HB.out (by repeat (first | exact Below.refl _ _ | refine below_alloc ?_ _ | refine pw_below_drewN ?_ _ | refine below_drew1 ?_ | refine below_set ?_ (Nat.le_refl _)))) hb); clear HB HR0 HR1 HR2 Bl; have HB := nb; have HR0 := n0; have HR1 := n1; have HR2 := n2; have Bl := bl; clear nb n0 n1 n2 bl; have k0 := Bl.out 0 (.slice A1 l1.length c1) rfl; have k1 := Bl.out 1 (.slice A2 l2.length c2) rfl; clear hb
            obtain ⟨Ap, cp, ep⟩ := Kd.R_slice hv
            subst ep
            clear hv
            go_wp2_with (first | (go_at_call 47; refine stop_ ?_) | (go_at_call 33; refine stop_ ?_) | (go_at_call 49; refine stop_ ?_))
            clear k0 k1
            refine ⟨?_⟩
            refine Calls.mono (HQ.out _ (Kd.C_below HR2.out (by repeat (first | exact Below.refl _ _ | refine below_alloc ?_ _ | refine pw_below_drewN ?_ _ | refine below_drew1 ?_ | refine below_set ?_ (Nat.le_refl _)))) (Kd.C_below HR0.out (by repeat (first | exact Below.refl _ _ | refine below_alloc ?_ _ | refine pw_below_drewN ?_ _ | refine below_drew1 ?_ | refine below_set ?_ (Nat.le_refl _))))) ?_
            rintro e w' ⟨v, rfl, hv, hb⟩
            have n0 := Aside0.mk (Kd.C_below (Kd.C_below HR0.out (by repeat (first | exact Below.refl _ _ | refine below_alloc ?_ _ | refine pw_below_drewN ?_ _ | refine below_drew1 ?_ | refine below_set ?_ (Nat.le_refl _)))) hb); have n1 := Aside0.mk (Kd.C_below (Kd.C_below HR1.out (by repeat (first | exact Below.refl _ _ | refine below_alloc ?_ _ | refine pw_below_drewN ?_ _ | refine below_drew1 ?_ | refine below_set ?_ (Nat.le_refl _)))) hb); have n2 := Aside0.mk (Kd.C_below (Kd.C_below HR2.out (by repeat (first | exact Below.refl _ _ | refine below_alloc ?_ _ | refine pw_below_drewN ?_ _ | refine below_drew1 ?_ | refine below_set ?_ (Nat.le_refl _)))) hb); have bl := Aside0.mk (Box.keep (by repeat (first | exact Below.refl _ _ | refine below_alloc ?_ _ | refine pw_below_drewN ?_ _ | refine below_drew1 ?_ | refine below_set ?_ (Nat.le_refl _))) hb Bl.out); have nb := Aside0.mk (below_step (below_step HB.out (by repeat (first | exact Below.refl _ _ | refine below_alloc ?_ _ | refine pw_below_drewN ?_ _ | refine below_drew1 ?_ | refine below_set ?_ (Nat.le_refl _)))) hb); clear HB HR0 HR1 HR2 Bl; have HB := nb; have HR0 := n0; have HR1 := n1; have HR2 := n2; have Bl := bl; clear nb n0 n1 n2 bl; have k0 := Bl.out 0 (.slice A1 l1.length c1) rfl; have k1 := Bl.out 1 (.slice A2 l2.length c2) rfl; clear hb
            obtain ⟨Aq, cq, eq_⟩ := Kd.R_slice hv
            subst eq_
            clear hv
            go_wp2_with (first | (go_at_call 47; refine stop_ ?_) | (go_at_call 33; refine stop_ ?_) | (go_at_call 49; refine stop_ ?_))
            go_region_held3 (fun W => W.cell? ⟨w.heap.size, 0, none⟩ = some (.slice A1 l1.length c1) ∧ W.cell? ⟨w.heap.size, 1, none⟩ = some (.slice A2 l2.length c2)) (first | exact ⟨m0, m1⟩ | exact ⟨k0, k1⟩ | go_keep) (first | (go_at_call 49; refine (HS.out _ (Kd.C_below HR0.out (by repeat (first | exact Below.refl _ _ | refine below_alloc ?_ _ | refine pw_below_drewN ?_ _ | refine below_drew1 ?_ | refine below_set ?_ (Nat.le_refl _)))) (Kd.C_below HR2.out (by repeat (first | exact Below.refl _ _ | refine below_alloc ?_ _ | refine pw_below_drewN ?_ _ | refine below_drew1 ?_ | refine below_set ?_ (Nat.le_refl _))))).mono ?_; rintro e w5 ⟨v, rfl, hv, hb⟩; obtain ⟨As, cs, rfl, hCs, hcs⟩ := R_row hv; have HRS := Aside0.mk hCs; have HLS := Aside0.mk hcs; clear hv hCs hcs; have n0 := Aside0.mk (Kd.C_below (Kd.C_below HR0.out (by repeat (first | exact Below.refl _ _ | refine below_alloc ?_ _ | refine pw_below_drewN ?_ _ | refine below_drew1 ?_ | refine below_set ?_ (Nat.le_refl _)))) hb); have n1 := Aside0.mk (Kd.C_below (Kd.C_below HR1.out (by repeat (first | exact Below.refl _ _ | refine below_alloc ?_ _ | refine pw_below_drewN ?_ _ | refine below_drew1 ?_ | refine below_set ?_ (Nat.le_refl _)))) hb); have n2 := Aside0.mk (Kd.C_below (Kd.C_below HR2.out (by repeat (first | exact Below.refl _ _ | refine below_alloc ?_ _ | refine pw_below_drewN ?_ _ | refine below_drew1 ?_ | refine below_set ?_ (Nat.le_refl _)))) hb); have bl := Aside0.mk (Box.keep (by repeat (first | exact Below.refl _ _ | refine below_alloc ?_ _ | refine pw_below_drewN ?_ _ | refine below_drew1 ?_ | refine below_set ?_ (Nat.le_refl _))) hb Bl.out); have nb := Aside0.mk (below_step (below_step HB.out (by repeat (first | exact Below.refl _ _ | refine below_alloc ?_ _ | refine pw_below_drewN ?_ _ | refine below_drew1 ?_ | refine below_set ?_ (Nat.le_refl _)))) hb); clear HB HR0 HR1 HR2 Bl; have HB := nb; have HR0 := n0; have HR1 := n1; have HR2 := n2; have Bl := bl; clear nb n0 n1 n2 bl; have m0 := Bl.out 0 (.slice A1 l1.length c1) rfl; have m1 := Bl.out 1 (.slice A2 l2.length c2) rfl; clear hb) | (go_at_call 60; refine (HU.out _ As cs (Kd.C_below HRS.out (by repeat (first | exact Below.refl _ _ | refine below_alloc ?_ _ | refine pw_below_drewN ?_ _ | refine below_drew1 ?_ | refine below_set ?_ (Nat.le_refl _)))) HLS.out (Kd.C_below HR1.out (by repeat (first | exact Below.refl _ _ | refine below_alloc ?_ _ | refine pw_below_drewN ?_ _ | refine below_drew1 ?_ | refine below_set ?_ (Nat.le_refl _))))).mono ?_; rintro e w6 ⟨v, rfl, hv, hb⟩; obtain ⟨Au, cu, eu⟩ := Kd.R_slice hv; subst eu; have HV := Aside0.mk (Kd.R_lower hv (Nat.le_trans HB.out.size (show _ ≤ _ from Nat.le_of_eq (by first | rfl | simp)))); clear hv; have n0 := Aside0.mk (Kd.C_below (Kd.C_below HR0.out (by repeat (first | exact Below.refl _ _ | refine below_alloc ?_ _ | refine pw_below_drewN ?_ _ | refine below_drew1 ?_ | refine below_set ?_ (Nat.le_refl _)))) hb); have n1 := Aside0.mk (Kd.C_below (Kd.C_below HR1.out (by repeat (first | exact Below.refl _ _ | refine below_alloc ?_ _ | refine pw_below_drewN ?_ _ | refine below_drew1 ?_ | refine below_set ?_ (Nat.le_refl _)))) hb); have n2 := Aside0.mk (Kd.C_below (Kd.C_below HR2.out (by repeat (first | exact Below.refl _ _ | refine below_alloc ?_ _ | refine pw_below_drewN ?_ _ | refine below_drew1 ?_ | refine below_set ?_ (Nat.le_refl _)))) hb); have bl := Aside0.mk (Box.keep (by repeat (first | exact Below.refl _ _ | refine below_alloc ?_ _ | refine pw_below_drewN ?_ _ | refine below_drew1 ?_ | refine below_set ?_ (Nat.le_refl _))) hb Bl.out); have nb := Aside0.mk (below_step (below_step HB.out (by repeat (first | exact Below.refl _ _ | refine below_alloc ?_ _ | refine pw_below_drewN ?_ _ | refine below_drew1 ?_ | refine below_set ?_ (Nat.le_refl _)))) hb); clear HB HR0 HR1 HR2 Bl; have HB := nb; have HR0 := n0; have HR1 := n1; have HR2 := n2; have Bl := bl; clear nb n0 n1 n2 bl; have m0 := Bl.out 0 (.slice A1 l1.length c1) rfl; have m1 := Bl.out 1 (.slice A2 l2.length c2) rfl; clear hb))
            go_wp2
            go_ret2
            exact ⟨_, rfl, HV.out, HB.out⟩
end Go.Proofs.Ytdjamphmndbmjaa.M

/- Package layer: Turn (printed by wip/gen_lay3.py). -/
namespace Go.Proofs.Ytdjamphmndbmjaa.M
open Go.RowKit Go.Proofs.YtdjamphmndbmjaaW.PrintWords Go.Proofs.YtdjamphmndbmjaaW.PrintLast Go.Proofs.YtdjamphmndbmjaaW.PrintMore
set_option linter.unusedVariables false
set_option linter.unusedSimpArgs false

set_option maxHeartbeats 4000000 in
set_option maxRecDepth 100000 in
theorem turn_calls (A1 : Option Addr) (c1 : Nat) (l1 : List S41) (A2 : Option Addr) (c2 : Nat) (l2 : List S41) (w : World) (hr1 : Kd.C k41 w A1 l1.length l1) (hc1 : l1.length ≤ c1) (hr2 : Kd.C k41 w A2 l2.length l2) (hc2 : l2.length ≤ c2) :
    Calls Try.prog 32 #[.agg #[.slice A1 l1.length c1, .slice A2 l2.length c2]] w fun e w' => ∃ v, e = .returned (.tuple #[v, errW (layErr l1 l2)]) ∧ LRow w' w.heap.size v (if layErr l1 l2 = none then l2 else []) (if layErr l1 l2 = none then l1 else []) ∧ Below w.heap.size w w' := by
  have HR1 := Aside0.mk hr1; have HR2 := Aside0.mk hr2; have HB := Aside0.mk (Below.refl w.heap.size w)
  have Bl : Aside0 (Box (w.alloc (.cells #[.slice A1 l1.length c1, .slice A2 l2.length c2] 69)) w.heap.size #[.slice A1 l1.length c1, .slice A2 l2.length c2]) := ⟨Box.new _ _ _⟩
  have HK : Aside0 (((w.alloc (.cells #[.slice A1 l1.length c1, .slice A2 l2.length c2] 69)).alloc (.cells #[.slice none 0 0, .slice none 0 0] 69 (0, 0))).heap[w.heap.size + 1]? = some (.cells #[.slice none 0 0, .slice none 0 0] 69 (0, 0))) := ⟨by have h := blk_new (w.alloc (.cells #[.slice A1 l1.length c1, .slice A2 l2.length c2] 69)) (.cells #[.slice none 0 0, .slice none 0 0] 69 (0, 0)); rw [alloc_size1] at h; exact h⟩
  have hchk := fun W hC1 hC2 => lcheck_calls A1 c1 l1 A2 c2 l2 W hC1 hc1 hC2 hc2
  cases he : layErr l1 l2 with
  | some n =>
    rw [if_neg (by simp), if_neg (by simp)]
    rw [he] at hchk
    have HCK := Aside0.mk hchk
    clear hchk he hr1 hr2
    go_enter Try.func32, Try.ntmps32
    go_wp2_with (first | (go_at_call 33; refine stop_ ?_) | (go_at_call 62; refine stop_ ?_))
    refine ⟨?_⟩
    refine Calls.mono (HCK.out _ (Kd.C_below HR1.out (by repeat (first | exact Below.refl _ _ | refine below_alloc ?_ _ | refine pw_below_drewN ?_ _ | refine below_drew1 ?_ | refine below_set ?_ (Nat.le_refl _)))) (Kd.C_below HR2.out (by repeat (first | exact Below.refl _ _ | refine below_alloc ?_ _ | refine pw_below_drewN ?_ _ | refine below_drew1 ?_ | refine below_set ?_ (Nat.le_refl _))))) ?_
    rintro e w' ⟨he, hb⟩
    have n1 := Aside0.mk (Kd.C_below (Kd.C_below HR1.out (by repeat (first | exact Below.refl _ _ | refine below_alloc ?_ _ | refine pw_below_drewN ?_ _ | refine below_drew1 ?_ | refine below_set ?_ (Nat.le_refl _)))) hb); have n2 := Aside0.mk (Kd.C_below (Kd.C_below HR2.out (by repeat (first | exact Below.refl _ _ | refine below_alloc ?_ _ | refine pw_below_drewN ?_ _ | refine below_drew1 ?_ | refine below_set ?_ (Nat.le_refl _)))) hb); have bl := Aside0.mk (Box.keep (by repeat (first | exact Below.refl _ _ | refine below_alloc ?_ _ | refine pw_below_drewN ?_ _ | refine below_drew1 ?_ | refine below_set ?_ (Nat.le_refl _))) hb Bl.out); have nb := Aside0.mk (below_step (below_step HB.out (by repeat (first | exact Below.refl _ _ | refine below_alloc ?_ _ | refine pw_below_drewN ?_ _ | refine below_drew1 ?_ | refine below_set ?_ (Nat.le_refl _)))) hb); clear HB HR1 HR2 Bl; have HB := nb; have HR1 := n1; have HR2 := n2; have Bl := bl; clear nb n1 n2 bl; have nk := Aside0.mk (blk_below (by repeat (first | exact HK.out | refine blk_drewN ?_ _ | refine blk_drew ?_ | refine blk_alloc ?_ _)) hb); clear HK; have HK := nk; clear nk; clear hb
    rw [errW_some] at he; subst he
    have r0 : w'.cell? ⟨w.heap.size + 1, 0, none⟩ = some (.slice none 0 0) := (blk_cell HK.out 0).trans rfl; have r1 : w'.cell? ⟨w.heap.size + 1, 1, none⟩ = some (.slice none 0 0) := (blk_cell HK.out 1).trans rfl; have f0 : w'.frozen? ⟨w.heap.size + 1, 0, none⟩ = false := blk_frozen HK.out 0; have f1 : w'.frozen? ⟨w.heap.size + 1, 1, none⟩ = false := blk_frozen HK.out 1
    go_wp2_with (first | (go_at_call 33; refine stop_ ?_) | (go_at_call 62; refine stop_ ?_))
    clear r0 r1 f0 f1
    refine bodyPost_ret (results_ct rfl _ _ (w.heap.size + 1) 69 #[.slice none 0 0, .slice none 0 0] (0, 0) _ rfl (blk_put (cs := #[.slice none 0 0, .slice none 0 0]) (blk_put (cs := #[.slice none 0 0, .slice none 0 0]) (by repeat (first | exact HK.out | refine blk_drewN ?_ _ | refine blk_drew ?_ | refine blk_alloc ?_ _)) 0 _ rfl) 1 _ rfl) Try.underlying69 rfl (by kernel_rfl)) rfl ?_
    exact ⟨_, rfl, ⟨_, _, rfl, Kd.R_nil _ _ _ _ _, Kd.R_nil _ _ _ _ _⟩, below_set (below_set HB.out (Nat.le_succ _)) (Nat.le_succ _)⟩
  | none =>
    rw [if_pos rfl, if_pos rfl]
    obtain ⟨hs1, hs2, _⟩ := lay_none he
    rw [he] at hchk
    have HCK := Aside0.mk hchk
    have hcl1 := fun W (hC : Kd.C k41 W A1 l1.length l1) => clone_T.calls A1 c1 l1 l1 W hC hc1 (by unfold clone_T.f; rw [if_pos (by have := sortedR_len hs1; omega)])
    have hcl2 := fun W (hC : Kd.C k41 W A2 l2.length l2) => clone_T.calls A2 c2 l2 l2 W hC hc2 (by unfold clone_T.f; rw [if_pos (by have := sortedR_len hs2; omega)])
    have HCL1 := Aside0.mk hcl1; have HCL2 := Aside0.mk hcl2
    clear hchk he hr1 hr2 hs1 hs2 hcl1 hcl2
    go_enter Try.func32, Try.ntmps32
    go_wp2_with (first | (go_at_call 33; refine stop_ ?_) | (go_at_call 62; refine stop_ ?_))
    refine ⟨?_⟩
    refine Calls.mono (HCK.out _ (Kd.C_below HR1.out (by repeat (first | exact Below.refl _ _ | refine below_alloc ?_ _ | refine pw_below_drewN ?_ _ | refine below_drew1 ?_ | refine below_set ?_ (Nat.le_refl _)))) (Kd.C_below HR2.out (by repeat (first | exact Below.refl _ _ | refine below_alloc ?_ _ | refine pw_below_drewN ?_ _ | refine below_drew1 ?_ | refine below_set ?_ (Nat.le_refl _))))) ?_
    rintro e w' ⟨he, hb⟩
    have n1 := Aside0.mk (Kd.C_below (Kd.C_below HR1.out (by repeat (first | exact Below.refl _ _ | refine below_alloc ?_ _ | refine pw_below_drewN ?_ _ | refine below_drew1 ?_ | refine below_set ?_ (Nat.le_refl _)))) hb); have n2 := Aside0.mk (Kd.C_below (Kd.C_below HR2.out (by repeat (first | exact Below.refl _ _ | refine below_alloc ?_ _ | refine pw_below_drewN ?_ _ | refine below_drew1 ?_ | refine below_set ?_ (Nat.le_refl _)))) hb); have bl := Aside0.mk (Box.keep (by repeat (first | exact Below.refl _ _ | refine below_alloc ?_ _ | refine pw_below_drewN ?_ _ | refine below_drew1 ?_ | refine below_set ?_ (Nat.le_refl _))) hb Bl.out); have nb := Aside0.mk (below_step (below_step HB.out (by repeat (first | exact Below.refl _ _ | refine below_alloc ?_ _ | refine pw_below_drewN ?_ _ | refine below_drew1 ?_ | refine below_set ?_ (Nat.le_refl _)))) hb); clear HB HR1 HR2 Bl; have HB := nb; have HR1 := n1; have HR2 := n2; have Bl := bl; clear nb n1 n2 bl; have nk := Aside0.mk (blk_below (by repeat (first | exact HK.out | refine blk_drewN ?_ _ | refine blk_drew ?_ | refine blk_alloc ?_ _)) hb); clear HK; have HK := nk; clear nk; clear hb
    rw [errW_none] at he; subst he
    have k0 := Bl.out 0 (.slice A1 l1.length c1) rfl; have k1 := Bl.out 1 (.slice A2 l2.length c2) rfl
    have r0 : w'.cell? ⟨w.heap.size + 1, 0, none⟩ = some (.slice none 0 0) := (blk_cell HK.out 0).trans rfl; have r1 : w'.cell? ⟨w.heap.size + 1, 1, none⟩ = some (.slice none 0 0) := (blk_cell HK.out 1).trans rfl; have f0 : w'.frozen? ⟨w.heap.size + 1, 0, none⟩ = false := blk_frozen HK.out 0; have f1 : w'.frozen? ⟨w.heap.size + 1, 1, none⟩ = false := blk_frozen HK.out 1
    go_wp2_with (first | (go_at_call 33; refine stop_ ?_) | (go_at_call 62; refine stop_ ?_))
    go_region_held3 (fun W => W.cell? ⟨w.heap.size, 0, none⟩ = some (.slice A1 l1.length c1) ∧ W.cell? ⟨w.heap.size, 1, none⟩ = some (.slice A2 l2.length c2)) (first | exact ⟨m0, m1⟩ | exact ⟨k0, k1⟩ | go_keep) (first | (go_at_call 62; have _t := tok1; refine (HCL1.out _ (Kd.C_below HR1.out (by repeat (first | exact Below.refl _ _ | refine below_alloc ?_ _ | refine pw_below_drewN ?_ _ | refine below_drew1 ?_ | refine below_set ?_ (Nat.le_refl _))))).mono ?_; rintro e w' ⟨v, rfl, hv, hb⟩; obtain ⟨Av, cv, ev⟩ := Kd.R_slice hv; subst ev; have HV := Aside0.mk (Kd.R_lower hv (Nat.le_trans HB.out.size (show _ ≤ _ from Nat.le_of_eq (by first | rfl | simp)))); have HU2 := Aside0.mk (Kd.R_below (by repeat (first | exact HU.out | refine Kd.R_drewN ?_ _ | refine Kd.R_drew ?_ | refine Kd.R_alloc ?_ _)) hb); clear hv HU; have HU := HU2; clear HU2; have n1 := Aside0.mk (Kd.C_below (Kd.C_below HR1.out (by repeat (first | exact Below.refl _ _ | refine below_alloc ?_ _ | refine pw_below_drewN ?_ _ | refine below_drew1 ?_ | refine below_set ?_ (Nat.le_refl _)))) hb); have n2 := Aside0.mk (Kd.C_below (Kd.C_below HR2.out (by repeat (first | exact Below.refl _ _ | refine below_alloc ?_ _ | refine pw_below_drewN ?_ _ | refine below_drew1 ?_ | refine below_set ?_ (Nat.le_refl _)))) hb); have bl := Aside0.mk (Box.keep (by repeat (first | exact Below.refl _ _ | refine below_alloc ?_ _ | refine pw_below_drewN ?_ _ | refine below_drew1 ?_ | refine below_set ?_ (Nat.le_refl _))) hb Bl.out); have nb := Aside0.mk (below_step (below_step HB.out (by repeat (first | exact Below.refl _ _ | refine below_alloc ?_ _ | refine pw_below_drewN ?_ _ | refine below_drew1 ?_ | refine below_set ?_ (Nat.le_refl _)))) hb); clear HB HR1 HR2 Bl; have HB := nb; have HR1 := n1; have HR2 := n2; have Bl := bl; clear nb n1 n2 bl; have nk := Aside0.mk (blk_below (by repeat (first | exact HK.out | refine blk_drewN ?_ _ | refine blk_drew ?_ | refine blk_alloc ?_ _)) hb); clear HK; have HK := nk; clear nk; have m0 := Bl.out 0 (.slice A1 l1.length c1) rfl; have m1 := Bl.out 1 (.slice A2 l2.length c2) rfl; have r0 : w'.cell? ⟨w.heap.size + 1, 0, none⟩ = some (.slice none 0 0) := (blk_cell HK.out 0).trans rfl; have r1 : w'.cell? ⟨w.heap.size + 1, 1, none⟩ = some (.slice none 0 0) := (blk_cell HK.out 1).trans rfl; have f0 : w'.frozen? ⟨w.heap.size + 1, 0, none⟩ = false := blk_frozen HK.out 0; have f1 : w'.frozen? ⟨w.heap.size + 1, 1, none⟩ = false := blk_frozen HK.out 1; clear hb) | (go_at_call 62; refine (HCL2.out _ (Kd.C_below HR2.out (by repeat (first | exact Below.refl _ _ | refine below_alloc ?_ _ | refine pw_below_drewN ?_ _ | refine below_drew1 ?_ | refine below_set ?_ (Nat.le_refl _))))).mono ?_; rintro e w' ⟨v, rfl, hv, hb⟩; obtain ⟨Au, cu, eu⟩ := Kd.R_slice hv; subst eu; have HU := Aside0.mk (Kd.R_lower hv (Nat.le_trans HB.out.size (show _ ≤ _ from Nat.le_of_eq (by first | rfl | simp)))); clear hv; have tok1 : True := trivial; have n1 := Aside0.mk (Kd.C_below (Kd.C_below HR1.out (by repeat (first | exact Below.refl _ _ | refine below_alloc ?_ _ | refine pw_below_drewN ?_ _ | refine below_drew1 ?_ | refine below_set ?_ (Nat.le_refl _)))) hb); have n2 := Aside0.mk (Kd.C_below (Kd.C_below HR2.out (by repeat (first | exact Below.refl _ _ | refine below_alloc ?_ _ | refine pw_below_drewN ?_ _ | refine below_drew1 ?_ | refine below_set ?_ (Nat.le_refl _)))) hb); have bl := Aside0.mk (Box.keep (by repeat (first | exact Below.refl _ _ | refine below_alloc ?_ _ | refine pw_below_drewN ?_ _ | refine below_drew1 ?_ | refine below_set ?_ (Nat.le_refl _))) hb Bl.out); have nb := Aside0.mk (below_step (below_step HB.out (by repeat (first | exact Below.refl _ _ | refine below_alloc ?_ _ | refine pw_below_drewN ?_ _ | refine below_drew1 ?_ | refine below_set ?_ (Nat.le_refl _)))) hb); clear HB HR1 HR2 Bl; have HB := nb; have HR1 := n1; have HR2 := n2; have Bl := bl; clear nb n1 n2 bl; have nk := Aside0.mk (blk_below (by repeat (first | exact HK.out | refine blk_drewN ?_ _ | refine blk_drew ?_ | refine blk_alloc ?_ _)) hb); clear HK; have HK := nk; clear nk; have m0 := Bl.out 0 (.slice A1 l1.length c1) rfl; have m1 := Bl.out 1 (.slice A2 l2.length c2) rfl; have r0 : w'.cell? ⟨w.heap.size + 1, 0, none⟩ = some (.slice none 0 0) := (blk_cell HK.out 0).trans rfl; have r1 : w'.cell? ⟨w.heap.size + 1, 1, none⟩ = some (.slice none 0 0) := (blk_cell HK.out 1).trans rfl; have f0 : w'.frozen? ⟨w.heap.size + 1, 0, none⟩ = false := blk_frozen HK.out 0; have f1 : w'.frozen? ⟨w.heap.size + 1, 1, none⟩ = false := blk_frozen HK.out 1; clear hb))
    all_goals
      go_wp2
      clear r0 r1 f0 f1
      refine bodyPost_ret (results_ct rfl _ _ (w.heap.size + 1) 69 #[.slice Au l2.length cu, .slice Av l1.length cv] (0, 0) _ rfl (blk_put (cs := #[.slice Au l2.length cu, .slice none 0 0]) (blk_put (cs := #[.slice none 0 0, .slice none 0 0]) (by repeat (first | exact HK.out | refine blk_drewN ?_ _ | refine blk_drew ?_ | refine blk_alloc ?_ _)) 0 _ rfl) 1 _ rfl) Try.underlying69 rfl (by kernel_rfl)) rfl ?_
      exact ⟨_, rfl, ⟨_, _, rfl, Kd.R_set (Kd.R_set (by repeat (first | exact HU.out | refine Kd.R_drewN ?_ _ | refine Kd.R_drew ?_ | refine Kd.R_alloc ?_ _)) HK.out (by decide) 0 _) (blk_put HK.out 0 _ rfl) (by decide) 1 _, Kd.R_set (Kd.R_set (by repeat (first | exact HV.out | refine Kd.R_drewN ?_ _ | refine Kd.R_drew ?_ | refine Kd.R_alloc ?_ _)) HK.out (by decide) 0 _) (blk_put HK.out 0 _ rfl) (by decide) 1 _⟩, below_set (below_set HB.out (Nat.le_succ _)) (Nat.le_succ _)⟩
end Go.Proofs.Ytdjamphmndbmjaa.M

/- A region that draws its order, told operation by operation: what each has made (R x i w: x i is right in the world w), whatever came up before it. -/
namespace Go.Proofs.Ytdjamphmndbmjaa.M
open Go.RowKit Go.Proofs.YtdjamphmndbmjaaW.PrintWords Go.Proofs.YtdjamphmndbmjaaW.PrintLast Go.Proofs.YtdjamphmndbmjaaW.PrintMore
set_option linter.unusedVariables false
set_option linter.unusedSimpArgs false

/-- The slots filled: operation k's slot bears x k. -/
def putAll (a : Act) (x : Nat → Value) : List Oper → Nat → Act
  | [], _ => a
  | o :: os, n => putAll (a.put o.dst (x n)) x os (n + 1)
def upd (x : Nat → Value) (k : Nat) (y : Value) : Nat → Value := fun i => if i = k then y else x i
theorem upd_at (x : Nat → Value) (k : Nat) (y : Value) : upd x k y k = y := if_pos rfl
theorem upd_ne (x : Nat → Value) {k i : Nat} (y : Value) (h : i ≠ k) : upd x k y i = x i := if_neg h
/-- What an operation hangs on. -/
inductive Dep (ops : Array Oper) : Nat → Nat → Prop
  | refl (i : Nat) : Dep ops i i
  | step {i k : Nat} {o : Oper} {e : Edge} : ops[i]? = some o → e ∈ o.after → Region.binds .any e = true → Dep ops e.on k → Dep ops i k
theorem act_put_comm (a : Act) (d e : Option Tmp) (v u : Value) (h : d = none ∨ d ≠ e) : (a.put d v).put e u = (a.put e u).put d v := by
  obtain ⟨t, ds⟩ := a
  cases d with
  | none => rfl
  | some d =>
    cases e with
    | none => rfl
    | some e =>
      have hne : d ≠ e := fun he => by subst he; rcases h with h | h <;> simp at h
      simp only [Act.put]
      rw [Array.setIfInBounds_comm _ _ hne]
theorem act_put_put (a : Act) (d : Option Tmp) (v u : Value) : (a.put d v).put d u = a.put d u := by
  cases d <;> simp [Act.put]
theorem act_put_own (a : Act) (d : Tmp) : a.put (some d) (a.tmps.getD d undef) = a := by
  obtain ⟨t, ds⟩ := a
  simp only [Act.put]
  congr 1
  apply Array.ext_getElem?
  intro i
  rw [Array.getElem?_setIfInBounds]
  by_cases h : d = i
  · subst h
    rw [if_pos rfl]
    split
    · rename_i hi; simp [Array.getD_eq_getD_getElem?, hi]
    · rename_i hi; rw [Array.getElem?_eq_none (by omega)]
  · rw [if_neg h]
theorem putAll_put_out (a : Act) (x : Nat → Value) (os : List Oper) (n : Nat) (d : Option Tmp) (y : Value) (h : ∀ o ∈ os, d = none ∨ d ≠ o.dst) : (putAll a x os n).put d y = putAll (a.put d y) x os n := by
  induction os generalizing a n with
  | nil => rfl
  | cons o os ih =>
    unfold putAll
    rw [ih _ _ (fun o' ho' => h o' (List.mem_cons_of_mem _ ho')), act_put_comm a d o.dst y (x n) (h o List.mem_cons_self)]
theorem putAll_congr (a : Act) {x x' : Nat → Value} (os : List Oper) (n : Nat) (h : ∀ k, n ≤ k → x k = x' k) : putAll a x os n = putAll a x' os n := by
  induction os generalizing a n with
  | nil => rfl
  | cons o os ih =>
    unfold putAll
    rw [h n (Nat.le_refl _), ih _ _ (fun k hk => h k (by omega))]
theorem putAll_at (a : Act) (x : Nat → Value) (os : List Oper) (n i : Nat) (o : Oper) (y : Value) (hn : (os.map (·.dst)).Pairwise fun d e => d = none ∨ d ≠ e) (ho : os[i]? = some o) : (putAll a x os n).put o.dst y = putAll a (upd x (n + i) y) os n := by
  induction os generalizing a n i with
  | nil => simp at ho
  | cons o0 os ih =>
    rw [List.map_cons, List.pairwise_cons] at hn
    cases i with
    | zero =>
      obtain rfl : o0 = o := by simpa using ho
      unfold putAll
      rw [putAll_put_out _ _ _ _ _ _ (fun o' ho' => hn.1 _ (List.mem_map_of_mem ho')), act_put_put]
      show _ = putAll (a.put o0.dst (upd x n y n)) (upd x n y) os (n + 1)
      rw [upd_at]
      exact putAll_congr _ _ _ (fun k hk => (upd_ne x y (by omega)).symm)
    | succ i =>
      unfold putAll
      rw [ih _ _ _ hn.2 (by simpa using ho), upd_ne x y (show n ≠ n + (i + 1) by omega), show n + 1 + i = n + (i + 1) by omega]
theorem putAll_start (a : Act) (os : List Oper) (n : Nat) : ∃ x, putAll a x os n = a := by
  induction os generalizing n with
  | nil => exact ⟨fun _ => undef, rfl⟩
  | cons o os ih =>
    obtain ⟨x, hx⟩ := ih (n + 1)
    cases hd : o.dst with
    | none => exact ⟨x, by unfold putAll; rw [hd]; exact hx⟩
    | some d =>
      refine ⟨upd x n (a.tmps.getD d undef), ?_⟩
      unfold putAll
      rw [upd_at, hd, act_put_own, ← putAll_congr a os (n + 1) (fun k hk => (upd_ne x _ (by omega)).symm)]
      exact hx
theorem putAll_other (a : Act) (x : Nat → Value) (os : List Oper) (n d : Nat) (h : ∀ o ∈ os, o.dst ≠ some d) : (putAll a x os n).tmps.getD d undef = a.tmps.getD d undef := by
  induction os generalizing a n with
  | nil => rfl
  | cons o os ih =>
    unfold putAll
    rw [ih _ _ (fun o' ho' => h o' (List.mem_cons_of_mem _ ho'))]
    have h0 := h o List.mem_cons_self
    cases hd : o.dst with
    | none => rfl
    | some e =>
      have hne : e ≠ d := fun he => h0 (by rw [hd, he])
      simp [Act.put, Array.getD_eq_getD_getElem?, Array.getElem?_setIfInBounds, hne]
theorem act_size (a : Act) (d : Option Tmp) (v : Value) : (a.put d v).tmps.size = a.tmps.size := by cases d <;> simp [Act.put]
theorem putAll_get (a : Act) (x : Nat → Value) (os : List Oper) (n i d : Nat) (o : Oper) (ho : os[i]? = some o) (hd : o.dst = some d) (hs : d < a.tmps.size) (hn : (os.map (·.dst)).Pairwise fun d e => d = none ∨ d ≠ e) : (putAll a x os n).tmps.getD d undef = x (n + i) := by
  induction os generalizing a n i with
  | nil => simp at ho
  | cons o0 os ih =>
    rw [List.map_cons, List.pairwise_cons] at hn
    cases i with
    | zero =>
      obtain rfl : o0 = o := by simpa using ho
      unfold putAll
      rw [putAll_other]
      · rw [hd]
        simp [Act.put, Array.getD_eq_getD_getElem?, hs]
      · intro o' ho' he
        rcases hn.1 _ (List.mem_map_of_mem ho') with h | h
        · rw [hd] at h; cases h
        · exact h (by rw [hd, he])
    | succ i =>
      unfold putAll
      rw [ih _ _ _ (by simpa using ho) (by rw [act_size]; exact hs) hn.2, show n + 1 + i = n + (i + 1) by omega]
def depB (ops : Array Oper) : Nat → Nat → Nat → Bool
  | 0, i, k => i == k
  | n + 1, i, k => i == k || (match ops[i]? with | some o => o.after.any fun e => Region.binds .any e && depB ops n e.on k | none => false)
theorem dep_of {ops : Array Oper} (n : Nat) {i k : Nat} (h : depB ops n i k = true) : Dep ops i k := by
  induction n generalizing i with
  | zero => exact (beq_iff_eq.1 h) ▸ Dep.refl _
  | succ n ih =>
    unfold depB at h
    rcases Bool.or_eq_true_iff.1 h with h | h
    · exact (beq_iff_eq.1 h) ▸ Dep.refl _
    · cases ho : ops[i]? with
      | none => rw [ho] at h; cases h
      | some o =>
        rw [ho] at h
        obtain ⟨q, hq, hb⟩ := Array.any_eq_true.1 h
        obtain ⟨h1, h2⟩ := Bool.and_eq_true_iff.1 hb
        exact Dep.step ho (Array.getElem_mem hq) h1 (ih h2)
/-- J up w: what holds all the way, told which operations have come up. -/
theorem region_J {P : Program} {ops : Array Oper} {Q : Exit → Act → World → Prop} {id : Nat} {a : Act} {w : World} (hm : P.follows .mixedOrders = true) (J : (Nat → Bool) → World → Prop) (R : (Nat → Value) → Nat → World → Prop) (hJ : J (fun _ => false) w.drew)
    (hdst : (ops.toList.map (·.dst)).Pairwise fun d e => d = none ∨ d ≠ e)
    (hup : (List.range ops.size).all (fun i => (ops[i]?.map fun o => o.after.all fun e => !Region.binds .any e || decide (e.on < i)).getD true) = true)
    (hRx : ∀ x y i k w, ¬ Dep ops i k → R x i w → R (upd x k y) i w)
    (hstep : ∀ up x i oi w', ops[i]? = some oi → up i = false → (∀ j, Dep ops j i → up j = false) → J up w' → (∀ e ∈ oi.after, Region.binds .any e = true → up e.on = true ∧ R x e.on w') → ∀ K : Act → World → Prop, Shut (∀ y w'', J (fun j => if j = i then true else up j) w'' → (∀ j, j ≠ i → up j = true → R x j w' → R x j w'') → R (upd x i y) i w'' → K ((putAll a x ops.toList 0).put oi.dst y) w'') →
      if Region.wanted oi (yielded ops (putAll a x ops.toList 0).tmps) = true then Oper.wp P oi (putAll a x ops.toList 0) w' K Q else K ((putAll a x ops.toList 0).put oi.dst undef) w')
    (hend : ∀ up x w', (∀ i, i < ops.size → up i = true) → J up w' → (∀ i, i < ops.size → R x i w') → Q .normal (putAll a x ops.toList 0) w') : (Code.region id ops true).wp P Q a w := by
  refine region_inv hm (fun l a' w' => (l.size = ops.size ∧ J (fun i => l.getD i false) w') ∧ ∃ x, a' = putAll a x ops.toList 0 ∧ ∀ i, l.getD i false = true → R x i w' ∧ ∀ o, ops[i]? = some o → ∀ e ∈ o.after, Region.binds .any e = true → l.getD e.on false = true) ?_ ?_ hup ?_
  · obtain ⟨x, hx⟩ := putAll_start a ops.toList 0
    have hf : (fun i => (Array.replicate ops.size false).getD i false) = fun _ => false := by
      funext i
      simp only [Array.getD_eq_getD_getElem?, Array.getElem?_replicate]
      split <;> rfl
    refine ⟨⟨by simp, by rw [hf]; exact hJ⟩, x, hx.symm, fun i hi => ?_⟩
    have h : (Array.replicate ops.size false).getD i false = false := congrFun hf i
    rw [h] at hi
    cases hi
  · rintro l a' w' i oi ⟨⟨hls, hJ'⟩, x, rfl, hl⟩ hoi hir K hK
    obtain ⟨hun, o', ho', hdeps⟩ := mem_ready.1 hir
    obtain rfl : oi = o' := Option.some.inj (hoi.symm.trans ho')
    have hil : i < l.size := by
      rw [hls]
      exact (Array.getElem?_eq_some_iff.1 hoi).1
    have hclosed : ∀ j k, Dep ops j k → l.getD j false = true → l.getD k false = true := by
      intro j k h
      induction h with
      | refl i => exact fun h => h
      | step h1 h2 h3 _ ih => exact fun hj => ih ((hl _ hj).2 _ h1 _ h2 h3)
    have hset : ∀ j, (l.setIfInBounds i true).getD j false = true → j = i ∨ l.getD j false = true := by
      intro j hj
      by_cases e : i = j
      · exact .inl e.symm
      · right
        simpa [Array.getD_eq_getD_getElem?, Array.getElem?_setIfInBounds, e] using hj
    have hkeep : ∀ j, l.getD j false = true → (l.setIfInBounds i true).getD j false = true := by
      intro j hj
      rcases Nat.lt_or_ge j l.size with hjl | hjl
      · by_cases e : i = j <;> simp [Array.getD_eq_getD_getElem?, Array.getElem?_setIfInBounds, hjl, e] at hj ⊢; exact hj
      · simp [Array.getD_eq_getD_getElem?, Array.getElem?_eq_none hjl] at hj
    have hnot : l.getD i false = true → False := by
      intro h
      simp [Array.getD_eq_getD_getElem?, hil] at h hun
      rw [h] at hun; cases hun
    have hif : (fun j => (l.setIfInBounds i true).getD j false) = fun j => if j = i then true else l.getD j false := by
      funext j
      by_cases e : j = i
      · subst e; simp [Array.getD_eq_getD_getElem?, Array.getElem?_setIfInBounds, hil]
      · have e' : ¬ i = j := fun h => e h.symm
        simp [Array.getD_eq_getD_getElem?, Array.getElem?_setIfInBounds, e, e']
    refine hstep (fun j => l.getD j false) x i oi w' hoi (by
      cases h : l.getD i false with
      | true => exact absurd h hnot
      | false => rfl) (fun j hj => by
      cases h : l.getD j false with
      | true => exact absurd (hclosed j i hj h) hnot
      | false => rfl) hJ' (fun e he hb => ⟨hdeps e he hb, (hl _ (hdeps e he hb)).1⟩) K (fun y w'' hJ2 hothers hnew => ?_)
    refine hK.out _ _ ⟨⟨by rw [Array.size_setIfInBounds]; exact hls, by rw [hif]; exact hJ2⟩, upd x i y, ?_, fun j hj => ?_⟩
    · have := putAll_at a x ops.toList 0 i oi y hdst (by rw [Array.getElem?_toList]; exact hoi)
      rw [Nat.zero_add] at this
      exact this
    · rcases hset j hj with rfl | hjl
      · refine ⟨hnew, fun o ho e he hb => hkeep _ ?_⟩
        obtain rfl : oi = o := Option.some.inj (hoi.symm.trans ho)
        exact hdeps e he hb
      · have hne : j ≠ i := fun e => hnot (e ▸ hjl)
        refine ⟨hRx x y j i w'' (fun hd => hnot (hclosed j i hd hjl)) (hothers j hne hjl (hl j hjl).1), fun o ho e he hb => hkeep _ ((hl j hjl).2 o ho e he hb)⟩
  · rintro l a' w' ⟨⟨hls, hJ'⟩, x, rfl, hl⟩ hall
    exact hend (fun i => l.getD i false) x w' hall hJ' (fun i hi => (hl i (hall i hi)).1)
theorem region_R {P : Program} {ops : Array Oper} {Q : Exit → Act → World → Prop} {id : Nat} {a : Act} {w : World} (hm : P.follows .mixedOrders = true) (J : World → Prop) (R : (Nat → Value) → Nat → World → Prop) (hJ : J w.drew)
    (hdst : (ops.toList.map (·.dst)).Pairwise fun d e => d = none ∨ d ≠ e)
    (hup : (List.range ops.size).all (fun i => (ops[i]?.map fun o => o.after.all fun e => !Region.binds .any e || decide (e.on < i)).getD true) = true)
    (hRx : ∀ x y i k w, ¬ Dep ops i k → R x i w → R (upd x k y) i w)
    (hstep : ∀ x i oi w', ops[i]? = some oi → J w' → (∀ e ∈ oi.after, Region.binds .any e = true → R x e.on w') → ∀ K : Act → World → Prop, Shut (∀ y w'', J w'' → (∀ j, j ≠ i → R x j w' → R x j w'') → R (upd x i y) i w'' → K ((putAll a x ops.toList 0).put oi.dst y) w'') →
      if Region.wanted oi (yielded ops (putAll a x ops.toList 0).tmps) = true then Oper.wp P oi (putAll a x ops.toList 0) w' K Q else K ((putAll a x ops.toList 0).put oi.dst undef) w')
    (hend : ∀ x w', J w' → (∀ i, i < ops.size → R x i w') → Q .normal (putAll a x ops.toList 0) w') : (Code.region id ops true).wp P Q a w :=
  region_J hm (fun _ w => J w) R hJ hdst hup hRx (fun _ x i oi w' hoi _ _ hJ' hdep K hK => hstep x i oi w' hoi hJ' (fun e he hb => (hdep e he hb).2) K (fun y w'' h1 h2 h3 => hK.out y w'' h1 (fun j hj _ hR => h2 j hj hR) h3)) (fun _ x w' _ hJ' hall => hend x w' hJ' hall)
end Go.Proofs.Ytdjamphmndbmjaa.M

/- Package layer: the region of Then that draws its order: six calls, beside an allocation that may come at any time (printed by wip/gen_lay4.py). -/
namespace Go.Proofs.Ytdjamphmndbmjaa.M
open Go.RowKit Go.Proofs.YtdjamphmndbmjaaW.PrintWords Go.Proofs.YtdjamphmndbmjaaW.PrintLast Go.Proofs.YtdjamphmndbmjaaW.PrintMore
set_option linter.unusedVariables false
set_option linter.unusedSimpArgs false

def thenOps : Array Oper := #[{ dst := some 43, op := Op.fieldAddr 69 (Operand.tmp 2) 0, type := 0, pos := "layer.go:74", after := #[], guard := none },
  { dst := some 44, op := Op.load 26 (Operand.tmp 43), type := 26, pos := "layer.go:74", after := #[{ on := 0, ground := Ground.data }], guard := none },
  { dst := some 45, op := Op.fieldAddr 69 (Operand.tmp 3) 1, type := 0, pos := "layer.go:74", after := #[], guard := none },
  { dst := some 46, op := Op.load 26 (Operand.tmp 45), type := 26, pos := "layer.go:74", after := #[{ on := 2, ground := Ground.data }], guard := none },
  { dst := some 47, op := Op.call { callee := Callee.value (Operand.func 49), args := #[Operand.tmp 44, Operand.tmp 46, Operand.const (Value.bool false)], argTypes := #[26, 26, 4] }, type := 26, pos := "layer.go:75", after := #[{ on := 1, ground := Ground.data }, { on := 3, ground := Ground.data }], guard := none },
  { dst := some 48, op := Op.fieldAddr 69 (Operand.tmp 3) 0, type := 0, pos := "layer.go:74", after := #[], guard := none },
  { dst := some 49, op := Op.load 26 (Operand.tmp 48), type := 26, pos := "layer.go:74", after := #[{ on := 5, ground := Ground.data }], guard := none },
  { dst := some 50, op := Op.fieldAddr 69 (Operand.tmp 2) 1, type := 0, pos := "layer.go:74", after := #[], guard := none },
  { dst := some 51, op := Op.load 26 (Operand.tmp 50), type := 26, pos := "layer.go:74", after := #[{ on := 7, ground := Ground.data }], guard := none },
  { dst := some 52, op := Op.call { callee := Callee.value (Operand.func 49), args := #[Operand.tmp 49, Operand.tmp 51, Operand.const (Value.bool false)], argTypes := #[26, 26, 4] }, type := 26, pos := "layer.go:75", after := #[{ on := 6, ground := Ground.data }, { on := 8, ground := Ground.data }, { on := 4, ground := Ground.chain }], guard := none },
  { dst := some 53, op := Op.call { callee := Callee.value (Operand.func 60), args := #[Operand.tmp 47, Operand.tmp 52], argTypes := #[26, 26] }, type := 26, pos := "layer.go:75", after := #[{ on := 4, ground := Ground.data }, { on := 9, ground := Ground.data }, { on := 9, ground := Ground.chain }], guard := none },
  { dst := some 54, op := Op.fieldAddr 69 (Operand.tmp 2) 1, type := 0, pos := "layer.go:74", after := #[], guard := none },
  { dst := some 55, op := Op.load 26 (Operand.tmp 54), type := 26, pos := "layer.go:74", after := #[{ on := 11, ground := Ground.data }], guard := none },
  { dst := some 56, op := Op.fieldAddr 69 (Operand.tmp 3) 0, type := 0, pos := "layer.go:74", after := #[], guard := none },
  { dst := some 57, op := Op.load 26 (Operand.tmp 56), type := 26, pos := "layer.go:74", after := #[{ on := 13, ground := Ground.data }], guard := none },
  { dst := some 58, op := Op.call { callee := Callee.value (Operand.func 49), args := #[Operand.tmp 55, Operand.tmp 57, Operand.const (Value.bool false)], argTypes := #[26, 26, 4] }, type := 26, pos := "layer.go:76", after := #[{ on := 12, ground := Ground.data }, { on := 14, ground := Ground.data }, { on := 10, ground := Ground.chain }], guard := none },
  { dst := some 59, op := Op.fieldAddr 69 (Operand.tmp 3) 1, type := 0, pos := "layer.go:74", after := #[], guard := none },
  { dst := some 60, op := Op.load 26 (Operand.tmp 59), type := 26, pos := "layer.go:74", after := #[{ on := 16, ground := Ground.data }], guard := none },
  { dst := some 61, op := Op.fieldAddr 69 (Operand.tmp 2) 0, type := 0, pos := "layer.go:74", after := #[], guard := none },
  { dst := some 62, op := Op.load 26 (Operand.tmp 61), type := 26, pos := "layer.go:74", after := #[{ on := 18, ground := Ground.data }], guard := none },
  { dst := some 63, op := Op.call { callee := Callee.value (Operand.func 49), args := #[Operand.tmp 60, Operand.tmp 62, Operand.const (Value.bool false)], argTypes := #[26, 26, 4] }, type := 26, pos := "layer.go:76", after := #[{ on := 17, ground := Ground.data }, { on := 19, ground := Ground.data }, { on := 15, ground := Ground.chain }], guard := none },
  { dst := some 64, op := Op.call { callee := Callee.value (Operand.func 60), args := #[Operand.tmp 58, Operand.tmp 63], argTypes := #[26, 26] }, type := 26, pos := "layer.go:76", after := #[{ on := 15, ground := Ground.data }, { on := 20, ground := Ground.data }, { on := 20, ground := Ground.chain }], guard := none },
  { dst := some 65, op := Op.build 69 #[(0, Operand.tmp 53), (1, Operand.tmp 64)], type := 69, pos := "layer.go:74", after := #[{ on := 10, ground := Ground.data }, { on := 21, ground := Ground.data }], guard := none },
  { dst := some 9, op := Op.alloc 69, type := 0, pos := "layer.go:74", after := #[], guard := none },
  { dst := none, op := Op.store 69 (Operand.tmp 9) (Operand.tmp 65), type := 0, pos := "layer.go:74", after := #[{ on := 23, ground := Ground.data }, { on := 22, ground := Ground.data }, { on := 21, ground := Ground.chain }, { on := 0, ground := Ground.phase }, { on := 1, ground := Ground.phase }, { on := 2, ground := Ground.phase }, { on := 3, ground := Ground.phase }, { on := 4, ground := Ground.phase }, { on := 5, ground := Ground.phase }, { on := 6, ground := Ground.phase }, { on := 7, ground := Ground.phase }, { on := 8, ground := Ground.phase }, { on := 9, ground := Ground.phase }, { on := 10, ground := Ground.phase }, { on := 11, ground := Ground.phase }, { on := 12, ground := Ground.phase }, { on := 13, ground := Ground.phase }, { on := 14, ground := Ground.phase }, { on := 15, ground := Ground.phase }, { on := 16, ground := Ground.phase }, { on := 17, ground := Ground.phase }, { on := 18, ground := Ground.phase }, { on := 19, ground := Ground.phase }, { on := 20, ground := Ground.phase }, { on := 21, ground := Ground.phase }, { on := 22, ground := Ground.phase }, { on := 23, ground := Ground.phase }], guard := none }]
theorem then_apart : (thenOps.toList.map (·.dst)).Pairwise fun d e => d = none ∨ d ≠ e := by decide +kernel
theorem then_up : (List.range thenOps.size).all (fun i => (thenOps[i]?.map fun o => o.after.all fun e => !Region.binds .any e || decide (e.on < i)).getD true) = true := by decide +kernel
/-- What each operation of the region has made. -/
def ThenR (g base : Nat) (W : World) (A1 : Option Addr) (c1 : Nat) (l1 : List S41) (A2 : Option Addr) (c2 : Nat) (l2 : List S41) (A3 : Option Addr) (c3 : Nat) (l3 : List S41) (A4 : Option Addr) (c4 : Nat) (l4 : List S41) (X1 X2 XA Y1 Y2 YT : List S41) (x : Nat → Value) (i : Nat) (w : World) : Prop :=
  match i with
  | 0 => x 0 = .pointer (some ⟨g, 0, none⟩)
  | 1 => x 1 = .slice A1 l1.length c1
  | 2 => x 2 = .pointer (some ⟨g + 1, 1, none⟩)
  | 3 => x 3 = .slice A4 l4.length c4
  | 4 => Kd.R k41 41 w base (fun _ => True) (x 4) X1
  | 5 => x 5 = .pointer (some ⟨g + 1, 0, none⟩)
  | 6 => x 6 = .slice A3 l3.length c3
  | 7 => x 7 = .pointer (some ⟨g, 1, none⟩)
  | 8 => x 8 = .slice A2 l2.length c2
  | 9 => Kd.R k41 41 w base (fun _ => True) (x 9) X2
  | 10 => Kd.R k41 41 w base (fun _ => True) (x 10) XA
  | 11 => x 11 = .pointer (some ⟨g, 1, none⟩)
  | 12 => x 12 = .slice A2 l2.length c2
  | 13 => x 13 = .pointer (some ⟨g + 1, 0, none⟩)
  | 14 => x 14 = .slice A3 l3.length c3
  | 15 => Kd.R k41 41 w base (fun _ => True) (x 15) Y1
  | 16 => x 16 = .pointer (some ⟨g + 1, 1, none⟩)
  | 17 => x 17 = .slice A4 l4.length c4
  | 18 => x 18 = .pointer (some ⟨g, 0, none⟩)
  | 19 => x 19 = .slice A1 l1.length c1
  | 20 => Kd.R k41 41 w base (fun _ => True) (x 20) Y2
  | 21 => Kd.R k41 41 w base (fun _ => True) (x 21) YT
  | 22 => x 22 = .agg #[x 10, x 21]
  | 23 => ∃ b cs, x 23 = .pointer (some ⟨b, 0, none⟩) ∧ W.heap.size ≤ b ∧ cs.size = 2 ∧ w.heap[b]? = some (.cells cs 69 (0, 0))
  | 24 => ∃ b, x 23 = .pointer (some ⟨b, 0, none⟩) ∧ x 22 = .agg #[x 10, x 21] ∧ W.heap.size ≤ b ∧ w.heap[b]? = some (.cells #[x 10, x 21] 69 (0, 0))
  | _ => True
theorem then_Rx (g base : Nat) (W : World) (A1 : Option Addr) (c1 : Nat) (l1 : List S41) (A2 : Option Addr) (c2 : Nat) (l2 : List S41) (A3 : Option Addr) (c3 : Nat) (l3 : List S41) (A4 : Option Addr) (c4 : Nat) (l4 : List S41) (X1 X2 XA Y1 Y2 YT : List S41) (x : Nat → Value) (y : Value) (i k : Nat) (w : World) (hd : ¬ Dep thenOps i k) (h : ThenR g base W A1 c1 l1 A2 c2 l2 A3 c3 l3 A4 c4 l4 X1 X2 XA Y1 Y2 YT x i w) : ThenR g base W A1 c1 l1 A2 c2 l2 A3 c3 l3 A4 c4 l4 X1 X2 XA Y1 Y2 YT (upd x k y) i w := by
  have hi : i ≠ k := fun e => hd (e ▸ Dep.refl _)
  rcases i with _ | _ | _ | _ | _ | _ | _ | _ | _ | _ | _ | _ | _ | _ | _ | _ | _ | _ | _ | _ | _ | _ | _ | _ | _ | i
  ·
    have e0 : upd x k y 0 = x 0 := upd_ne x y hi
    unfold ThenR at h ⊢
    simp only [e0]
    exact h
  ·
    have e1 : upd x k y 1 = x 1 := upd_ne x y hi
    unfold ThenR at h ⊢
    simp only [e1]
    exact h
  ·
    have e2 : upd x k y 2 = x 2 := upd_ne x y hi
    unfold ThenR at h ⊢
    simp only [e2]
    exact h
  ·
    have e3 : upd x k y 3 = x 3 := upd_ne x y hi
    unfold ThenR at h ⊢
    simp only [e3]
    exact h
  ·
    have e4 : upd x k y 4 = x 4 := upd_ne x y hi
    unfold ThenR at h ⊢
    simp only [e4]
    exact h
  ·
    have e5 : upd x k y 5 = x 5 := upd_ne x y hi
    unfold ThenR at h ⊢
    simp only [e5]
    exact h
  ·
    have e6 : upd x k y 6 = x 6 := upd_ne x y hi
    unfold ThenR at h ⊢
    simp only [e6]
    exact h
  ·
    have e7 : upd x k y 7 = x 7 := upd_ne x y hi
    unfold ThenR at h ⊢
    simp only [e7]
    exact h
  ·
    have e8 : upd x k y 8 = x 8 := upd_ne x y hi
    unfold ThenR at h ⊢
    simp only [e8]
    exact h
  ·
    have e9 : upd x k y 9 = x 9 := upd_ne x y hi
    unfold ThenR at h ⊢
    simp only [e9]
    exact h
  ·
    have e10 : upd x k y 10 = x 10 := upd_ne x y hi
    unfold ThenR at h ⊢
    simp only [e10]
    exact h
  ·
    have e11 : upd x k y 11 = x 11 := upd_ne x y hi
    unfold ThenR at h ⊢
    simp only [e11]
    exact h
  ·
    have e12 : upd x k y 12 = x 12 := upd_ne x y hi
    unfold ThenR at h ⊢
    simp only [e12]
    exact h
  ·
    have e13 : upd x k y 13 = x 13 := upd_ne x y hi
    unfold ThenR at h ⊢
    simp only [e13]
    exact h
  ·
    have e14 : upd x k y 14 = x 14 := upd_ne x y hi
    unfold ThenR at h ⊢
    simp only [e14]
    exact h
  ·
    have e15 : upd x k y 15 = x 15 := upd_ne x y hi
    unfold ThenR at h ⊢
    simp only [e15]
    exact h
  ·
    have e16 : upd x k y 16 = x 16 := upd_ne x y hi
    unfold ThenR at h ⊢
    simp only [e16]
    exact h
  ·
    have e17 : upd x k y 17 = x 17 := upd_ne x y hi
    unfold ThenR at h ⊢
    simp only [e17]
    exact h
  ·
    have e18 : upd x k y 18 = x 18 := upd_ne x y hi
    unfold ThenR at h ⊢
    simp only [e18]
    exact h
  ·
    have e19 : upd x k y 19 = x 19 := upd_ne x y hi
    unfold ThenR at h ⊢
    simp only [e19]
    exact h
  ·
    have e20 : upd x k y 20 = x 20 := upd_ne x y hi
    unfold ThenR at h ⊢
    simp only [e20]
    exact h
  ·
    have e21 : upd x k y 21 = x 21 := upd_ne x y hi
    unfold ThenR at h ⊢
    simp only [e21]
    exact h
  ·
    have e10 : upd x k y 10 = x 10 := upd_ne x y (fun e => hd (e ▸ Dep.step (e := { on := 10, ground := Ground.data }) (show thenOps[22]? = some _ from rfl) (by simp [thenOps]) rfl (Dep.refl _)))
    have e21 : upd x k y 21 = x 21 := upd_ne x y (fun e => hd (e ▸ Dep.step (e := { on := 21, ground := Ground.data }) (show thenOps[22]? = some _ from rfl) (by simp [thenOps]) rfl (Dep.refl _)))
    have e22 : upd x k y 22 = x 22 := upd_ne x y hi
    unfold ThenR at h ⊢
    simp only [e10, e21, e22]
    exact h
  ·
    have e23 : upd x k y 23 = x 23 := upd_ne x y hi
    unfold ThenR at h ⊢
    simp only [e23]
    exact h
  ·
    have e10 : upd x k y 10 = x 10 := upd_ne x y (fun e => hd (e ▸ Dep.step (e := { on := 22, ground := Ground.data }) (show thenOps[24]? = some _ from rfl) (by simp [thenOps]) rfl (Dep.step (e := { on := 10, ground := Ground.data }) (show thenOps[22]? = some _ from rfl) (by simp [thenOps]) rfl (Dep.refl _))))
    have e21 : upd x k y 21 = x 21 := upd_ne x y (fun e => hd (e ▸ Dep.step (e := { on := 22, ground := Ground.data }) (show thenOps[24]? = some _ from rfl) (by simp [thenOps]) rfl (Dep.step (e := { on := 21, ground := Ground.data }) (show thenOps[22]? = some _ from rfl) (by simp [thenOps]) rfl (Dep.refl _))))
    have e22 : upd x k y 22 = x 22 := upd_ne x y (fun e => hd (e ▸ Dep.step (e := { on := 22, ground := Ground.data }) (show thenOps[24]? = some _ from rfl) (by simp [thenOps]) rfl (Dep.refl _)))
    have e23 : upd x k y 23 = x 23 := upd_ne x y (fun e => hd (e ▸ Dep.step (e := { on := 23, ground := Ground.data }) (show thenOps[24]? = some _ from rfl) (by simp [thenOps]) rfl (Dep.refl _)))
    unfold ThenR at h ⊢
    simp only [e10, e21, e22, e23]
    exact h
  · unfold ThenR; trivial
set_option maxHeartbeats 4000000 in
set_option maxRecDepth 100000 in
theorem then_region (a : Act) (W w0 : World) (g base : Nat) (A1 : Option Addr) (c1 : Nat) (l1 : List S41) (A2 : Option Addr) (c2 : Nat) (l2 : List S41) (A3 : Option Addr) (c3 : Nat) (l3 : List S41) (A4 : Option Addr) (c4 : Nat) (l4 : List S41) (X1 X2 XA Y1 Y2 YT : List S41) (Q : Exit → Act → World → Prop) (hsz : a.tmps.size = 79) (t2 : a.tmps.getD 2 undef = .pointer (some ⟨g, 0, none⟩)) (t3 : a.tmps.getD 3 undef = .pointer (some ⟨g + 1, 0, none⟩)) (hg : base ≤ W.heap.size)
    (h1 : Kd.C k41 W A1 l1.length l1) (hc1 : l1.length ≤ c1) (h2 : Kd.C k41 W A2 l2.length l2) (hc2 : l2.length ≤ c2) (h3 : Kd.C k41 W A3 l3.length l3) (hc3 : l3.length ≤ c3) (h4 : Kd.C k41 W A4 l4.length l4) (hc4 : l4.length ≤ c4)
    (k1 : W.cell? ⟨g, 0, none⟩ = some (.slice A1 l1.length c1)) (k2 : W.cell? ⟨g, 1, none⟩ = some (.slice A2 l2.length c2)) (k3 : W.cell? ⟨g + 1, 0, none⟩ = some (.slice A3 l3.length c3)) (k4 : W.cell? ⟨g + 1, 1, none⟩ = some (.slice A4 l4.length c4))
    (p1 : ∀ W', Kd.C k41 W' A1 l1.length l1 → Kd.C k41 W' A4 l4.length l4 → Calls Try.prog 49 #[.slice A1 l1.length c1, .slice A4 l4.length c4, .bool false] W' fun e w' => ∃ v, e = .returned v ∧ Kd.R k41 41 w' W'.heap.size (fun _ => True) v X1 ∧ Below W'.heap.size W' w')
    (p2 : ∀ W', Kd.C k41 W' A3 l3.length l3 → Kd.C k41 W' A2 l2.length l2 → Calls Try.prog 49 #[.slice A3 l3.length c3, .slice A2 l2.length c2, .bool false] W' fun e w' => ∃ v, e = .returned v ∧ Kd.R k41 41 w' W'.heap.size (fun _ => True) v X2 ∧ Below W'.heap.size W' w')
    (u1 : ∀ W' A c A' c', Kd.C k41 W' A X1.length X1 → X1.length ≤ c → Kd.C k41 W' A' X2.length X2 → X2.length ≤ c' → Calls Try.prog 60 #[.slice A X1.length c, .slice A' X2.length c'] W' fun e w' => ∃ v, e = .returned v ∧ Kd.R k41 41 w' W'.heap.size (fun _ => True) v XA ∧ Below W'.heap.size W' w')
    (p3 : ∀ W', Kd.C k41 W' A2 l2.length l2 → Kd.C k41 W' A3 l3.length l3 → Calls Try.prog 49 #[.slice A2 l2.length c2, .slice A3 l3.length c3, .bool false] W' fun e w' => ∃ v, e = .returned v ∧ Kd.R k41 41 w' W'.heap.size (fun _ => True) v Y1 ∧ Below W'.heap.size W' w')
    (p4 : ∀ W', Kd.C k41 W' A4 l4.length l4 → Kd.C k41 W' A1 l1.length l1 → Calls Try.prog 49 #[.slice A4 l4.length c4, .slice A1 l1.length c1, .bool false] W' fun e w' => ∃ v, e = .returned v ∧ Kd.R k41 41 w' W'.heap.size (fun _ => True) v Y2 ∧ Below W'.heap.size W' w')
    (u2 : ∀ W' A c A' c', Kd.C k41 W' A Y1.length Y1 → Y1.length ≤ c → Kd.C k41 W' A' Y2.length Y2 → Y2.length ≤ c' → Calls Try.prog 60 #[.slice A Y1.length c, .slice A' Y2.length c'] W' fun e w' => ∃ v, e = .returned v ∧ Kd.R k41 41 w' W'.heap.size (fun _ => True) v YT ∧ Below W'.heap.size W' w')
    (hend : ∀ x w' b Au cu Av cv, Below W.heap.size W w' → x 9 = x 9 → x 10 = .slice Au XA.length cu → x 21 = .slice Av YT.length cv → Kd.R k41 41 w' base (fun _ => True) (x 10) XA → Kd.R k41 41 w' base (fun _ => True) (x 21) YT → x 23 = .pointer (some ⟨b, 0, none⟩) → W.heap.size ≤ b → w'.heap[b]? = some (.cells #[x 10, x 21] 69 (0, 0)) → Q .normal (putAll a x thenOps.toList 0) w') :
    (Code.region 10 thenOps true).wp Try.prog Q a W := by
  have mixed : Try.prog.follows .mixedOrders = true := by kernel_rfl
  have hu69 := Try.underlying69
  refine region_R mixed (fun w => Below W.heap.size W w) (ThenR g base W A1 c1 l1 A2 c2 l2 A3 c3 l3 A4 c4 l4 X1 X2 XA Y1 Y2 YT) (below_drew1 (Below.refl _ _)) then_apart then_up (then_Rx g base W A1 c1 l1 A2 c2 l2 A3 c3 l3 A4 c4 l4 X1 X2 XA Y1 Y2 YT) ?_ ?_
  · intro x i oi w' hoi hJ hdep K hK
    have hget := fun (i d : Nat) (o : Oper) (ho : thenOps.toList[i]? = some o) (hd : o.dst = some d) (hs : d < 79) => putAll_get a x thenOps.toList 0 i d o ho hd (hsz ▸ hs) then_apart
    have e2 : (putAll a x thenOps.toList 0).tmps.getD 2 undef = .pointer (some ⟨g, 0, none⟩) := (putAll_other a x thenOps.toList 0 2 (by decide +kernel)).trans t2
    have e3 : (putAll a x thenOps.toList 0).tmps.getD 3 undef = .pointer (some ⟨g + 1, 0, none⟩) := (putAll_other a x thenOps.toList 0 3 (by decide +kernel)).trans t3
    have keep : ∀ w'', Below w'.heap.size w' w'' → ∀ j, ThenR g base W A1 c1 l1 A2 c2 l2 A3 c3 l3 A4 c4 l4 X1 X2 XA Y1 Y2 YT x j w' → ThenR g base W A1 c1 l1 A2 c2 l2 A3 c3 l3 A4 c4 l4 X1 X2 XA Y1 Y2 YT x j w'' := by
      intro w'' hb j hj
      rcases j with _ | _ | _ | _ | _ | _ | _ | _ | _ | _ | _ | _ | _ | _ | _ | _ | _ | _ | _ | _ | _ | _ | _ | _ | _ | j
      · exact hj
      · exact hj
      · exact hj
      · exact hj
      · exact Kd.R_below hj hb
      · exact hj
      · exact hj
      · exact hj
      · exact hj
      · exact Kd.R_below hj hb
      · exact Kd.R_below hj hb
      · exact hj
      · exact hj
      · exact hj
      · exact hj
      · exact Kd.R_below hj hb
      · exact hj
      · exact hj
      · exact hj
      · exact hj
      · exact Kd.R_below hj hb
      · exact Kd.R_below hj hb
      · exact hj
      · obtain ⟨b, cs, q1, q2, q3, q4⟩ := hj
        exact ⟨b, cs, q1, q2, q3, blk_below q4 hb⟩
      · obtain ⟨b, q1, q2, q3, q4⟩ := hj
        exact ⟨b, q1, q2, q3, blk_below q4 hb⟩
      · exact trivial
    have m1 : w'.cell? ⟨g, 0, none⟩ = some (.slice A1 l1.length c1) := (hJ.cell (World.block_lt_of_cell? _ _ k1)).trans k1
    have r1 := Kd.C_below h1 hJ
    have m2 : w'.cell? ⟨g, 1, none⟩ = some (.slice A2 l2.length c2) := (hJ.cell (World.block_lt_of_cell? _ _ k2)).trans k2
    have r2 := Kd.C_below h2 hJ
    have m3 : w'.cell? ⟨g + 1, 0, none⟩ = some (.slice A3 l3.length c3) := (hJ.cell (World.block_lt_of_cell? _ _ k3)).trans k3
    have r3 := Kd.C_below h3 hJ
    have m4 : w'.cell? ⟨g + 1, 1, none⟩ = some (.slice A4 l4.length c4) := (hJ.cell (World.block_lt_of_cell? _ _ k4)).trans k4
    have r4 := Kd.C_below h4 hJ
    rcases i with _ | _ | _ | _ | _ | _ | _ | _ | _ | _ | _ | _ | _ | _ | _ | _ | _ | _ | _ | _ | _ | _ | _ | _ | _ | i
    · injection hoi with hoi; subst hoi
      generalize putAll a x thenOps.toList 0 = A at *
      have hrun : (execOp A.eval { dst := some 43, op := Op.fieldAddr 69 (Operand.tmp 2) 0, type := 0, pos := "layer.go:74", after := #[], guard := none }).run Try.prog w' = .ok (.value (.pointer (some ⟨g, 0, none⟩))) w' := by
        have fa2 : A.tmps.getD 2 undef = .pointer (some ⟨g, 0, none⟩) := e2
        have fb2 : A.tmps[2]?.getD undef = .pointer (some ⟨g, 0, none⟩) := by rw [← Array.getD_eq_getD_getElem?]; exact fa2
        clear hK keep hget hdep e2 e3; go_simp
      exact event_step rfl hrun (hK.out _ _ hJ (fun j _ hj => hj) (upd_at _ _ _))
    · injection hoi with hoi; subst hoi
      have d0 : ThenR g base W A1 c1 l1 A2 c2 l2 A3 c3 l3 A4 c4 l4 X1 X2 XA Y1 Y2 YT x 0 w' := hdep { on := 0, ground := Ground.data } (by simp [thenOps]) rfl
      have e43 : (putAll a x thenOps.toList 0).tmps.getD 43 undef = x 0 := by have h := hget 0 43 _ (show thenOps.toList[0]? = some _ from rfl) rfl (by decide); rw [Nat.zero_add] at h; exact h
      generalize putAll a x thenOps.toList 0 = A at *
      have hrun : (execOp A.eval { dst := some 44, op := Op.load 26 (Operand.tmp 43), type := 26, pos := "layer.go:74", after := #[{ on := 0, ground := Ground.data }], guard := none }).run Try.prog w' = .ok (.value (.slice A1 l1.length c1)) w' := by
        have fa43 : A.tmps.getD 43 undef = .pointer (some ⟨g, 0, none⟩) := e43.trans d0
        have fb43 : A.tmps[43]?.getD undef = .pointer (some ⟨g, 0, none⟩) := by rw [← Array.getD_eq_getD_getElem?]; exact fa43
        clear hK keep hget hdep e2 e3 e43; go_simp
      exact event_step rfl hrun (hK.out _ _ hJ (fun j _ hj => hj) (upd_at _ _ _))
    · injection hoi with hoi; subst hoi
      generalize putAll a x thenOps.toList 0 = A at *
      have hrun : (execOp A.eval { dst := some 45, op := Op.fieldAddr 69 (Operand.tmp 3) 1, type := 0, pos := "layer.go:74", after := #[], guard := none }).run Try.prog w' = .ok (.value (.pointer (some ⟨g + 1, 1, none⟩))) w' := by
        have fa3 : A.tmps.getD 3 undef = .pointer (some ⟨g + 1, 0, none⟩) := e3
        have fb3 : A.tmps[3]?.getD undef = .pointer (some ⟨g + 1, 0, none⟩) := by rw [← Array.getD_eq_getD_getElem?]; exact fa3
        clear hK keep hget hdep e2 e3; go_simp
      exact event_step rfl hrun (hK.out _ _ hJ (fun j _ hj => hj) (upd_at _ _ _))
    · injection hoi with hoi; subst hoi
      have d2 : ThenR g base W A1 c1 l1 A2 c2 l2 A3 c3 l3 A4 c4 l4 X1 X2 XA Y1 Y2 YT x 2 w' := hdep { on := 2, ground := Ground.data } (by simp [thenOps]) rfl
      have e45 : (putAll a x thenOps.toList 0).tmps.getD 45 undef = x 2 := by have h := hget 2 45 _ (show thenOps.toList[2]? = some _ from rfl) rfl (by decide); rw [Nat.zero_add] at h; exact h
      generalize putAll a x thenOps.toList 0 = A at *
      have hrun : (execOp A.eval { dst := some 46, op := Op.load 26 (Operand.tmp 45), type := 26, pos := "layer.go:74", after := #[{ on := 2, ground := Ground.data }], guard := none }).run Try.prog w' = .ok (.value (.slice A4 l4.length c4)) w' := by
        have fa45 : A.tmps.getD 45 undef = .pointer (some ⟨g + 1, 1, none⟩) := e45.trans d2
        have fb45 : A.tmps[45]?.getD undef = .pointer (some ⟨g + 1, 1, none⟩) := by rw [← Array.getD_eq_getD_getElem?]; exact fa45
        clear hK keep hget hdep e2 e3 e45; go_simp
      exact event_step rfl hrun (hK.out _ _ hJ (fun j _ hj => hj) (upd_at _ _ _))
    · injection hoi with hoi; subst hoi
      have d1 : ThenR g base W A1 c1 l1 A2 c2 l2 A3 c3 l3 A4 c4 l4 X1 X2 XA Y1 Y2 YT x 1 w' := hdep { on := 1, ground := Ground.data } (by simp [thenOps]) rfl
      have e44 : (putAll a x thenOps.toList 0).tmps.getD 44 undef = x 1 := by have h := hget 1 44 _ (show thenOps.toList[1]? = some _ from rfl) rfl (by decide); rw [Nat.zero_add] at h; exact h
      have d3 : ThenR g base W A1 c1 l1 A2 c2 l2 A3 c3 l3 A4 c4 l4 X1 X2 XA Y1 Y2 YT x 3 w' := hdep { on := 3, ground := Ground.data } (by simp [thenOps]) rfl
      have e46 : (putAll a x thenOps.toList 0).tmps.getD 46 undef = x 3 := by have h := hget 3 46 _ (show thenOps.toList[3]? = some _ from rfl) rfl (by decide); rw [Nat.zero_add] at h; exact h
      generalize putAll a x thenOps.toList 0 = A at *
      refine goes_ Try.func49 (by kernel_rfl) rfl #[.slice A1 l1.length c1, .slice A4 l4.length c4, .bool false] rfl rfl rfl (by have q1 : A.eval (.tmp 44) = .slice A1 l1.length c1 := e44.trans d1; have q2 : A.eval (.tmp 46) = .slice A4 l4.length c4 := e46.trans d3; simp only [List.map_toArray, List.map_cons, List.map_nil, q1, q2]; rfl) ((p1 w' r1 r4).mono ?_)
      rintro e w'' ⟨v, rfl, hv, hb⟩
      refine ⟨v, rfl, hK.out _ _ (below_step hJ hb) (fun j _ hj => keep _ hb j hj) ?_⟩
      show Kd.R k41 41 w'' base (fun _ => True) (upd x 4 v 4) X1
      rw [upd_at]
      exact Kd.R_lower hv (Nat.le_trans hg hJ.size)
    · injection hoi with hoi; subst hoi
      generalize putAll a x thenOps.toList 0 = A at *
      have hrun : (execOp A.eval { dst := some 48, op := Op.fieldAddr 69 (Operand.tmp 3) 0, type := 0, pos := "layer.go:74", after := #[], guard := none }).run Try.prog w' = .ok (.value (.pointer (some ⟨g + 1, 0, none⟩))) w' := by
        have fa3 : A.tmps.getD 3 undef = .pointer (some ⟨g + 1, 0, none⟩) := e3
        have fb3 : A.tmps[3]?.getD undef = .pointer (some ⟨g + 1, 0, none⟩) := by rw [← Array.getD_eq_getD_getElem?]; exact fa3
        clear hK keep hget hdep e2 e3; go_simp
      exact event_step rfl hrun (hK.out _ _ hJ (fun j _ hj => hj) (upd_at _ _ _))
    · injection hoi with hoi; subst hoi
      have d5 : ThenR g base W A1 c1 l1 A2 c2 l2 A3 c3 l3 A4 c4 l4 X1 X2 XA Y1 Y2 YT x 5 w' := hdep { on := 5, ground := Ground.data } (by simp [thenOps]) rfl
      have e48 : (putAll a x thenOps.toList 0).tmps.getD 48 undef = x 5 := by have h := hget 5 48 _ (show thenOps.toList[5]? = some _ from rfl) rfl (by decide); rw [Nat.zero_add] at h; exact h
      generalize putAll a x thenOps.toList 0 = A at *
      have hrun : (execOp A.eval { dst := some 49, op := Op.load 26 (Operand.tmp 48), type := 26, pos := "layer.go:74", after := #[{ on := 5, ground := Ground.data }], guard := none }).run Try.prog w' = .ok (.value (.slice A3 l3.length c3)) w' := by
        have fa48 : A.tmps.getD 48 undef = .pointer (some ⟨g + 1, 0, none⟩) := e48.trans d5
        have fb48 : A.tmps[48]?.getD undef = .pointer (some ⟨g + 1, 0, none⟩) := by rw [← Array.getD_eq_getD_getElem?]; exact fa48
        clear hK keep hget hdep e2 e3 e48; go_simp
      exact event_step rfl hrun (hK.out _ _ hJ (fun j _ hj => hj) (upd_at _ _ _))
    · injection hoi with hoi; subst hoi
      generalize putAll a x thenOps.toList 0 = A at *
      have hrun : (execOp A.eval { dst := some 50, op := Op.fieldAddr 69 (Operand.tmp 2) 1, type := 0, pos := "layer.go:74", after := #[], guard := none }).run Try.prog w' = .ok (.value (.pointer (some ⟨g, 1, none⟩))) w' := by
        have fa2 : A.tmps.getD 2 undef = .pointer (some ⟨g, 0, none⟩) := e2
        have fb2 : A.tmps[2]?.getD undef = .pointer (some ⟨g, 0, none⟩) := by rw [← Array.getD_eq_getD_getElem?]; exact fa2
        clear hK keep hget hdep e2 e3; go_simp
      exact event_step rfl hrun (hK.out _ _ hJ (fun j _ hj => hj) (upd_at _ _ _))
    · injection hoi with hoi; subst hoi
      have d7 : ThenR g base W A1 c1 l1 A2 c2 l2 A3 c3 l3 A4 c4 l4 X1 X2 XA Y1 Y2 YT x 7 w' := hdep { on := 7, ground := Ground.data } (by simp [thenOps]) rfl
      have e50 : (putAll a x thenOps.toList 0).tmps.getD 50 undef = x 7 := by have h := hget 7 50 _ (show thenOps.toList[7]? = some _ from rfl) rfl (by decide); rw [Nat.zero_add] at h; exact h
      generalize putAll a x thenOps.toList 0 = A at *
      have hrun : (execOp A.eval { dst := some 51, op := Op.load 26 (Operand.tmp 50), type := 26, pos := "layer.go:74", after := #[{ on := 7, ground := Ground.data }], guard := none }).run Try.prog w' = .ok (.value (.slice A2 l2.length c2)) w' := by
        have fa50 : A.tmps.getD 50 undef = .pointer (some ⟨g, 1, none⟩) := e50.trans d7
        have fb50 : A.tmps[50]?.getD undef = .pointer (some ⟨g, 1, none⟩) := by rw [← Array.getD_eq_getD_getElem?]; exact fa50
        clear hK keep hget hdep e2 e3 e50; go_simp
      exact event_step rfl hrun (hK.out _ _ hJ (fun j _ hj => hj) (upd_at _ _ _))
    · injection hoi with hoi; subst hoi
      have d6 : ThenR g base W A1 c1 l1 A2 c2 l2 A3 c3 l3 A4 c4 l4 X1 X2 XA Y1 Y2 YT x 6 w' := hdep { on := 6, ground := Ground.data } (by simp [thenOps]) rfl
      have e49 : (putAll a x thenOps.toList 0).tmps.getD 49 undef = x 6 := by have h := hget 6 49 _ (show thenOps.toList[6]? = some _ from rfl) rfl (by decide); rw [Nat.zero_add] at h; exact h
      have d8 : ThenR g base W A1 c1 l1 A2 c2 l2 A3 c3 l3 A4 c4 l4 X1 X2 XA Y1 Y2 YT x 8 w' := hdep { on := 8, ground := Ground.data } (by simp [thenOps]) rfl
      have e51 : (putAll a x thenOps.toList 0).tmps.getD 51 undef = x 8 := by have h := hget 8 51 _ (show thenOps.toList[8]? = some _ from rfl) rfl (by decide); rw [Nat.zero_add] at h; exact h
      generalize putAll a x thenOps.toList 0 = A at *
      refine goes_ Try.func49 (by kernel_rfl) rfl #[.slice A3 l3.length c3, .slice A2 l2.length c2, .bool false] rfl rfl rfl (by have q1 : A.eval (.tmp 49) = .slice A3 l3.length c3 := e49.trans d6; have q2 : A.eval (.tmp 51) = .slice A2 l2.length c2 := e51.trans d8; simp only [List.map_toArray, List.map_cons, List.map_nil, q1, q2]; rfl) ((p2 w' r3 r2).mono ?_)
      rintro e w'' ⟨v, rfl, hv, hb⟩
      refine ⟨v, rfl, hK.out _ _ (below_step hJ hb) (fun j _ hj => keep _ hb j hj) ?_⟩
      show Kd.R k41 41 w'' base (fun _ => True) (upd x 9 v 9) X2
      rw [upd_at]
      exact Kd.R_lower hv (Nat.le_trans hg hJ.size)
    · injection hoi with hoi; subst hoi
      have d4 : ThenR g base W A1 c1 l1 A2 c2 l2 A3 c3 l3 A4 c4 l4 X1 X2 XA Y1 Y2 YT x 4 w' := hdep { on := 4, ground := Ground.data } (by simp [thenOps]) rfl
      have e47 : (putAll a x thenOps.toList 0).tmps.getD 47 undef = x 4 := by have h := hget 4 47 _ (show thenOps.toList[4]? = some _ from rfl) rfl (by decide); rw [Nat.zero_add] at h; exact h
      have d9 : ThenR g base W A1 c1 l1 A2 c2 l2 A3 c3 l3 A4 c4 l4 X1 X2 XA Y1 Y2 YT x 9 w' := hdep { on := 9, ground := Ground.data } (by simp [thenOps]) rfl
      have e52 : (putAll a x thenOps.toList 0).tmps.getD 52 undef = x 9 := by have h := hget 9 52 _ (show thenOps.toList[9]? = some _ from rfl) rfl (by decide); rw [Nat.zero_add] at h; exact h
      generalize putAll a x thenOps.toList 0 = A at *
      obtain ⟨B1, b1, ex1, C1, n1⟩ := R_row d4
      obtain ⟨B2, b2, ex2, C2, n2⟩ := R_row d9
      refine goes_ Try.func60 (by kernel_rfl) rfl #[.slice B1 X1.length b1, .slice B2 X2.length b2] rfl rfl rfl (by have q1 : A.eval (.tmp 47) = .slice B1 X1.length b1 := e47.trans ex1; have q2 : A.eval (.tmp 52) = .slice B2 X2.length b2 := e52.trans ex2; simp only [List.map_toArray, List.map_cons, List.map_nil, q1, q2]) ((u1 w' B1 b1 B2 b2 C1 n1 C2 n2).mono ?_)
      rintro e w'' ⟨v, rfl, hv, hb⟩
      refine ⟨v, rfl, hK.out _ _ (below_step hJ hb) (fun j _ hj => keep _ hb j hj) ?_⟩
      show Kd.R k41 41 w'' base (fun _ => True) (upd x 10 v 10) XA
      rw [upd_at]
      exact Kd.R_lower hv (Nat.le_trans hg hJ.size)
    · injection hoi with hoi; subst hoi
      generalize putAll a x thenOps.toList 0 = A at *
      have hrun : (execOp A.eval { dst := some 54, op := Op.fieldAddr 69 (Operand.tmp 2) 1, type := 0, pos := "layer.go:74", after := #[], guard := none }).run Try.prog w' = .ok (.value (.pointer (some ⟨g, 1, none⟩))) w' := by
        have fa2 : A.tmps.getD 2 undef = .pointer (some ⟨g, 0, none⟩) := e2
        have fb2 : A.tmps[2]?.getD undef = .pointer (some ⟨g, 0, none⟩) := by rw [← Array.getD_eq_getD_getElem?]; exact fa2
        clear hK keep hget hdep e2 e3; go_simp
      exact event_step rfl hrun (hK.out _ _ hJ (fun j _ hj => hj) (upd_at _ _ _))
    · injection hoi with hoi; subst hoi
      have d11 : ThenR g base W A1 c1 l1 A2 c2 l2 A3 c3 l3 A4 c4 l4 X1 X2 XA Y1 Y2 YT x 11 w' := hdep { on := 11, ground := Ground.data } (by simp [thenOps]) rfl
      have e54 : (putAll a x thenOps.toList 0).tmps.getD 54 undef = x 11 := by have h := hget 11 54 _ (show thenOps.toList[11]? = some _ from rfl) rfl (by decide); rw [Nat.zero_add] at h; exact h
      generalize putAll a x thenOps.toList 0 = A at *
      have hrun : (execOp A.eval { dst := some 55, op := Op.load 26 (Operand.tmp 54), type := 26, pos := "layer.go:74", after := #[{ on := 11, ground := Ground.data }], guard := none }).run Try.prog w' = .ok (.value (.slice A2 l2.length c2)) w' := by
        have fa54 : A.tmps.getD 54 undef = .pointer (some ⟨g, 1, none⟩) := e54.trans d11
        have fb54 : A.tmps[54]?.getD undef = .pointer (some ⟨g, 1, none⟩) := by rw [← Array.getD_eq_getD_getElem?]; exact fa54
        clear hK keep hget hdep e2 e3 e54; go_simp
      exact event_step rfl hrun (hK.out _ _ hJ (fun j _ hj => hj) (upd_at _ _ _))
    · injection hoi with hoi; subst hoi
      generalize putAll a x thenOps.toList 0 = A at *
      have hrun : (execOp A.eval { dst := some 56, op := Op.fieldAddr 69 (Operand.tmp 3) 0, type := 0, pos := "layer.go:74", after := #[], guard := none }).run Try.prog w' = .ok (.value (.pointer (some ⟨g + 1, 0, none⟩))) w' := by
        have fa3 : A.tmps.getD 3 undef = .pointer (some ⟨g + 1, 0, none⟩) := e3
        have fb3 : A.tmps[3]?.getD undef = .pointer (some ⟨g + 1, 0, none⟩) := by rw [← Array.getD_eq_getD_getElem?]; exact fa3
        clear hK keep hget hdep e2 e3; go_simp
      exact event_step rfl hrun (hK.out _ _ hJ (fun j _ hj => hj) (upd_at _ _ _))
    · injection hoi with hoi; subst hoi
      have d13 : ThenR g base W A1 c1 l1 A2 c2 l2 A3 c3 l3 A4 c4 l4 X1 X2 XA Y1 Y2 YT x 13 w' := hdep { on := 13, ground := Ground.data } (by simp [thenOps]) rfl
      have e56 : (putAll a x thenOps.toList 0).tmps.getD 56 undef = x 13 := by have h := hget 13 56 _ (show thenOps.toList[13]? = some _ from rfl) rfl (by decide); rw [Nat.zero_add] at h; exact h
      generalize putAll a x thenOps.toList 0 = A at *
      have hrun : (execOp A.eval { dst := some 57, op := Op.load 26 (Operand.tmp 56), type := 26, pos := "layer.go:74", after := #[{ on := 13, ground := Ground.data }], guard := none }).run Try.prog w' = .ok (.value (.slice A3 l3.length c3)) w' := by
        have fa56 : A.tmps.getD 56 undef = .pointer (some ⟨g + 1, 0, none⟩) := e56.trans d13
        have fb56 : A.tmps[56]?.getD undef = .pointer (some ⟨g + 1, 0, none⟩) := by rw [← Array.getD_eq_getD_getElem?]; exact fa56
        clear hK keep hget hdep e2 e3 e56; go_simp
      exact event_step rfl hrun (hK.out _ _ hJ (fun j _ hj => hj) (upd_at _ _ _))
    · injection hoi with hoi; subst hoi
      have d12 : ThenR g base W A1 c1 l1 A2 c2 l2 A3 c3 l3 A4 c4 l4 X1 X2 XA Y1 Y2 YT x 12 w' := hdep { on := 12, ground := Ground.data } (by simp [thenOps]) rfl
      have e55 : (putAll a x thenOps.toList 0).tmps.getD 55 undef = x 12 := by have h := hget 12 55 _ (show thenOps.toList[12]? = some _ from rfl) rfl (by decide); rw [Nat.zero_add] at h; exact h
      have d14 : ThenR g base W A1 c1 l1 A2 c2 l2 A3 c3 l3 A4 c4 l4 X1 X2 XA Y1 Y2 YT x 14 w' := hdep { on := 14, ground := Ground.data } (by simp [thenOps]) rfl
      have e57 : (putAll a x thenOps.toList 0).tmps.getD 57 undef = x 14 := by have h := hget 14 57 _ (show thenOps.toList[14]? = some _ from rfl) rfl (by decide); rw [Nat.zero_add] at h; exact h
      generalize putAll a x thenOps.toList 0 = A at *
      refine goes_ Try.func49 (by kernel_rfl) rfl #[.slice A2 l2.length c2, .slice A3 l3.length c3, .bool false] rfl rfl rfl (by have q1 : A.eval (.tmp 55) = .slice A2 l2.length c2 := e55.trans d12; have q2 : A.eval (.tmp 57) = .slice A3 l3.length c3 := e57.trans d14; simp only [List.map_toArray, List.map_cons, List.map_nil, q1, q2]; rfl) ((p3 w' r2 r3).mono ?_)
      rintro e w'' ⟨v, rfl, hv, hb⟩
      refine ⟨v, rfl, hK.out _ _ (below_step hJ hb) (fun j _ hj => keep _ hb j hj) ?_⟩
      show Kd.R k41 41 w'' base (fun _ => True) (upd x 15 v 15) Y1
      rw [upd_at]
      exact Kd.R_lower hv (Nat.le_trans hg hJ.size)
    · injection hoi with hoi; subst hoi
      generalize putAll a x thenOps.toList 0 = A at *
      have hrun : (execOp A.eval { dst := some 59, op := Op.fieldAddr 69 (Operand.tmp 3) 1, type := 0, pos := "layer.go:74", after := #[], guard := none }).run Try.prog w' = .ok (.value (.pointer (some ⟨g + 1, 1, none⟩))) w' := by
        have fa3 : A.tmps.getD 3 undef = .pointer (some ⟨g + 1, 0, none⟩) := e3
        have fb3 : A.tmps[3]?.getD undef = .pointer (some ⟨g + 1, 0, none⟩) := by rw [← Array.getD_eq_getD_getElem?]; exact fa3
        clear hK keep hget hdep e2 e3; go_simp
      exact event_step rfl hrun (hK.out _ _ hJ (fun j _ hj => hj) (upd_at _ _ _))
    · injection hoi with hoi; subst hoi
      have d16 : ThenR g base W A1 c1 l1 A2 c2 l2 A3 c3 l3 A4 c4 l4 X1 X2 XA Y1 Y2 YT x 16 w' := hdep { on := 16, ground := Ground.data } (by simp [thenOps]) rfl
      have e59 : (putAll a x thenOps.toList 0).tmps.getD 59 undef = x 16 := by have h := hget 16 59 _ (show thenOps.toList[16]? = some _ from rfl) rfl (by decide); rw [Nat.zero_add] at h; exact h
      generalize putAll a x thenOps.toList 0 = A at *
      have hrun : (execOp A.eval { dst := some 60, op := Op.load 26 (Operand.tmp 59), type := 26, pos := "layer.go:74", after := #[{ on := 16, ground := Ground.data }], guard := none }).run Try.prog w' = .ok (.value (.slice A4 l4.length c4)) w' := by
        have fa59 : A.tmps.getD 59 undef = .pointer (some ⟨g + 1, 1, none⟩) := e59.trans d16
        have fb59 : A.tmps[59]?.getD undef = .pointer (some ⟨g + 1, 1, none⟩) := by rw [← Array.getD_eq_getD_getElem?]; exact fa59
        clear hK keep hget hdep e2 e3 e59; go_simp
      exact event_step rfl hrun (hK.out _ _ hJ (fun j _ hj => hj) (upd_at _ _ _))
    · injection hoi with hoi; subst hoi
      generalize putAll a x thenOps.toList 0 = A at *
      have hrun : (execOp A.eval { dst := some 61, op := Op.fieldAddr 69 (Operand.tmp 2) 0, type := 0, pos := "layer.go:74", after := #[], guard := none }).run Try.prog w' = .ok (.value (.pointer (some ⟨g, 0, none⟩))) w' := by
        have fa2 : A.tmps.getD 2 undef = .pointer (some ⟨g, 0, none⟩) := e2
        have fb2 : A.tmps[2]?.getD undef = .pointer (some ⟨g, 0, none⟩) := by rw [← Array.getD_eq_getD_getElem?]; exact fa2
        clear hK keep hget hdep e2 e3; go_simp
      exact event_step rfl hrun (hK.out _ _ hJ (fun j _ hj => hj) (upd_at _ _ _))
    · injection hoi with hoi; subst hoi
      have d18 : ThenR g base W A1 c1 l1 A2 c2 l2 A3 c3 l3 A4 c4 l4 X1 X2 XA Y1 Y2 YT x 18 w' := hdep { on := 18, ground := Ground.data } (by simp [thenOps]) rfl
      have e61 : (putAll a x thenOps.toList 0).tmps.getD 61 undef = x 18 := by have h := hget 18 61 _ (show thenOps.toList[18]? = some _ from rfl) rfl (by decide); rw [Nat.zero_add] at h; exact h
      generalize putAll a x thenOps.toList 0 = A at *
      have hrun : (execOp A.eval { dst := some 62, op := Op.load 26 (Operand.tmp 61), type := 26, pos := "layer.go:74", after := #[{ on := 18, ground := Ground.data }], guard := none }).run Try.prog w' = .ok (.value (.slice A1 l1.length c1)) w' := by
        have fa61 : A.tmps.getD 61 undef = .pointer (some ⟨g, 0, none⟩) := e61.trans d18
        have fb61 : A.tmps[61]?.getD undef = .pointer (some ⟨g, 0, none⟩) := by rw [← Array.getD_eq_getD_getElem?]; exact fa61
        clear hK keep hget hdep e2 e3 e61; go_simp
      exact event_step rfl hrun (hK.out _ _ hJ (fun j _ hj => hj) (upd_at _ _ _))
    · injection hoi with hoi; subst hoi
      have d17 : ThenR g base W A1 c1 l1 A2 c2 l2 A3 c3 l3 A4 c4 l4 X1 X2 XA Y1 Y2 YT x 17 w' := hdep { on := 17, ground := Ground.data } (by simp [thenOps]) rfl
      have e60 : (putAll a x thenOps.toList 0).tmps.getD 60 undef = x 17 := by have h := hget 17 60 _ (show thenOps.toList[17]? = some _ from rfl) rfl (by decide); rw [Nat.zero_add] at h; exact h
      have d19 : ThenR g base W A1 c1 l1 A2 c2 l2 A3 c3 l3 A4 c4 l4 X1 X2 XA Y1 Y2 YT x 19 w' := hdep { on := 19, ground := Ground.data } (by simp [thenOps]) rfl
      have e62 : (putAll a x thenOps.toList 0).tmps.getD 62 undef = x 19 := by have h := hget 19 62 _ (show thenOps.toList[19]? = some _ from rfl) rfl (by decide); rw [Nat.zero_add] at h; exact h
      generalize putAll a x thenOps.toList 0 = A at *
      refine goes_ Try.func49 (by kernel_rfl) rfl #[.slice A4 l4.length c4, .slice A1 l1.length c1, .bool false] rfl rfl rfl (by have q1 : A.eval (.tmp 60) = .slice A4 l4.length c4 := e60.trans d17; have q2 : A.eval (.tmp 62) = .slice A1 l1.length c1 := e62.trans d19; simp only [List.map_toArray, List.map_cons, List.map_nil, q1, q2]; rfl) ((p4 w' r4 r1).mono ?_)
      rintro e w'' ⟨v, rfl, hv, hb⟩
      refine ⟨v, rfl, hK.out _ _ (below_step hJ hb) (fun j _ hj => keep _ hb j hj) ?_⟩
      show Kd.R k41 41 w'' base (fun _ => True) (upd x 20 v 20) Y2
      rw [upd_at]
      exact Kd.R_lower hv (Nat.le_trans hg hJ.size)
    · injection hoi with hoi; subst hoi
      have d15 : ThenR g base W A1 c1 l1 A2 c2 l2 A3 c3 l3 A4 c4 l4 X1 X2 XA Y1 Y2 YT x 15 w' := hdep { on := 15, ground := Ground.data } (by simp [thenOps]) rfl
      have e58 : (putAll a x thenOps.toList 0).tmps.getD 58 undef = x 15 := by have h := hget 15 58 _ (show thenOps.toList[15]? = some _ from rfl) rfl (by decide); rw [Nat.zero_add] at h; exact h
      have d20 : ThenR g base W A1 c1 l1 A2 c2 l2 A3 c3 l3 A4 c4 l4 X1 X2 XA Y1 Y2 YT x 20 w' := hdep { on := 20, ground := Ground.data } (by simp [thenOps]) rfl
      have e63 : (putAll a x thenOps.toList 0).tmps.getD 63 undef = x 20 := by have h := hget 20 63 _ (show thenOps.toList[20]? = some _ from rfl) rfl (by decide); rw [Nat.zero_add] at h; exact h
      generalize putAll a x thenOps.toList 0 = A at *
      obtain ⟨B1, b1, ex1, C1, n1⟩ := R_row d15
      obtain ⟨B2, b2, ex2, C2, n2⟩ := R_row d20
      refine goes_ Try.func60 (by kernel_rfl) rfl #[.slice B1 Y1.length b1, .slice B2 Y2.length b2] rfl rfl rfl (by have q1 : A.eval (.tmp 58) = .slice B1 Y1.length b1 := e58.trans ex1; have q2 : A.eval (.tmp 63) = .slice B2 Y2.length b2 := e63.trans ex2; simp only [List.map_toArray, List.map_cons, List.map_nil, q1, q2]) ((u2 w' B1 b1 B2 b2 C1 n1 C2 n2).mono ?_)
      rintro e w'' ⟨v, rfl, hv, hb⟩
      refine ⟨v, rfl, hK.out _ _ (below_step hJ hb) (fun j _ hj => keep _ hb j hj) ?_⟩
      show Kd.R k41 41 w'' base (fun _ => True) (upd x 21 v 21) YT
      rw [upd_at]
      exact Kd.R_lower hv (Nat.le_trans hg hJ.size)
    · injection hoi with hoi; subst hoi
      have d10 : ThenR g base W A1 c1 l1 A2 c2 l2 A3 c3 l3 A4 c4 l4 X1 X2 XA Y1 Y2 YT x 10 w' := hdep { on := 10, ground := Ground.data } (by simp [thenOps]) rfl
      have e53 : (putAll a x thenOps.toList 0).tmps.getD 53 undef = x 10 := by have h := hget 10 53 _ (show thenOps.toList[10]? = some _ from rfl) rfl (by decide); rw [Nat.zero_add] at h; exact h
      have d21 : ThenR g base W A1 c1 l1 A2 c2 l2 A3 c3 l3 A4 c4 l4 X1 X2 XA Y1 Y2 YT x 21 w' := hdep { on := 21, ground := Ground.data } (by simp [thenOps]) rfl
      have e64 : (putAll a x thenOps.toList 0).tmps.getD 64 undef = x 21 := by have h := hget 21 64 _ (show thenOps.toList[21]? = some _ from rfl) rfl (by decide); rw [Nat.zero_add] at h; exact h
      generalize putAll a x thenOps.toList 0 = A at *
      obtain ⟨Au, cu, eu⟩ := Kd.R_slice d10; obtain ⟨Av, cv, ev⟩ := Kd.R_slice d21
      have hrun : (execOp A.eval { dst := some 65, op := Op.build 69 #[(0, Operand.tmp 53), (1, Operand.tmp 64)], type := 69, pos := "layer.go:74", after := #[{ on := 10, ground := Ground.data }, { on := 21, ground := Ground.data }], guard := none }).run Try.prog w' = .ok (.value (.agg #[x 10, x 21])) w' := by
        have fa53 : A.tmps.getD 53 undef = .slice Au XA.length cu := e53.trans eu
        have fb53 : A.tmps[53]?.getD undef = .slice Au XA.length cu := by rw [← Array.getD_eq_getD_getElem?]; exact fa53
        have fa64 : A.tmps.getD 64 undef = .slice Av YT.length cv := e64.trans ev
        have fb64 : A.tmps[64]?.getD undef = .slice Av YT.length cv := by rw [← Array.getD_eq_getD_getElem?]; exact fa64
        rw [eu, ev]
        clear hK keep hget hdep e2 e3 e53 e64 eu ev; go_simp
      refine event_step rfl hrun (hK.out _ _ hJ (fun j _ hj => hj) ?_)
      show upd x 22 _ 22 = .agg #[upd x 22 _ 10, upd x 22 _ 21]
      rw [upd_at, upd_ne x _ (show (10 : Nat) ≠ 22 by decide), upd_ne x _ (show (21 : Nat) ≠ 22 by decide)]
    · injection hoi with hoi; subst hoi
      generalize putAll a x thenOps.toList 0 = A at *
      have hrun : (execOp A.eval { dst := some 9, op := Op.alloc 69, type := 0, pos := "layer.go:74", after := #[], guard := none }).run Try.prog w' = .ok (.value (.pointer (some ⟨w'.heap.size, 0, none⟩))) (w'.alloc (.cells #[.slice none 0 0, .slice none 0 0] 69 (0, 0))) := by
        clear hK keep hget hdep; go_simp
      refine event_step rfl hrun (hK.out _ _ (below_alloc hJ _) (fun j _ hj => keep _ (below_alloc (Below.refl _ _) _) j hj) ?_)
      exact ⟨w'.heap.size, _, upd_at _ _ _, hJ.size, rfl, blk_new _ _⟩
    · injection hoi with hoi; subst hoi
      have d23 : ThenR g base W A1 c1 l1 A2 c2 l2 A3 c3 l3 A4 c4 l4 X1 X2 XA Y1 Y2 YT x 23 w' := hdep { on := 23, ground := Ground.data } (by simp [thenOps]) rfl
      have e9 : (putAll a x thenOps.toList 0).tmps.getD 9 undef = x 23 := by have h := hget 23 9 _ (show thenOps.toList[23]? = some _ from rfl) rfl (by decide); rw [Nat.zero_add] at h; exact h
      have d22 : ThenR g base W A1 c1 l1 A2 c2 l2 A3 c3 l3 A4 c4 l4 X1 X2 XA Y1 Y2 YT x 22 w' := hdep { on := 22, ground := Ground.data } (by simp [thenOps]) rfl
      have e65 : (putAll a x thenOps.toList 0).tmps.getD 65 undef = x 22 := by have h := hget 22 65 _ (show thenOps.toList[22]? = some _ from rfl) rfl (by decide); rw [Nat.zero_add] at h; exact h
      generalize putAll a x thenOps.toList 0 = A at *
      obtain ⟨b, cs, x23, hWb, hcs, hbk⟩ := d23
      have x22 : x 22 = .agg #[x 10, x 21] := d22
      have D10 : ThenR g base W A1 c1 l1 A2 c2 l2 A3 c3 l3 A4 c4 l4 X1 X2 XA Y1 Y2 YT x 10 w' := hdep { on := 10, ground := Ground.phase } (by simp [thenOps]) rfl
      have D21 : ThenR g base W A1 c1 l1 A2 c2 l2 A3 c3 l3 A4 c4 l4 X1 X2 XA Y1 Y2 YT x 21 w' := hdep { on := 21, ground := Ground.phase } (by simp [thenOps]) rfl
      obtain ⟨Au, cu, eu⟩ := Kd.R_slice D10; obtain ⟨Av, cv, ev⟩ := Kd.R_slice D21
      obtain ⟨y0, y1, rfl⟩ : ∃ y0 y1, cs = #[y0, y1] := by
        obtain ⟨cs⟩ := cs
        match cs, hcs with
        | [y0, y1], _ => exact ⟨y0, y1, rfl⟩
      have k0 : w'.cell? ⟨b, 0, none⟩ = some y0 := (blk_cell hbk 0).trans rfl; have k1' : w'.cell? ⟨b, 1, none⟩ = some y1 := (blk_cell hbk 1).trans rfl; have f0 : w'.frozen? ⟨b, 0, none⟩ = false := blk_frozen hbk 0; have f1 : w'.frozen? ⟨b, 1, none⟩ = false := blk_frozen hbk 1
      have hrun : (execOp A.eval { dst := none, op := Op.store 69 (Operand.tmp 9) (Operand.tmp 65), type := 0, pos := "layer.go:74", after := #[{ on := 23, ground := Ground.data }, { on := 22, ground := Ground.data }, { on := 21, ground := Ground.chain }, { on := 0, ground := Ground.phase }, { on := 1, ground := Ground.phase }, { on := 2, ground := Ground.phase }, { on := 3, ground := Ground.phase }, { on := 4, ground := Ground.phase }, { on := 5, ground := Ground.phase }, { on := 6, ground := Ground.phase }, { on := 7, ground := Ground.phase }, { on := 8, ground := Ground.phase }, { on := 9, ground := Ground.phase }, { on := 10, ground := Ground.phase }, { on := 11, ground := Ground.phase }, { on := 12, ground := Ground.phase }, { on := 13, ground := Ground.phase }, { on := 14, ground := Ground.phase }, { on := 15, ground := Ground.phase }, { on := 16, ground := Ground.phase }, { on := 17, ground := Ground.phase }, { on := 18, ground := Ground.phase }, { on := 19, ground := Ground.phase }, { on := 20, ground := Ground.phase }, { on := 21, ground := Ground.phase }, { on := 22, ground := Ground.phase }, { on := 23, ground := Ground.phase }], guard := none }).run Try.prog w' = .ok .skip ((w'.setCell ⟨b, 0, none⟩ (x 10)).setCell ⟨b, 1, none⟩ (x 21)) := by
        have fa9 : A.tmps.getD 9 undef = .pointer (some ⟨b, 0, none⟩) := e9.trans x23
        have fb9 : A.tmps[9]?.getD undef = .pointer (some ⟨b, 0, none⟩) := by rw [← Array.getD_eq_getD_getElem?]; exact fa9
        have fa65 : A.tmps.getD 65 undef = .agg #[.slice Au XA.length cu, .slice Av YT.length cv] := (by rw [← eu, ← ev]; exact e65.trans x22)
        have fb65 : A.tmps[65]?.getD undef = .agg #[.slice Au XA.length cu, .slice Av YT.length cv] := by rw [← Array.getD_eq_getD_getElem?]; exact fa65
        rw [eu, ev]
        clear hK keep hget hdep m1 m2 m3 m4 e2 e3 e9 e65 eu ev x22 x23; go_simp
      refine skip_step rfl hrun (hK.out _ _ (below_set (below_set hJ hWb) hWb) (fun j hj24 hj => ?_) ?_)
      · rcases j with _ | _ | _ | _ | _ | _ | _ | _ | _ | _ | _ | _ | _ | _ | _ | _ | _ | _ | _ | _ | _ | _ | _ | _ | _ | j
        · exact hj
        · exact hj
        · exact hj
        · exact hj
        · exact Kd.R_set (Kd.R_set hj hbk (by decide) 0 _) (blk_put hbk 0 _ rfl) (by decide) 1 _
        · exact hj
        · exact hj
        · exact hj
        · exact hj
        · exact Kd.R_set (Kd.R_set hj hbk (by decide) 0 _) (blk_put hbk 0 _ rfl) (by decide) 1 _
        · exact Kd.R_set (Kd.R_set hj hbk (by decide) 0 _) (blk_put hbk 0 _ rfl) (by decide) 1 _
        · exact hj
        · exact hj
        · exact hj
        · exact hj
        · exact Kd.R_set (Kd.R_set hj hbk (by decide) 0 _) (blk_put hbk 0 _ rfl) (by decide) 1 _
        · exact hj
        · exact hj
        · exact hj
        · exact hj
        · exact Kd.R_set (Kd.R_set hj hbk (by decide) 0 _) (blk_put hbk 0 _ rfl) (by decide) 1 _
        · exact Kd.R_set (Kd.R_set hj hbk (by decide) 0 _) (blk_put hbk 0 _ rfl) (by decide) 1 _
        · exact hj
        · exact ⟨b, _, x23, hWb, rfl, blk_put (blk_put hbk 0 _ rfl) 1 _ rfl⟩
        · exact absurd rfl hj24
        · exact trivial
      · refine ⟨b, ?_, ?_, hWb, ?_⟩
        · rw [upd_ne x _ (show (23 : Nat) ≠ 24 by decide)]; exact x23
        · rw [upd_ne x _ (show (22 : Nat) ≠ 24 by decide), upd_ne x _ (show (10 : Nat) ≠ 24 by decide), upd_ne x _ (show (21 : Nat) ≠ 24 by decide)]; exact x22
        · rw [upd_ne x _ (show (10 : Nat) ≠ 24 by decide), upd_ne x _ (show (21 : Nat) ≠ 24 by decide)]; exact blk_put (blk_put hbk 0 _ rfl) 1 _ rfl
    · cases hoi
  · intro x w' hJ hall
    have d10 : Kd.R k41 41 w' base (fun _ => True) (x 10) XA := hall 10 (by decide +kernel)
    have d21 : Kd.R k41 41 w' base (fun _ => True) (x 21) YT := hall 21 (by decide +kernel)
    obtain ⟨b, x23, x22, hWb, hbk⟩ := hall 24 (by decide +kernel)
    obtain ⟨Au, cu, eu⟩ := Kd.R_slice d10; obtain ⟨Av, cv, ev⟩ := Kd.R_slice d21
    exact hend x w' b Au cu Av cv hJ rfl eu ev d10 d21 x23 hWb hbk
end Go.Proofs.Ytdjamphmndbmjaa.M
