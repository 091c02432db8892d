/- slices.Grow of nil and slices.Concat of two, at []api.Triple. By hand. -/
import Derived.Test.YtdjamphmndbmjaaXdel
namespace Go.Proofs.Ytdjamphmndbmjaa.M
open Go.RowKit Go.Proofs.YtdjamphmndbmjaaW.PrintWords Go.Proofs.YtdjamphmndbmjaaW.PrintLast Go.Proofs.YtdjamphmndbmjaaW.PrintMore
set_option linter.unusedVariables false
set_option linter.unusedSimpArgs false

theorem append_event {P : Program} {ops : Array Oper} {rest : List Oper} {o : Oper} {a : Act} {Q : Exit → Act → World → Prop} {W w1 : World} (hgd : o.guard = none) (s x : Operand) (t t' : TypeId)
    (ho : o.op = .call { callee := .builtin .append, args := #[s, x], argTypes := #[t, t'] }) (vs vx v : Value) (hs : a.eval s = vs) (hx : a.eval x = vx) (hr : (Builtin.append_ #[t, t'] o.type #[vs, vx]).run P W = .ok v w1)
    (h : wpList P ops Q rest (a.put o.dst v) w1) : wpList P ops Q (o :: rest) a W := by
  refine wpList_plain hgd fun K hK => ?_
  unfold Oper.wp execOp
  simp only [ho, resolve, invoke, builtin, Sem.run_bind, Sem.run_pure, Result.andThen_ok, List.map_toArray, List.map_cons, List.map_nil, hs, hx, hr]
  exact hK _ _ h
theorem R_of_empty {w : World} {base g m c : Nat} {xs : List Value} (h : w.ownsRow base 41 9 (.slice (some ⟨g, 0, none⟩) m c) m xs) : Kd.R k41 41 w base (fun _ => True) (.slice (some ⟨g, 0, none⟩) 0 c) ([] : List S41) := by
  rcases h.2 with ⟨hv, _⟩ | ⟨g', cap, cur, hv, hb, hh, hnc, hcm, hcs, htk⟩
  · cases hv
  · injection hv with ha hn hc
    injection ha with ha
    injection ha with hg
    subst hg; subst hc
    exact ⟨fun _ _ => trivial, [], ⟨rfl, .inr ⟨g, c, cur, rfl, hb, hh, Nat.zero_le _, hcm, hcs, by simp⟩⟩, Reps.none _ _⟩
theorem zeros_one : ∀ j : Nat, Value.oneCell' ((Value.agg #[(.int .i64 0), (.string ⟨#[]⟩), (.string ⟨#[]⟩), (.int .i64 0), (.string ⟨#[]⟩), (.string ⟨#[]⟩), (.int .i64 0), (.string ⟨#[]⟩), (.string ⟨#[]⟩)]).cells[j]!) = true := by
  intro j
  rcases j with _ | _ | _ | _ | _ | _ | _ | _ | _ | j <;> rfl
set_option maxHeartbeats 4000000 in
set_option maxRecDepth 100000 in
theorem grow_calls (m : Nat) (w : World) (hm : m * 120 ≤ 140737488355328) :
    Calls Try.prog 100 #[.slice none 0 0, .int .i64 m] w fun e w' => (∃ v, e = .returned v ∧ Kd.R k41 41 w' w.heap.size (fun _ => True) v ([] : List S41)) ∧ Below w.heap.size w w' := by
  have h0 : ¬ (m : Int) < 0 := by omega
  rcases Nat.eq_zero_or_pos m with hz | hp
  · subst hz
    go_enter Try.func100, Try.ntmps100
    go_wp2
    go_ret
    exact ⟨⟨_, rfl, Kd.R_nil _ _ _ _ _⟩, Below.refl _ _⟩
  · have hpz : (m : Int) > 0 := by omega
    obtain ⟨i, hi, hz⟩ := Option.map_eq_some_iff.1 xinfoT
    have hz0 := congrArg Prod.fst hz
    have hz1 := congrArg (fun q => q.2.1) hz
    have hz2 := congrArg (fun q => q.2.2) hz
    obtain ⟨v', w', hrun, hown, hg, hat⟩ := run_append_zeros (P := Try.prog) w w.heap.size 26 3 26 41 i _ 9 120 Try.underlying26 Try.underlying3 hi hz0 hz1 hz2 rfl (by decide) (by decide) (.slice none 0 0) 0 [] ⟨rfl, .inl ⟨rfl, rfl⟩⟩ .i64 m (by
      intro u hu
      simp only [Builtin.zeroCells, Array.toList_map, List.mem_map] at hu
      obtain ⟨q, _, rfl⟩ := hu
      exact zeros_one _) (by omega) (Nat.le_refl _)
    obtain ⟨g, c, rfl⟩ : ∃ g c, v' = .slice (some ⟨g, 0, none⟩) m c := by
      rcases hown.2 with ⟨hv, h0⟩ | ⟨g', cap, cur, hv, _⟩
      · omega
      · exact ⟨g', cap, by rw [hv]; simp⟩
    have HRUN := Aside0.mk hrun
    rw [Nat.zero_add] at hown
    have HO := Aside0.mk (R_of_empty hown)
    have HB := Aside0.mk (Below.grown (Below.refl w.heap.size w) hg (Nat.le_refl _) (by simp [Value.ownBlock]))
    clear hrun hown hg hat hz hz0 hz1 hz2 hi
    go_enter Try.func100, Try.ntmps100
    go_wp2_with ((with_reducible refine gate_builtin (b := .append) (xs := #[.tmp 20, .tmp 21]) rfl ?_); at_builtin; refine append_event rfl (.tmp 20) (.tmp 21) 26 3 rfl (.slice none 0 0) (.int .i64 m) _ rfl rfl HRUN.out ?_)
    go_ret
    exact ⟨⟨_, rfl, HO.out⟩, HB.out⟩

set_option maxHeartbeats 8000000 in
set_option maxRecDepth 100000 in
theorem concat_calls (g0 : Nat) (A0 A1 : Option Addr) (c0 c1 : Nat) (l0 l1 : List S41) (w : World) (h0 : w.cell? ⟨g0, 0, none⟩ = some (.slice A0 l0.length c0)) (h1 : w.cell? ⟨g0, 1, none⟩ = some (.slice A1 l1.length c1))
    (hr0 : Kd.C k41 w A0 l0.length l0) (hr1 : Kd.C k41 w A1 l1.length l1) (hc0 : l0.length ≤ c0) (hc1 : l1.length ≤ c1) (hm : (l0.length + l1.length) * 120 ≤ 140737488355328) :
    Calls Try.prog 87 #[.slice (some ⟨g0, 0, none⟩) 2 2] w fun e w' => (∃ v, e = .returned v ∧ Kd.R k41 41 w' w.heap.size (fun _ => True) v (l0 ++ l1)) ∧ Below w.heap.size w w' := by
  have HR0 := Aside0.mk hr0
  have HR1 := Aside0.mk hr1
  have hgl : g0 < w.heap.size := World.block_lt_of_cell? w _ h0
  have H0 := Aside0.mk h0
  have H1 := Aside0.mk h1
  have HL := Aside0.mk hm
  have hgrow := grow_calls (l0.length + l1.length) w hm
  have hs1 : ((l0.length : Nat) : Int) ≤ 9223372036854775807 := by omega
  have hs2 : ((l0.length + l1.length : Nat) : Int) ≤ 9223372036854775807 := by omega
  have HGROW := Aside0.mk hgrow
  clear hr0 hr1 h0 h1 hm hgrow
  go_enter Try.func87, Try.ntmps87
  go_wp2
  go_loopg [3, 5, 11] 2 (fun gg s3 s5 s11 wr => wr = w ∧ ((s11 = .int .i64 0 ∧ s3 = .int .i64 0 ∧ gg = 2) ∨ (s11 = .int .i64 1 ∧ s3 = .int .i64 (l0.length : Nat) ∧ gg = 1) ∨ (s11 = .int .i64 2 ∧ s3 = .int .i64 (l0.length + l1.length : Nat) ∧ gg = 0)))
  case atStart => exact ⟨rfl, .inl ⟨rfl, rfl, rfl⟩⟩
  case round =>
    obtain ⟨hw, hrel⟩ := hrel
    subst hw
    rcases hrel with ⟨rfl, rfl, rfl⟩ | ⟨rfl, rfl, rfl⟩ | ⟨rfl, rfl, rfl⟩
    · have h0 := H0.out
      go_wp2
      go_roundg 1
      case measure => omega
      case rel => exact ⟨rfl, .inr (.inl ⟨by go_num, by go_num, rfl⟩)⟩
    · have h1 := H1.out
      go_wp2
      go_roundg 0
      case measure => omega
      case rel => exact ⟨rfl, .inr (.inr ⟨by go_num, by go_num, rfl⟩)⟩
    · go_wp2_with (go_at_call 100; refine HGROW.out.mono ?_; rintro e w' ⟨⟨v, rfl, hv⟩, hb⟩; have HV := Aside0.mk hv; have HB := Aside0.mk hb; clear hv hb)
      obtain ⟨w0, hw0⟩ : ∃ w0, w0 = wr := ⟨_, rfl⟩
      subst hw0
      go_loopg [6, 8, 27] 2 (fun gg s6 s8 s27 w1 => Aside0 (Below w0.heap.size w0 w1) ∧ ((s27 = .int .i64 0 ∧ gg = 2 ∧ Aside0 (Kd.R k41 41 w1 w0.heap.size (fun _ => True) s6 ([] : List S41))) ∨ (s27 = .int .i64 1 ∧ gg = 1 ∧ Aside0 (Kd.R k41 41 w1 w0.heap.size (fun _ => True) s6 l0)) ∨ (s27 = .int .i64 2 ∧ gg = 0 ∧ Aside0 (Kd.R k41 41 w1 w0.heap.size (fun _ => True) s6 (l0 ++ l1)))))
      case atStart => exact ⟨HB, .inl ⟨rfl, rfl, HV⟩⟩
      case round =>
        obtain ⟨HB1, hrel⟩ := hrel
        rcases hrel with ⟨rfl, rfl, HS⟩ | ⟨rfl, rfl, HS⟩ | ⟨rfl, rfl, HS⟩
        · have h0 := (HB1.out.cell (World.block_lt_of_cell? _ _ H0.out)).trans H0.out
          obtain ⟨As, cs, es⟩ := Kd.R_slice HS.out
          subst es
          go_wp2_with ((with_reducible refine gate_builtin (b := .append) (xs := #[.tmp 31, .tmp 32]) rfl ?_); at_builtin; refine Kd.R_append_rows k41 (w0 := w0) w0.heap.size rfl (.tmp 31) (.tmp 32) 26 41 _ 120 rfl Try.underlying26 xinfoT rfl (by decide) (by omega) (.slice As 0 cs) ([] : List S41) l0 _ _ _ (fun _ => True) (fun _ => False) rfl rfl ?aO ?aR (fun _ _ h => h) (fun _ h => h.elim) ?aF ?aB ?aS ?aL ?_; (case aR => exact Kd.C_below HR0.out HB1.out); (case aB => exact HB1.out); (case aF => exact (fun _ _ => trivial)); (case aO => exact HS.out); (case aS => exact HB1.out.size); (case aL => have := HL.out; simp; omega); intro v1 w1 ho hb hg hat; have HO1 := Aside0.mk ho; have HB2 := Aside0.mk hb; clear ho hb hg hat)
          go_roundg 1
          case measure => omega
          case rel => exact ⟨HB2, .inr (.inl ⟨by go_num, rfl, by simpa using HO1⟩)⟩
        · have h1 := (HB1.out.cell (World.block_lt_of_cell? _ _ H1.out)).trans H1.out
          obtain ⟨As, cs, es⟩ := Kd.R_slice HS.out
          subst es
          go_wp2_with ((with_reducible refine gate_builtin (b := .append) (xs := #[.tmp 31, .tmp 32]) rfl ?_); at_builtin; refine Kd.R_append_rows k41 (w0 := w0) w0.heap.size rfl (.tmp 31) (.tmp 32) 26 41 _ 120 rfl Try.underlying26 xinfoT rfl (by decide) (by omega) (.slice As l0.length cs) l0 l1 _ _ _ (fun _ => True) (fun _ => False) rfl rfl ?aO ?aR (fun _ _ h => h) (fun _ h => h.elim) ?aF ?aB ?aS ?aL ?_; (case aR => exact Kd.C_below HR1.out HB1.out); (case aB => exact HB1.out); (case aF => exact (fun _ _ => trivial)); (case aO => exact HS.out); (case aS => exact HB1.out.size); (case aL => have := HL.out; simp; omega); intro v1 w1 ho hb hg hat; have HO1 := Aside0.mk ho; have HB2 := Aside0.mk hb; clear ho hb hg hat)
          go_roundg 0
          case measure => omega
          case rel => exact ⟨HB2, .inr (.inr ⟨by go_num, rfl, HO1⟩)⟩
        · obtain ⟨As, cs, es⟩ := Kd.R_slice HS.out
          subst es
          go_wp2
          go_ret
          have hs := HS.out
          rw [List.length_append] at hs
          exact ⟨⟨_, rfl, hs⟩, HB1.out⟩
end Go.Proofs.Ytdjamphmndbmjaa.M
