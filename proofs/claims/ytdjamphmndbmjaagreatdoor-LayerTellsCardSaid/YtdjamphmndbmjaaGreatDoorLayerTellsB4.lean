/- Part 5 of 6 of the proof of LayerTellsCardSaid: a law of the given program, for every input; no condition is added. -/
import Derived.Test.YtdjamphmndbmjaaGreatDoorLayerTellsB3
import Derived.WalkKit
import Derived.LaidEql
import Derived.Stop.Asserts
import Derived.RowKitTokens
/- A region that draws its order, told operation by operation: what each has made (R x i w: x i is right in the world w), whatever came up before it. -/
namespace Go.Proofs.YtdjamphmndbmjaaGreatDoor.M
open Go.RowKit Go.Proofs.YtdjamphmndbmjaaGreatDoorW.PrintWords Go.Proofs.YtdjamphmndbmjaaGreatDoorW.PrintLast Go.Proofs.YtdjamphmndbmjaaGreatDoorW.PrintMore
set_option linter.unusedVariables false
set_option linter.unusedSimpArgs false

/-- The slots filled: operation k's slot bears x k. -/
def putAll (a : Act) (x : Nat → Value) : List Oper → Nat → Act
  | [], _ => a
  | o :: os, n => putAll (a.put o.dst (x n)) x os (n + 1)
def upd (x : Nat → Value) (k : Nat) (y : Value) : Nat → Value := fun i => if i = k then y else x i
theorem upd_at (x : Nat → Value) (k : Nat) (y : Value) : upd x k y k = y := if_pos rfl
theorem upd_ne (x : Nat → Value) {k i : Nat} (y : Value) (h : i ≠ k) : upd x k y i = x i := if_neg h
/-- What an operation hangs on. -/
inductive Dep (ops : Array Oper) : Nat → Nat → Prop
  | refl (i : Nat) : Dep ops i i
  | step {i k : Nat} {o : Oper} {e : Edge} : ops[i]? = some o → e ∈ o.after → Region.binds .any e = true → Dep ops e.on k → Dep ops i k
theorem act_put_comm (a : Act) (d e : Option Tmp) (v u : Value) (h : d = none ∨ d ≠ e) : (a.put d v).put e u = (a.put e u).put d v := by
  obtain ⟨t, ds⟩ := a
  cases d with
  | none => rfl
  | some d =>
    cases e with
    | none => rfl
    | some e =>
      have hne : d ≠ e := fun he => by subst he; rcases h with h | h <;> simp at h
      simp only [Act.put]
      rw [Array.setIfInBounds_comm _ _ hne]
theorem act_put_put (a : Act) (d : Option Tmp) (v u : Value) : (a.put d v).put d u = a.put d u := by
  cases d <;> simp [Act.put]
theorem act_put_own (a : Act) (d : Tmp) : a.put (some d) (a.tmps.getD d undef) = a := by
  obtain ⟨t, ds⟩ := a
  simp only [Act.put]
  congr 1
  apply Array.ext_getElem?
  intro i
  rw [Array.getElem?_setIfInBounds]
  by_cases h : d = i
  · subst h
    rw [if_pos rfl]
    split
    · rename_i hi; simp [Array.getD_eq_getD_getElem?, hi]
    · rename_i hi; rw [Array.getElem?_eq_none (by omega)]
  · rw [if_neg h]
theorem putAll_put_out (a : Act) (x : Nat → Value) (os : List Oper) (n : Nat) (d : Option Tmp) (y : Value) (h : ∀ o ∈ os, d = none ∨ d ≠ o.dst) : (putAll a x os n).put d y = putAll (a.put d y) x os n := by
  induction os generalizing a n with
  | nil => rfl
  | cons o os ih =>
    unfold putAll
    rw [ih _ _ (fun o' ho' => h o' (List.mem_cons_of_mem _ ho')), act_put_comm a d o.dst y (x n) (h o List.mem_cons_self)]
theorem putAll_congr (a : Act) {x x' : Nat → Value} (os : List Oper) (n : Nat) (h : ∀ k, n ≤ k → x k = x' k) : putAll a x os n = putAll a x' os n := by
  induction os generalizing a n with
  | nil => rfl
  | cons o os ih =>
    unfold putAll
    rw [h n (Nat.le_refl _), ih _ _ (fun k hk => h k (by omega))]
theorem putAll_at (a : Act) (x : Nat → Value) (os : List Oper) (n i : Nat) (o : Oper) (y : Value) (hn : (os.map (·.dst)).Pairwise fun d e => d = none ∨ d ≠ e) (ho : os[i]? = some o) : (putAll a x os n).put o.dst y = putAll a (upd x (n + i) y) os n := by
  induction os generalizing a n i with
  | nil => simp at ho
  | cons o0 os ih =>
    rw [List.map_cons, List.pairwise_cons] at hn
    cases i with
    | zero =>
      obtain rfl : o0 = o := by simpa using ho
      unfold putAll
      rw [putAll_put_out _ _ _ _ _ _ (fun o' ho' => hn.1 _ (List.mem_map_of_mem ho')), act_put_put]
      show _ = putAll (a.put o0.dst (upd x n y n)) (upd x n y) os (n + 1)
      rw [upd_at]
      exact putAll_congr _ _ _ (fun k hk => (upd_ne x y (by omega)).symm)
    | succ i =>
      unfold putAll
      rw [ih _ _ _ hn.2 (by simpa using ho), upd_ne x y (show n ≠ n + (i + 1) by omega), show n + 1 + i = n + (i + 1) by omega]
theorem putAll_start (a : Act) (os : List Oper) (n : Nat) : ∃ x, putAll a x os n = a := by
  induction os generalizing n with
  | nil => exact ⟨fun _ => undef, rfl⟩
  | cons o os ih =>
    obtain ⟨x, hx⟩ := ih (n + 1)
    cases hd : o.dst with
    | none => exact ⟨x, by unfold putAll; rw [hd]; exact hx⟩
    | some d =>
      refine ⟨upd x n (a.tmps.getD d undef), ?_⟩
      unfold putAll
      rw [upd_at, hd, act_put_own, ← putAll_congr a os (n + 1) (fun k hk => (upd_ne x _ (by omega)).symm)]
      exact hx
theorem putAll_other (a : Act) (x : Nat → Value) (os : List Oper) (n d : Nat) (h : ∀ o ∈ os, o.dst ≠ some d) : (putAll a x os n).tmps.getD d undef = a.tmps.getD d undef := by
  induction os generalizing a n with
  | nil => rfl
  | cons o os ih =>
    unfold putAll
    rw [ih _ _ (fun o' ho' => h o' (List.mem_cons_of_mem _ ho'))]
    have h0 := h o List.mem_cons_self
    cases hd : o.dst with
    | none => rfl
    | some e =>
      have hne : e ≠ d := fun he => h0 (by rw [hd, he])
      simp [Act.put, Array.getD_eq_getD_getElem?, Array.getElem?_setIfInBounds, hne]
theorem act_size (a : Act) (d : Option Tmp) (v : Value) : (a.put d v).tmps.size = a.tmps.size := by cases d <;> simp [Act.put]
theorem putAll_get (a : Act) (x : Nat → Value) (os : List Oper) (n i d : Nat) (o : Oper) (ho : os[i]? = some o) (hd : o.dst = some d) (hs : d < a.tmps.size) (hn : (os.map (·.dst)).Pairwise fun d e => d = none ∨ d ≠ e) : (putAll a x os n).tmps.getD d undef = x (n + i) := by
  induction os generalizing a n i with
  | nil => simp at ho
  | cons o0 os ih =>
    rw [List.map_cons, List.pairwise_cons] at hn
    cases i with
    | zero =>
      obtain rfl : o0 = o := by simpa using ho
      unfold putAll
      rw [putAll_other]
      · rw [hd]
        simp [Act.put, Array.getD_eq_getD_getElem?, hs]
      · intro o' ho' he
        rcases hn.1 _ (List.mem_map_of_mem ho') with h | h
        · rw [hd] at h; cases h
        · exact h (by rw [hd, he])
    | succ i =>
      unfold putAll
      rw [ih _ _ _ (by simpa using ho) (by rw [act_size]; exact hs) hn.2, show n + 1 + i = n + (i + 1) by omega]
/-- J up w: what holds all the way, told which operations have come up. -/
theorem region_J {P : Program} {ops : Array Oper} {Q : Exit → Act → World → Prop} {id : Nat} {a : Act} {w : World} (hm : P.follows .mixedOrders = true) (J : (Nat → Bool) → World → Prop) (R : (Nat → Value) → Nat → World → Prop) (hJ : J (fun _ => false) w.drew)
    (hdst : (ops.toList.map (·.dst)).Pairwise fun d e => d = none ∨ d ≠ e)
    (hup : (List.range ops.size).all (fun i => (ops[i]?.map fun o => o.after.all fun e => !Region.binds .any e || decide (e.on < i)).getD true) = true)
    (hRx : ∀ x y i k w, ¬ Dep ops i k → R x i w → R (upd x k y) i w)
    (hstep : ∀ up x i oi w', ops[i]? = some oi → up i = false → (∀ j, Dep ops j i → up j = false) → J up w' → (∀ e ∈ oi.after, Region.binds .any e = true → up e.on = true ∧ R x e.on w') → ∀ K : Act → World → Prop, Shut (∀ y w'', J (fun j => if j = i then true else up j) w'' → (∀ j, j ≠ i → up j = true → R x j w' → R x j w'') → R (upd x i y) i w'' → K ((putAll a x ops.toList 0).put oi.dst y) w'') →
      if Region.wanted oi (yielded ops (putAll a x ops.toList 0).tmps) = true then Oper.wp P oi (putAll a x ops.toList 0) w' K Q else K ((putAll a x ops.toList 0).put oi.dst undef) w')
    (hend : ∀ up x w', (∀ i, i < ops.size → up i = true) → J up w' → (∀ i, i < ops.size → R x i w') → Q .normal (putAll a x ops.toList 0) w') : (Code.region id ops true).wp P Q a w := by
  refine region_inv hm (fun l a' w' => (l.size = ops.size ∧ J (fun i => l.getD i false) w') ∧ ∃ x, a' = putAll a x ops.toList 0 ∧ ∀ i, l.getD i false = true → R x i w' ∧ ∀ o, ops[i]? = some o → ∀ e ∈ o.after, Region.binds .any e = true → l.getD e.on false = true) ?_ ?_ hup ?_
  · obtain ⟨x, hx⟩ := putAll_start a ops.toList 0
    have hf : (fun i => (Array.replicate ops.size false).getD i false) = fun _ => false := by
      funext i
      simp only [Array.getD_eq_getD_getElem?, Array.getElem?_replicate]
      split <;> rfl
    refine ⟨⟨by simp, by rw [hf]; exact hJ⟩, x, hx.symm, fun i hi => ?_⟩
    have h : (Array.replicate ops.size false).getD i false = false := congrFun hf i
    rw [h] at hi
    cases hi
  · rintro l a' w' i oi ⟨⟨hls, hJ'⟩, x, rfl, hl⟩ hoi hir K hK
    obtain ⟨hun, o', ho', hdeps⟩ := mem_ready.1 hir
    obtain rfl : oi = o' := Option.some.inj (hoi.symm.trans ho')
    have hil : i < l.size := by
      rw [hls]
      exact (Array.getElem?_eq_some_iff.1 hoi).1
    have hclosed : ∀ j k, Dep ops j k → l.getD j false = true → l.getD k false = true := by
      intro j k h
      induction h with
      | refl i => exact fun h => h
      | step h1 h2 h3 _ ih => exact fun hj => ih ((hl _ hj).2 _ h1 _ h2 h3)
    have hset : ∀ j, (l.setIfInBounds i true).getD j false = true → j = i ∨ l.getD j false = true := by
      intro j hj
      by_cases e : i = j
      · exact .inl e.symm
      · right
        simpa [Array.getD_eq_getD_getElem?, Array.getElem?_setIfInBounds, e] using hj
    have hkeep : ∀ j, l.getD j false = true → (l.setIfInBounds i true).getD j false = true := by
      intro j hj
      rcases Nat.lt_or_ge j l.size with hjl | hjl
      · by_cases e : i = j <;> simp [Array.getD_eq_getD_getElem?, Array.getElem?_setIfInBounds, hjl, e] at hj ⊢; exact hj
      · simp [Array.getD_eq_getD_getElem?, Array.getElem?_eq_none hjl] at hj
    have hnot : l.getD i false = true → False := by
      intro h
      simp [Array.getD_eq_getD_getElem?, hil] at h hun
      rw [h] at hun; cases hun
    have hif : (fun j => (l.setIfInBounds i true).getD j false) = fun j => if j = i then true else l.getD j false := by
      funext j
      by_cases e : j = i
      · subst e; simp [Array.getD_eq_getD_getElem?, Array.getElem?_setIfInBounds, hil]
      · have e' : ¬ i = j := fun h => e h.symm
        simp [Array.getD_eq_getD_getElem?, Array.getElem?_setIfInBounds, e, e']
    refine hstep (fun j => l.getD j false) x i oi w' hoi (by
      cases h : l.getD i false with
      | true => exact absurd h hnot
      | false => rfl) (fun j hj => by
      cases h : l.getD j false with
      | true => exact absurd (hclosed j i hj h) hnot
      | false => rfl) hJ' (fun e he hb => ⟨hdeps e he hb, (hl _ (hdeps e he hb)).1⟩) K (fun y w'' hJ2 hothers hnew => ?_)
    refine hK.out _ _ ⟨⟨by rw [Array.size_setIfInBounds]; exact hls, by rw [hif]; exact hJ2⟩, upd x i y, ?_, fun j hj => ?_⟩
    · have := putAll_at a x ops.toList 0 i oi y hdst (by rw [Array.getElem?_toList]; exact hoi)
      rw [Nat.zero_add] at this
      exact this
    · rcases hset j hj with rfl | hjl
      · refine ⟨hnew, fun o ho e he hb => hkeep _ ?_⟩
        obtain rfl : oi = o := Option.some.inj (hoi.symm.trans ho)
        exact hdeps e he hb
      · have hne : j ≠ i := fun e => hnot (e ▸ hjl)
        refine ⟨hRx x y j i w'' (fun hd => hnot (hclosed j i hd hjl)) (hothers j hne hjl (hl j hjl).1), fun o ho e he hb => hkeep _ ((hl j hjl).2 o ho e he hb)⟩
  · rintro l a' w' ⟨⟨hls, hJ'⟩, x, rfl, hl⟩ hall
    exact hend (fun i => l.getD i false) x w' hall hJ' (fun i hi => (hl i (hall i hi)).1)
theorem region_R {P : Program} {ops : Array Oper} {Q : Exit → Act → World → Prop} {id : Nat} {a : Act} {w : World} (hm : P.follows .mixedOrders = true) (J : World → Prop) (R : (Nat → Value) → Nat → World → Prop) (hJ : J w.drew)
    (hdst : (ops.toList.map (·.dst)).Pairwise fun d e => d = none ∨ d ≠ e)
    (hup : (List.range ops.size).all (fun i => (ops[i]?.map fun o => o.after.all fun e => !Region.binds .any e || decide (e.on < i)).getD true) = true)
    (hRx : ∀ x y i k w, ¬ Dep ops i k → R x i w → R (upd x k y) i w)
    (hstep : ∀ x i oi w', ops[i]? = some oi → J w' → (∀ e ∈ oi.after, Region.binds .any e = true → R x e.on w') → ∀ K : Act → World → Prop, Shut (∀ y w'', J w'' → (∀ j, j ≠ i → R x j w' → R x j w'') → R (upd x i y) i w'' → K ((putAll a x ops.toList 0).put oi.dst y) w'') →
      if Region.wanted oi (yielded ops (putAll a x ops.toList 0).tmps) = true then Oper.wp P oi (putAll a x ops.toList 0) w' K Q else K ((putAll a x ops.toList 0).put oi.dst undef) w')
    (hend : ∀ x w', J w' → (∀ i, i < ops.size → R x i w') → Q .normal (putAll a x ops.toList 0) w') : (Code.region id ops true).wp P Q a w :=
  region_J hm (fun _ w => J w) R hJ hdst hup hRx (fun _ x i oi w' hoi _ _ hJ' hdep K hK => hstep x i oi w' hoi hJ' (fun e he hb => (hdep e he hb).2) K (fun y w'' h1 h2 h3 => hK.out y w'' h1 (fun j hj _ hR => h2 j hj hR) h3)) (fun _ x w' _ hJ' hall => hend x w' hJ' hall)
end Go.Proofs.YtdjamphmndbmjaaGreatDoor.M

/- Package layer: the region of Then that draws its order: six calls, beside an allocation that may come at any time (printed by wip/gen_lay4.py). -/
namespace Go.Proofs.YtdjamphmndbmjaaGreatDoor.M
open Go.RowKit Go.Proofs.YtdjamphmndbmjaaGreatDoorW.PrintWords Go.Proofs.YtdjamphmndbmjaaGreatDoorW.PrintLast Go.Proofs.YtdjamphmndbmjaaGreatDoorW.PrintMore
set_option linter.unusedVariables false
set_option linter.unusedSimpArgs false

def thenOps : Array Oper := #[{ dst := some 43, op := Op.fieldAddr 48 (Operand.tmp 2) 0, type := 0, pos := "layer.go:74", after := #[], guard := none },
  { dst := some 44, op := Op.load 26 (Operand.tmp 43), type := 26, pos := "layer.go:74", after := #[{ on := 0, ground := Ground.data }], guard := none },
  { dst := some 45, op := Op.fieldAddr 48 (Operand.tmp 3) 1, type := 0, pos := "layer.go:74", after := #[], guard := none },
  { dst := some 46, op := Op.load 26 (Operand.tmp 45), type := 26, pos := "layer.go:74", after := #[{ on := 2, ground := Ground.data }], guard := none },
  { dst := some 47, op := Op.call { callee := Callee.value (Operand.func 107), args := #[Operand.tmp 44, Operand.tmp 46, Operand.const (Value.bool false)], argTypes := #[26, 26, 4] }, type := 26, pos := "layer.go:75", after := #[{ on := 1, ground := Ground.data }, { on := 3, ground := Ground.data }], guard := none },
  { dst := some 48, op := Op.fieldAddr 48 (Operand.tmp 3) 0, type := 0, pos := "layer.go:74", after := #[], guard := none },
  { dst := some 49, op := Op.load 26 (Operand.tmp 48), type := 26, pos := "layer.go:74", after := #[{ on := 5, ground := Ground.data }], guard := none },
  { dst := some 50, op := Op.fieldAddr 48 (Operand.tmp 2) 1, type := 0, pos := "layer.go:74", after := #[], guard := none },
  { dst := some 51, op := Op.load 26 (Operand.tmp 50), type := 26, pos := "layer.go:74", after := #[{ on := 7, ground := Ground.data }], guard := none },
  { dst := some 52, op := Op.call { callee := Callee.value (Operand.func 107), args := #[Operand.tmp 49, Operand.tmp 51, Operand.const (Value.bool false)], argTypes := #[26, 26, 4] }, type := 26, pos := "layer.go:75", after := #[{ on := 6, ground := Ground.data }, { on := 8, ground := Ground.data }, { on := 4, ground := Ground.chain }], guard := none },
  { dst := some 53, op := Op.call { callee := Callee.value (Operand.func 108), args := #[Operand.tmp 47, Operand.tmp 52], argTypes := #[26, 26] }, type := 26, pos := "layer.go:75", after := #[{ on := 4, ground := Ground.data }, { on := 9, ground := Ground.data }, { on := 9, ground := Ground.chain }], guard := none },
  { dst := some 54, op := Op.fieldAddr 48 (Operand.tmp 2) 1, type := 0, pos := "layer.go:74", after := #[], guard := none },
  { dst := some 55, op := Op.load 26 (Operand.tmp 54), type := 26, pos := "layer.go:74", after := #[{ on := 11, ground := Ground.data }], guard := none },
  { dst := some 56, op := Op.fieldAddr 48 (Operand.tmp 3) 0, type := 0, pos := "layer.go:74", after := #[], guard := none },
  { dst := some 57, op := Op.load 26 (Operand.tmp 56), type := 26, pos := "layer.go:74", after := #[{ on := 13, ground := Ground.data }], guard := none },
  { dst := some 58, op := Op.call { callee := Callee.value (Operand.func 107), args := #[Operand.tmp 55, Operand.tmp 57, Operand.const (Value.bool false)], argTypes := #[26, 26, 4] }, type := 26, pos := "layer.go:76", after := #[{ on := 12, ground := Ground.data }, { on := 14, ground := Ground.data }, { on := 10, ground := Ground.chain }], guard := none },
  { dst := some 59, op := Op.fieldAddr 48 (Operand.tmp 3) 1, type := 0, pos := "layer.go:74", after := #[], guard := none },
  { dst := some 60, op := Op.load 26 (Operand.tmp 59), type := 26, pos := "layer.go:74", after := #[{ on := 16, ground := Ground.data }], guard := none },
  { dst := some 61, op := Op.fieldAddr 48 (Operand.tmp 2) 0, type := 0, pos := "layer.go:74", after := #[], guard := none },
  { dst := some 62, op := Op.load 26 (Operand.tmp 61), type := 26, pos := "layer.go:74", after := #[{ on := 18, ground := Ground.data }], guard := none },
  { dst := some 63, op := Op.call { callee := Callee.value (Operand.func 107), args := #[Operand.tmp 60, Operand.tmp 62, Operand.const (Value.bool false)], argTypes := #[26, 26, 4] }, type := 26, pos := "layer.go:76", after := #[{ on := 17, ground := Ground.data }, { on := 19, ground := Ground.data }, { on := 15, ground := Ground.chain }], guard := none },
  { dst := some 64, op := Op.call { callee := Callee.value (Operand.func 108), args := #[Operand.tmp 58, Operand.tmp 63], argTypes := #[26, 26] }, type := 26, pos := "layer.go:76", after := #[{ on := 15, ground := Ground.data }, { on := 20, ground := Ground.data }, { on := 20, ground := Ground.chain }], guard := none },
  { dst := some 65, op := Op.build 48 #[(0, Operand.tmp 53), (1, Operand.tmp 64)], type := 48, pos := "layer.go:74", after := #[{ on := 10, ground := Ground.data }, { on := 21, ground := Ground.data }], guard := none },
  { dst := some 9, op := Op.alloc 48, type := 0, pos := "layer.go:74", after := #[], guard := none },
  { dst := none, op := Op.store 48 (Operand.tmp 9) (Operand.tmp 65), type := 0, pos := "layer.go:74", after := #[{ on := 23, ground := Ground.data }, { on := 22, ground := Ground.data }, { on := 21, ground := Ground.chain }, { on := 0, ground := Ground.phase }, { on := 1, ground := Ground.phase }, { on := 2, ground := Ground.phase }, { on := 3, ground := Ground.phase }, { on := 4, ground := Ground.phase }, { on := 5, ground := Ground.phase }, { on := 6, ground := Ground.phase }, { on := 7, ground := Ground.phase }, { on := 8, ground := Ground.phase }, { on := 9, ground := Ground.phase }, { on := 10, ground := Ground.phase }, { on := 11, ground := Ground.phase }, { on := 12, ground := Ground.phase }, { on := 13, ground := Ground.phase }, { on := 14, ground := Ground.phase }, { on := 15, ground := Ground.phase }, { on := 16, ground := Ground.phase }, { on := 17, ground := Ground.phase }, { on := 18, ground := Ground.phase }, { on := 19, ground := Ground.phase }, { on := 20, ground := Ground.phase }, { on := 21, ground := Ground.phase }, { on := 22, ground := Ground.phase }, { on := 23, ground := Ground.phase }], guard := none }]
theorem then_apart : (thenOps.toList.map (·.dst)).Pairwise fun d e => d = none ∨ d ≠ e := by decide +kernel
theorem then_up : (List.range thenOps.size).all (fun i => (thenOps[i]?.map fun o => o.after.all fun e => !Region.binds .any e || decide (e.on < i)).getD true) = true := by decide +kernel
/-- What each operation of the region has made. -/
def ThenR (g base : Nat) (W : World) (A1 : Option Addr) (c1 : Nat) (l1 : List S25) (A2 : Option Addr) (c2 : Nat) (l2 : List S25) (A3 : Option Addr) (c3 : Nat) (l3 : List S25) (A4 : Option Addr) (c4 : Nat) (l4 : List S25) (X1 X2 XA Y1 Y2 YT : List S25) (x : Nat → Value) (i : Nat) (w : World) : Prop :=
  match i with
  | 0 => x 0 = .pointer (some ⟨g, 0, none⟩)
  | 1 => x 1 = .slice A1 l1.length c1
  | 2 => x 2 = .pointer (some ⟨g + 1, 1, none⟩)
  | 3 => x 3 = .slice A4 l4.length c4
  | 4 => Kd.R k25 25 w base (fun _ => True) (x 4) X1
  | 5 => x 5 = .pointer (some ⟨g + 1, 0, none⟩)
  | 6 => x 6 = .slice A3 l3.length c3
  | 7 => x 7 = .pointer (some ⟨g, 1, none⟩)
  | 8 => x 8 = .slice A2 l2.length c2
  | 9 => Kd.R k25 25 w base (fun _ => True) (x 9) X2
  | 10 => Kd.R k25 25 w base (fun _ => True) (x 10) XA
  | 11 => x 11 = .pointer (some ⟨g, 1, none⟩)
  | 12 => x 12 = .slice A2 l2.length c2
  | 13 => x 13 = .pointer (some ⟨g + 1, 0, none⟩)
  | 14 => x 14 = .slice A3 l3.length c3
  | 15 => Kd.R k25 25 w base (fun _ => True) (x 15) Y1
  | 16 => x 16 = .pointer (some ⟨g + 1, 1, none⟩)
  | 17 => x 17 = .slice A4 l4.length c4
  | 18 => x 18 = .pointer (some ⟨g, 0, none⟩)
  | 19 => x 19 = .slice A1 l1.length c1
  | 20 => Kd.R k25 25 w base (fun _ => True) (x 20) Y2
  | 21 => Kd.R k25 25 w base (fun _ => True) (x 21) YT
  | 22 => x 22 = .agg #[x 10, x 21]
  | 23 => ∃ b cs, x 23 = .pointer (some ⟨b, 0, none⟩) ∧ W.heap.size ≤ b ∧ cs.size = 2 ∧ w.heap[b]? = some (.cells cs 48 (0, 0))
  | 24 => ∃ b, x 23 = .pointer (some ⟨b, 0, none⟩) ∧ x 22 = .agg #[x 10, x 21] ∧ W.heap.size ≤ b ∧ w.heap[b]? = some (.cells #[x 10, x 21] 48 (0, 0))
  | _ => True
theorem then_Rx (g base : Nat) (W : World) (A1 : Option Addr) (c1 : Nat) (l1 : List S25) (A2 : Option Addr) (c2 : Nat) (l2 : List S25) (A3 : Option Addr) (c3 : Nat) (l3 : List S25) (A4 : Option Addr) (c4 : Nat) (l4 : List S25) (X1 X2 XA Y1 Y2 YT : List S25) (x : Nat → Value) (y : Value) (i k : Nat) (w : World) (hd : ¬ Dep thenOps i k) (h : ThenR g base W A1 c1 l1 A2 c2 l2 A3 c3 l3 A4 c4 l4 X1 X2 XA Y1 Y2 YT x i w) : ThenR g base W A1 c1 l1 A2 c2 l2 A3 c3 l3 A4 c4 l4 X1 X2 XA Y1 Y2 YT (upd x k y) i w := by
  have hi : i ≠ k := fun e => hd (e ▸ Dep.refl _)
  rcases i with _ | _ | _ | _ | _ | _ | _ | _ | _ | _ | _ | _ | _ | _ | _ | _ | _ | _ | _ | _ | _ | _ | _ | _ | _ | i
  ·
    have e0 : upd x k y 0 = x 0 := upd_ne x y hi
    unfold ThenR at h ⊢
    simp only [e0]
    exact h
  ·
    have e1 : upd x k y 1 = x 1 := upd_ne x y hi
    unfold ThenR at h ⊢
    simp only [e1]
    exact h
  ·
    have e2 : upd x k y 2 = x 2 := upd_ne x y hi
    unfold ThenR at h ⊢
    simp only [e2]
    exact h
  ·
    have e3 : upd x k y 3 = x 3 := upd_ne x y hi
    unfold ThenR at h ⊢
    simp only [e3]
    exact h
  ·
    have e4 : upd x k y 4 = x 4 := upd_ne x y hi
    unfold ThenR at h ⊢
    simp only [e4]
    exact h
  ·
    have e5 : upd x k y 5 = x 5 := upd_ne x y hi
    unfold ThenR at h ⊢
    simp only [e5]
    exact h
  ·
    have e6 : upd x k y 6 = x 6 := upd_ne x y hi
    unfold ThenR at h ⊢
    simp only [e6]
    exact h
  ·
    have e7 : upd x k y 7 = x 7 := upd_ne x y hi
    unfold ThenR at h ⊢
    simp only [e7]
    exact h
  ·
    have e8 : upd x k y 8 = x 8 := upd_ne x y hi
    unfold ThenR at h ⊢
    simp only [e8]
    exact h
  ·
    have e9 : upd x k y 9 = x 9 := upd_ne x y hi
    unfold ThenR at h ⊢
    simp only [e9]
    exact h
  ·
    have e10 : upd x k y 10 = x 10 := upd_ne x y hi
    unfold ThenR at h ⊢
    simp only [e10]
    exact h
  ·
    have e11 : upd x k y 11 = x 11 := upd_ne x y hi
    unfold ThenR at h ⊢
    simp only [e11]
    exact h
  ·
    have e12 : upd x k y 12 = x 12 := upd_ne x y hi
    unfold ThenR at h ⊢
    simp only [e12]
    exact h
  ·
    have e13 : upd x k y 13 = x 13 := upd_ne x y hi
    unfold ThenR at h ⊢
    simp only [e13]
    exact h
  ·
    have e14 : upd x k y 14 = x 14 := upd_ne x y hi
    unfold ThenR at h ⊢
    simp only [e14]
    exact h
  ·
    have e15 : upd x k y 15 = x 15 := upd_ne x y hi
    unfold ThenR at h ⊢
    simp only [e15]
    exact h
  ·
    have e16 : upd x k y 16 = x 16 := upd_ne x y hi
    unfold ThenR at h ⊢
    simp only [e16]
    exact h
  ·
    have e17 : upd x k y 17 = x 17 := upd_ne x y hi
    unfold ThenR at h ⊢
    simp only [e17]
    exact h
  ·
    have e18 : upd x k y 18 = x 18 := upd_ne x y hi
    unfold ThenR at h ⊢
    simp only [e18]
    exact h
  ·
    have e19 : upd x k y 19 = x 19 := upd_ne x y hi
    unfold ThenR at h ⊢
    simp only [e19]
    exact h
  ·
    have e20 : upd x k y 20 = x 20 := upd_ne x y hi
    unfold ThenR at h ⊢
    simp only [e20]
    exact h
  ·
    have e21 : upd x k y 21 = x 21 := upd_ne x y hi
    unfold ThenR at h ⊢
    simp only [e21]
    exact h
  ·
    have e10 : upd x k y 10 = x 10 := upd_ne x y (fun e => hd (e ▸ Dep.step (e := { on := 10, ground := Ground.data }) (show thenOps[22]? = some _ from rfl) (by simp [thenOps]) rfl (Dep.refl _)))
    have e21 : upd x k y 21 = x 21 := upd_ne x y (fun e => hd (e ▸ Dep.step (e := { on := 21, ground := Ground.data }) (show thenOps[22]? = some _ from rfl) (by simp [thenOps]) rfl (Dep.refl _)))
    have e22 : upd x k y 22 = x 22 := upd_ne x y hi
    unfold ThenR at h ⊢
    simp only [e10, e21, e22]
    exact h
  ·
    have e23 : upd x k y 23 = x 23 := upd_ne x y hi
    unfold ThenR at h ⊢
    simp only [e23]
    exact h
  ·
    have e10 : upd x k y 10 = x 10 := upd_ne x y (fun e => hd (e ▸ Dep.step (e := { on := 22, ground := Ground.data }) (show thenOps[24]? = some _ from rfl) (by simp [thenOps]) rfl (Dep.step (e := { on := 10, ground := Ground.data }) (show thenOps[22]? = some _ from rfl) (by simp [thenOps]) rfl (Dep.refl _))))
    have e21 : upd x k y 21 = x 21 := upd_ne x y (fun e => hd (e ▸ Dep.step (e := { on := 22, ground := Ground.data }) (show thenOps[24]? = some _ from rfl) (by simp [thenOps]) rfl (Dep.step (e := { on := 21, ground := Ground.data }) (show thenOps[22]? = some _ from rfl) (by simp [thenOps]) rfl (Dep.refl _))))
    have e22 : upd x k y 22 = x 22 := upd_ne x y (fun e => hd (e ▸ Dep.step (e := { on := 22, ground := Ground.data }) (show thenOps[24]? = some _ from rfl) (by simp [thenOps]) rfl (Dep.refl _)))
    have e23 : upd x k y 23 = x 23 := upd_ne x y (fun e => hd (e ▸ Dep.step (e := { on := 23, ground := Ground.data }) (show thenOps[24]? = some _ from rfl) (by simp [thenOps]) rfl (Dep.refl _)))
    unfold ThenR at h ⊢
    simp only [e10, e21, e22, e23]
    exact h
  · unfold ThenR; trivial
set_option maxHeartbeats 4000000 in
set_option maxRecDepth 100000 in
theorem then_region (a : Act) (W w0 : World) (g base : Nat) (A1 : Option Addr) (c1 : Nat) (l1 : List S25) (A2 : Option Addr) (c2 : Nat) (l2 : List S25) (A3 : Option Addr) (c3 : Nat) (l3 : List S25) (A4 : Option Addr) (c4 : Nat) (l4 : List S25) (X1 X2 XA Y1 Y2 YT : List S25) (Q : Exit → Act → World → Prop) (hsz : a.tmps.size = 79) (t2 : a.tmps.getD 2 undef = .pointer (some ⟨g, 0, none⟩)) (t3 : a.tmps.getD 3 undef = .pointer (some ⟨g + 1, 0, none⟩)) (hg : base ≤ W.heap.size)
    (h1 : Kd.C k25 W A1 l1.length l1) (hc1 : l1.length ≤ c1) (h2 : Kd.C k25 W A2 l2.length l2) (hc2 : l2.length ≤ c2) (h3 : Kd.C k25 W A3 l3.length l3) (hc3 : l3.length ≤ c3) (h4 : Kd.C k25 W A4 l4.length l4) (hc4 : l4.length ≤ c4)
    (k1 : W.cell? ⟨g, 0, none⟩ = some (.slice A1 l1.length c1)) (k2 : W.cell? ⟨g, 1, none⟩ = some (.slice A2 l2.length c2)) (k3 : W.cell? ⟨g + 1, 0, none⟩ = some (.slice A3 l3.length c3)) (k4 : W.cell? ⟨g + 1, 1, none⟩ = some (.slice A4 l4.length c4))
    (p1 : ∀ W', Kd.C k25 W' A1 l1.length l1 → Kd.C k25 W' A4 l4.length l4 → Calls Tryz.prog 107 #[.slice A1 l1.length c1, .slice A4 l4.length c4, .bool false] W' fun e w' => ∃ v, e = .returned v ∧ Kd.R k25 25 w' W'.heap.size (fun _ => True) v X1 ∧ Below W'.heap.size W' w')
    (p2 : ∀ W', Kd.C k25 W' A3 l3.length l3 → Kd.C k25 W' A2 l2.length l2 → Calls Tryz.prog 107 #[.slice A3 l3.length c3, .slice A2 l2.length c2, .bool false] W' fun e w' => ∃ v, e = .returned v ∧ Kd.R k25 25 w' W'.heap.size (fun _ => True) v X2 ∧ Below W'.heap.size W' w')
    (u1 : ∀ W' A c A' c', Kd.C k25 W' A X1.length X1 → X1.length ≤ c → Kd.C k25 W' A' X2.length X2 → X2.length ≤ c' → Calls Tryz.prog 108 #[.slice A X1.length c, .slice A' X2.length c'] W' fun e w' => ∃ v, e = .returned v ∧ Kd.R k25 25 w' W'.heap.size (fun _ => True) v XA ∧ Below W'.heap.size W' w')
    (p3 : ∀ W', Kd.C k25 W' A2 l2.length l2 → Kd.C k25 W' A3 l3.length l3 → Calls Tryz.prog 107 #[.slice A2 l2.length c2, .slice A3 l3.length c3, .bool false] W' fun e w' => ∃ v, e = .returned v ∧ Kd.R k25 25 w' W'.heap.size (fun _ => True) v Y1 ∧ Below W'.heap.size W' w')
    (p4 : ∀ W', Kd.C k25 W' A4 l4.length l4 → Kd.C k25 W' A1 l1.length l1 → Calls Tryz.prog 107 #[.slice A4 l4.length c4, .slice A1 l1.length c1, .bool false] W' fun e w' => ∃ v, e = .returned v ∧ Kd.R k25 25 w' W'.heap.size (fun _ => True) v Y2 ∧ Below W'.heap.size W' w')
    (u2 : ∀ W' A c A' c', Kd.C k25 W' A Y1.length Y1 → Y1.length ≤ c → Kd.C k25 W' A' Y2.length Y2 → Y2.length ≤ c' → Calls Tryz.prog 108 #[.slice A Y1.length c, .slice A' Y2.length c'] W' fun e w' => ∃ v, e = .returned v ∧ Kd.R k25 25 w' W'.heap.size (fun _ => True) v YT ∧ Below W'.heap.size W' w')
    (hend : ∀ x w' b Au cu Av cv, Below W.heap.size W w' → x 9 = x 9 → x 10 = .slice Au XA.length cu → x 21 = .slice Av YT.length cv → Kd.R k25 25 w' base (fun _ => True) (x 10) XA → Kd.R k25 25 w' base (fun _ => True) (x 21) YT → x 23 = .pointer (some ⟨b, 0, none⟩) → W.heap.size ≤ b → w'.heap[b]? = some (.cells #[x 10, x 21] 48 (0, 0)) → Q .normal (putAll a x thenOps.toList 0) w') :
    (Code.region 10 thenOps true).wp Tryz.prog Q a W := by
  have mixed : Tryz.prog.follows .mixedOrders = true := by kernel_rfl
  have hu69 := Tryz.underlying48
  refine region_R mixed (fun w => Below W.heap.size W w) (ThenR g base W A1 c1 l1 A2 c2 l2 A3 c3 l3 A4 c4 l4 X1 X2 XA Y1 Y2 YT) (below_drew1 (Below.refl _ _)) then_apart then_up (then_Rx g base W A1 c1 l1 A2 c2 l2 A3 c3 l3 A4 c4 l4 X1 X2 XA Y1 Y2 YT) ?_ ?_
  · intro x i oi w' hoi hJ hdep K hK
    have hget := fun (i d : Nat) (o : Oper) (ho : thenOps.toList[i]? = some o) (hd : o.dst = some d) (hs : d < 79) => putAll_get a x thenOps.toList 0 i d o ho hd (hsz ▸ hs) then_apart
    have e2 : (putAll a x thenOps.toList 0).tmps.getD 2 undef = .pointer (some ⟨g, 0, none⟩) := (putAll_other a x thenOps.toList 0 2 (by decide +kernel)).trans t2
    have e3 : (putAll a x thenOps.toList 0).tmps.getD 3 undef = .pointer (some ⟨g + 1, 0, none⟩) := (putAll_other a x thenOps.toList 0 3 (by decide +kernel)).trans t3
    have keep : ∀ w'', Below w'.heap.size w' w'' → ∀ j, ThenR g base W A1 c1 l1 A2 c2 l2 A3 c3 l3 A4 c4 l4 X1 X2 XA Y1 Y2 YT x j w' → ThenR g base W A1 c1 l1 A2 c2 l2 A3 c3 l3 A4 c4 l4 X1 X2 XA Y1 Y2 YT x j w'' := by
      intro w'' hb j hj
      rcases j with _ | _ | _ | _ | _ | _ | _ | _ | _ | _ | _ | _ | _ | _ | _ | _ | _ | _ | _ | _ | _ | _ | _ | _ | _ | j
      · exact hj
      · exact hj
      · exact hj
      · exact hj
      · exact Kd.R_below hj hb
      · exact hj
      · exact hj
      · exact hj
      · exact hj
      · exact Kd.R_below hj hb
      · exact Kd.R_below hj hb
      · exact hj
      · exact hj
      · exact hj
      · exact hj
      · exact Kd.R_below hj hb
      · exact hj
      · exact hj
      · exact hj
      · exact hj
      · exact Kd.R_below hj hb
      · exact Kd.R_below hj hb
      · exact hj
      · obtain ⟨b, cs, q1, q2, q3, q4⟩ := hj
        exact ⟨b, cs, q1, q2, q3, blk_below q4 hb⟩
      · obtain ⟨b, q1, q2, q3, q4⟩ := hj
        exact ⟨b, q1, q2, q3, blk_below q4 hb⟩
      · exact trivial
    have m1 : w'.cell? ⟨g, 0, none⟩ = some (.slice A1 l1.length c1) := (hJ.cell (World.block_lt_of_cell? _ _ k1)).trans k1
    have r1 := Kd.C_below h1 hJ
    have m2 : w'.cell? ⟨g, 1, none⟩ = some (.slice A2 l2.length c2) := (hJ.cell (World.block_lt_of_cell? _ _ k2)).trans k2
    have r2 := Kd.C_below h2 hJ
    have m3 : w'.cell? ⟨g + 1, 0, none⟩ = some (.slice A3 l3.length c3) := (hJ.cell (World.block_lt_of_cell? _ _ k3)).trans k3
    have r3 := Kd.C_below h3 hJ
    have m4 : w'.cell? ⟨g + 1, 1, none⟩ = some (.slice A4 l4.length c4) := (hJ.cell (World.block_lt_of_cell? _ _ k4)).trans k4
    have r4 := Kd.C_below h4 hJ
    rcases i with _ | _ | _ | _ | _ | _ | _ | _ | _ | _ | _ | _ | _ | _ | _ | _ | _ | _ | _ | _ | _ | _ | _ | _ | _ | i
    · injection hoi with hoi; subst hoi
      generalize putAll a x thenOps.toList 0 = A at *
      have hrun : (execOp A.eval { dst := some 43, op := Op.fieldAddr 48 (Operand.tmp 2) 0, type := 0, pos := "layer.go:74", after := #[], guard := none }).run Tryz.prog w' = .ok (.value (.pointer (some ⟨g, 0, none⟩))) w' := by
        have fa2 : A.tmps.getD 2 undef = .pointer (some ⟨g, 0, none⟩) := e2
        have fb2 : A.tmps[2]?.getD undef = .pointer (some ⟨g, 0, none⟩) := by rw [← Array.getD_eq_getD_getElem?]; exact fa2
        clear hK keep hget hdep e2 e3; go_simp
      exact event_step rfl hrun (hK.out _ _ hJ (fun j _ hj => hj) (upd_at _ _ _))
    · injection hoi with hoi; subst hoi
      have d0 : ThenR g base W A1 c1 l1 A2 c2 l2 A3 c3 l3 A4 c4 l4 X1 X2 XA Y1 Y2 YT x 0 w' := hdep { on := 0, ground := Ground.data } (by simp [thenOps]) rfl
      have e43 : (putAll a x thenOps.toList 0).tmps.getD 43 undef = x 0 := by have h := hget 0 43 _ (show thenOps.toList[0]? = some _ from rfl) rfl (by decide); rw [Nat.zero_add] at h; exact h
      generalize putAll a x thenOps.toList 0 = A at *
      have hrun : (execOp A.eval { dst := some 44, op := Op.load 26 (Operand.tmp 43), type := 26, pos := "layer.go:74", after := #[{ on := 0, ground := Ground.data }], guard := none }).run Tryz.prog w' = .ok (.value (.slice A1 l1.length c1)) w' := by
        have fa43 : A.tmps.getD 43 undef = .pointer (some ⟨g, 0, none⟩) := e43.trans d0
        have fb43 : A.tmps[43]?.getD undef = .pointer (some ⟨g, 0, none⟩) := by rw [← Array.getD_eq_getD_getElem?]; exact fa43
        clear hK keep hget hdep e2 e3 e43; go_simp
      exact event_step rfl hrun (hK.out _ _ hJ (fun j _ hj => hj) (upd_at _ _ _))
    · injection hoi with hoi; subst hoi
      generalize putAll a x thenOps.toList 0 = A at *
      have hrun : (execOp A.eval { dst := some 45, op := Op.fieldAddr 48 (Operand.tmp 3) 1, type := 0, pos := "layer.go:74", after := #[], guard := none }).run Tryz.prog w' = .ok (.value (.pointer (some ⟨g + 1, 1, none⟩))) w' := by
        have fa3 : A.tmps.getD 3 undef = .pointer (some ⟨g + 1, 0, none⟩) := e3
        have fb3 : A.tmps[3]?.getD undef = .pointer (some ⟨g + 1, 0, none⟩) := by rw [← Array.getD_eq_getD_getElem?]; exact fa3
        clear hK keep hget hdep e2 e3; go_simp
      exact event_step rfl hrun (hK.out _ _ hJ (fun j _ hj => hj) (upd_at _ _ _))
    · injection hoi with hoi; subst hoi
      have d2 : ThenR g base W A1 c1 l1 A2 c2 l2 A3 c3 l3 A4 c4 l4 X1 X2 XA Y1 Y2 YT x 2 w' := hdep { on := 2, ground := Ground.data } (by simp [thenOps]) rfl
      have e45 : (putAll a x thenOps.toList 0).tmps.getD 45 undef = x 2 := by have h := hget 2 45 _ (show thenOps.toList[2]? = some _ from rfl) rfl (by decide); rw [Nat.zero_add] at h; exact h
      generalize putAll a x thenOps.toList 0 = A at *
      have hrun : (execOp A.eval { dst := some 46, op := Op.load 26 (Operand.tmp 45), type := 26, pos := "layer.go:74", after := #[{ on := 2, ground := Ground.data }], guard := none }).run Tryz.prog w' = .ok (.value (.slice A4 l4.length c4)) w' := by
        have fa45 : A.tmps.getD 45 undef = .pointer (some ⟨g + 1, 1, none⟩) := e45.trans d2
        have fb45 : A.tmps[45]?.getD undef = .pointer (some ⟨g + 1, 1, none⟩) := by rw [← Array.getD_eq_getD_getElem?]; exact fa45
        clear hK keep hget hdep e2 e3 e45; go_simp
      exact event_step rfl hrun (hK.out _ _ hJ (fun j _ hj => hj) (upd_at _ _ _))
    · injection hoi with hoi; subst hoi
      have d1 : ThenR g base W A1 c1 l1 A2 c2 l2 A3 c3 l3 A4 c4 l4 X1 X2 XA Y1 Y2 YT x 1 w' := hdep { on := 1, ground := Ground.data } (by simp [thenOps]) rfl
      have e44 : (putAll a x thenOps.toList 0).tmps.getD 44 undef = x 1 := by have h := hget 1 44 _ (show thenOps.toList[1]? = some _ from rfl) rfl (by decide); rw [Nat.zero_add] at h; exact h
      have d3 : ThenR g base W A1 c1 l1 A2 c2 l2 A3 c3 l3 A4 c4 l4 X1 X2 XA Y1 Y2 YT x 3 w' := hdep { on := 3, ground := Ground.data } (by simp [thenOps]) rfl
      have e46 : (putAll a x thenOps.toList 0).tmps.getD 46 undef = x 3 := by have h := hget 3 46 _ (show thenOps.toList[3]? = some _ from rfl) rfl (by decide); rw [Nat.zero_add] at h; exact h
      generalize putAll a x thenOps.toList 0 = A at *
      refine goes_ Tryz.func107 (by kernel_rfl) rfl #[.slice A1 l1.length c1, .slice A4 l4.length c4, .bool false] rfl rfl rfl (by have q1 : A.eval (.tmp 44) = .slice A1 l1.length c1 := e44.trans d1; have q2 : A.eval (.tmp 46) = .slice A4 l4.length c4 := e46.trans d3; simp only [List.map_toArray, List.map_cons, List.map_nil, q1, q2]; rfl) ((p1 w' r1 r4).mono ?_)
      rintro e w'' ⟨v, rfl, hv, hb⟩
      refine ⟨v, rfl, hK.out _ _ (below_step hJ hb) (fun j _ hj => keep _ hb j hj) ?_⟩
      show Kd.R k25 25 w'' base (fun _ => True) (upd x 4 v 4) X1
      rw [upd_at]
      exact Kd.R_lower hv (Nat.le_trans hg hJ.size)
    · injection hoi with hoi; subst hoi
      generalize putAll a x thenOps.toList 0 = A at *
      have hrun : (execOp A.eval { dst := some 48, op := Op.fieldAddr 48 (Operand.tmp 3) 0, type := 0, pos := "layer.go:74", after := #[], guard := none }).run Tryz.prog w' = .ok (.value (.pointer (some ⟨g + 1, 0, none⟩))) w' := by
        have fa3 : A.tmps.getD 3 undef = .pointer (some ⟨g + 1, 0, none⟩) := e3
        have fb3 : A.tmps[3]?.getD undef = .pointer (some ⟨g + 1, 0, none⟩) := by rw [← Array.getD_eq_getD_getElem?]; exact fa3
        clear hK keep hget hdep e2 e3; go_simp
      exact event_step rfl hrun (hK.out _ _ hJ (fun j _ hj => hj) (upd_at _ _ _))
    · injection hoi with hoi; subst hoi
      have d5 : ThenR g base W A1 c1 l1 A2 c2 l2 A3 c3 l3 A4 c4 l4 X1 X2 XA Y1 Y2 YT x 5 w' := hdep { on := 5, ground := Ground.data } (by simp [thenOps]) rfl
      have e48 : (putAll a x thenOps.toList 0).tmps.getD 48 undef = x 5 := by have h := hget 5 48 _ (show thenOps.toList[5]? = some _ from rfl) rfl (by decide); rw [Nat.zero_add] at h; exact h
      generalize putAll a x thenOps.toList 0 = A at *
      have hrun : (execOp A.eval { dst := some 49, op := Op.load 26 (Operand.tmp 48), type := 26, pos := "layer.go:74", after := #[{ on := 5, ground := Ground.data }], guard := none }).run Tryz.prog w' = .ok (.value (.slice A3 l3.length c3)) w' := by
        have fa48 : A.tmps.getD 48 undef = .pointer (some ⟨g + 1, 0, none⟩) := e48.trans d5
        have fb48 : A.tmps[48]?.getD undef = .pointer (some ⟨g + 1, 0, none⟩) := by rw [← Array.getD_eq_getD_getElem?]; exact fa48
        clear hK keep hget hdep e2 e3 e48; go_simp
      exact event_step rfl hrun (hK.out _ _ hJ (fun j _ hj => hj) (upd_at _ _ _))
    · injection hoi with hoi; subst hoi
      generalize putAll a x thenOps.toList 0 = A at *
      have hrun : (execOp A.eval { dst := some 50, op := Op.fieldAddr 48 (Operand.tmp 2) 1, type := 0, pos := "layer.go:74", after := #[], guard := none }).run Tryz.prog w' = .ok (.value (.pointer (some ⟨g, 1, none⟩))) w' := by
        have fa2 : A.tmps.getD 2 undef = .pointer (some ⟨g, 0, none⟩) := e2
        have fb2 : A.tmps[2]?.getD undef = .pointer (some ⟨g, 0, none⟩) := by rw [← Array.getD_eq_getD_getElem?]; exact fa2
        clear hK keep hget hdep e2 e3; go_simp
      exact event_step rfl hrun (hK.out _ _ hJ (fun j _ hj => hj) (upd_at _ _ _))
    · injection hoi with hoi; subst hoi
      have d7 : ThenR g base W A1 c1 l1 A2 c2 l2 A3 c3 l3 A4 c4 l4 X1 X2 XA Y1 Y2 YT x 7 w' := hdep { on := 7, ground := Ground.data } (by simp [thenOps]) rfl
      have e50 : (putAll a x thenOps.toList 0).tmps.getD 50 undef = x 7 := by have h := hget 7 50 _ (show thenOps.toList[7]? = some _ from rfl) rfl (by decide); rw [Nat.zero_add] at h; exact h
      generalize putAll a x thenOps.toList 0 = A at *
      have hrun : (execOp A.eval { dst := some 51, op := Op.load 26 (Operand.tmp 50), type := 26, pos := "layer.go:74", after := #[{ on := 7, ground := Ground.data }], guard := none }).run Tryz.prog w' = .ok (.value (.slice A2 l2.length c2)) w' := by
        have fa50 : A.tmps.getD 50 undef = .pointer (some ⟨g, 1, none⟩) := e50.trans d7
        have fb50 : A.tmps[50]?.getD undef = .pointer (some ⟨g, 1, none⟩) := by rw [← Array.getD_eq_getD_getElem?]; exact fa50
        clear hK keep hget hdep e2 e3 e50; go_simp
      exact event_step rfl hrun (hK.out _ _ hJ (fun j _ hj => hj) (upd_at _ _ _))
    · injection hoi with hoi; subst hoi
      have d6 : ThenR g base W A1 c1 l1 A2 c2 l2 A3 c3 l3 A4 c4 l4 X1 X2 XA Y1 Y2 YT x 6 w' := hdep { on := 6, ground := Ground.data } (by simp [thenOps]) rfl
      have e49 : (putAll a x thenOps.toList 0).tmps.getD 49 undef = x 6 := by have h := hget 6 49 _ (show thenOps.toList[6]? = some _ from rfl) rfl (by decide); rw [Nat.zero_add] at h; exact h
      have d8 : ThenR g base W A1 c1 l1 A2 c2 l2 A3 c3 l3 A4 c4 l4 X1 X2 XA Y1 Y2 YT x 8 w' := hdep { on := 8, ground := Ground.data } (by simp [thenOps]) rfl
      have e51 : (putAll a x thenOps.toList 0).tmps.getD 51 undef = x 8 := by have h := hget 8 51 _ (show thenOps.toList[8]? = some _ from rfl) rfl (by decide); rw [Nat.zero_add] at h; exact h
      generalize putAll a x thenOps.toList 0 = A at *
      refine goes_ Tryz.func107 (by kernel_rfl) rfl #[.slice A3 l3.length c3, .slice A2 l2.length c2, .bool false] rfl rfl rfl (by have q1 : A.eval (.tmp 49) = .slice A3 l3.length c3 := e49.trans d6; have q2 : A.eval (.tmp 51) = .slice A2 l2.length c2 := e51.trans d8; simp only [List.map_toArray, List.map_cons, List.map_nil, q1, q2]; rfl) ((p2 w' r3 r2).mono ?_)
      rintro e w'' ⟨v, rfl, hv, hb⟩
      refine ⟨v, rfl, hK.out _ _ (below_step hJ hb) (fun j _ hj => keep _ hb j hj) ?_⟩
      show Kd.R k25 25 w'' base (fun _ => True) (upd x 9 v 9) X2
      rw [upd_at]
      exact Kd.R_lower hv (Nat.le_trans hg hJ.size)
    · injection hoi with hoi; subst hoi
      have d4 : ThenR g base W A1 c1 l1 A2 c2 l2 A3 c3 l3 A4 c4 l4 X1 X2 XA Y1 Y2 YT x 4 w' := hdep { on := 4, ground := Ground.data } (by simp [thenOps]) rfl
      have e47 : (putAll a x thenOps.toList 0).tmps.getD 47 undef = x 4 := by have h := hget 4 47 _ (show thenOps.toList[4]? = some _ from rfl) rfl (by decide); rw [Nat.zero_add] at h; exact h
      have d9 : ThenR g base W A1 c1 l1 A2 c2 l2 A3 c3 l3 A4 c4 l4 X1 X2 XA Y1 Y2 YT x 9 w' := hdep { on := 9, ground := Ground.data } (by simp [thenOps]) rfl
      have e52 : (putAll a x thenOps.toList 0).tmps.getD 52 undef = x 9 := by have h := hget 9 52 _ (show thenOps.toList[9]? = some _ from rfl) rfl (by decide); rw [Nat.zero_add] at h; exact h
      generalize putAll a x thenOps.toList 0 = A at *
      obtain ⟨B1, b1, ex1, C1, n1⟩ := R_row d4
      obtain ⟨B2, b2, ex2, C2, n2⟩ := R_row d9
      refine goes_ Tryz.func108 (by kernel_rfl) rfl #[.slice B1 X1.length b1, .slice B2 X2.length b2] rfl rfl rfl (by have q1 : A.eval (.tmp 47) = .slice B1 X1.length b1 := e47.trans ex1; have q2 : A.eval (.tmp 52) = .slice B2 X2.length b2 := e52.trans ex2; simp only [List.map_toArray, List.map_cons, List.map_nil, q1, q2]) ((u1 w' B1 b1 B2 b2 C1 n1 C2 n2).mono ?_)
      rintro e w'' ⟨v, rfl, hv, hb⟩
      refine ⟨v, rfl, hK.out _ _ (below_step hJ hb) (fun j _ hj => keep _ hb j hj) ?_⟩
      show Kd.R k25 25 w'' base (fun _ => True) (upd x 10 v 10) XA
      rw [upd_at]
      exact Kd.R_lower hv (Nat.le_trans hg hJ.size)
    · injection hoi with hoi; subst hoi
      generalize putAll a x thenOps.toList 0 = A at *
      have hrun : (execOp A.eval { dst := some 54, op := Op.fieldAddr 48 (Operand.tmp 2) 1, type := 0, pos := "layer.go:74", after := #[], guard := none }).run Tryz.prog w' = .ok (.value (.pointer (some ⟨g, 1, none⟩))) w' := by
        have fa2 : A.tmps.getD 2 undef = .pointer (some ⟨g, 0, none⟩) := e2
        have fb2 : A.tmps[2]?.getD undef = .pointer (some ⟨g, 0, none⟩) := by rw [← Array.getD_eq_getD_getElem?]; exact fa2
        clear hK keep hget hdep e2 e3; go_simp
      exact event_step rfl hrun (hK.out _ _ hJ (fun j _ hj => hj) (upd_at _ _ _))
    · injection hoi with hoi; subst hoi
      have d11 : ThenR g base W A1 c1 l1 A2 c2 l2 A3 c3 l3 A4 c4 l4 X1 X2 XA Y1 Y2 YT x 11 w' := hdep { on := 11, ground := Ground.data } (by simp [thenOps]) rfl
      have e54 : (putAll a x thenOps.toList 0).tmps.getD 54 undef = x 11 := by have h := hget 11 54 _ (show thenOps.toList[11]? = some _ from rfl) rfl (by decide); rw [Nat.zero_add] at h; exact h
      generalize putAll a x thenOps.toList 0 = A at *
      have hrun : (execOp A.eval { dst := some 55, op := Op.load 26 (Operand.tmp 54), type := 26, pos := "layer.go:74", after := #[{ on := 11, ground := Ground.data }], guard := none }).run Tryz.prog w' = .ok (.value (.slice A2 l2.length c2)) w' := by
        have fa54 : A.tmps.getD 54 undef = .pointer (some ⟨g, 1, none⟩) := e54.trans d11
        have fb54 : A.tmps[54]?.getD undef = .pointer (some ⟨g, 1, none⟩) := by rw [← Array.getD_eq_getD_getElem?]; exact fa54
        clear hK keep hget hdep e2 e3 e54; go_simp
      exact event_step rfl hrun (hK.out _ _ hJ (fun j _ hj => hj) (upd_at _ _ _))
    · injection hoi with hoi; subst hoi
      generalize putAll a x thenOps.toList 0 = A at *
      have hrun : (execOp A.eval { dst := some 56, op := Op.fieldAddr 48 (Operand.tmp 3) 0, type := 0, pos := "layer.go:74", after := #[], guard := none }).run Tryz.prog w' = .ok (.value (.pointer (some ⟨g + 1, 0, none⟩))) w' := by
        have fa3 : A.tmps.getD 3 undef = .pointer (some ⟨g + 1, 0, none⟩) := e3
        have fb3 : A.tmps[3]?.getD undef = .pointer (some ⟨g + 1, 0, none⟩) := by rw [← Array.getD_eq_getD_getElem?]; exact fa3
        clear hK keep hget hdep e2 e3; go_simp
      exact event_step rfl hrun (hK.out _ _ hJ (fun j _ hj => hj) (upd_at _ _ _))
    · injection hoi with hoi; subst hoi
      have d13 : ThenR g base W A1 c1 l1 A2 c2 l2 A3 c3 l3 A4 c4 l4 X1 X2 XA Y1 Y2 YT x 13 w' := hdep { on := 13, ground := Ground.data } (by simp [thenOps]) rfl
      have e56 : (putAll a x thenOps.toList 0).tmps.getD 56 undef = x 13 := by have h := hget 13 56 _ (show thenOps.toList[13]? = some _ from rfl) rfl (by decide); rw [Nat.zero_add] at h; exact h
      generalize putAll a x thenOps.toList 0 = A at *
      have hrun : (execOp A.eval { dst := some 57, op := Op.load 26 (Operand.tmp 56), type := 26, pos := "layer.go:74", after := #[{ on := 13, ground := Ground.data }], guard := none }).run Tryz.prog w' = .ok (.value (.slice A3 l3.length c3)) w' := by
        have fa56 : A.tmps.getD 56 undef = .pointer (some ⟨g + 1, 0, none⟩) := e56.trans d13
        have fb56 : A.tmps[56]?.getD undef = .pointer (some ⟨g + 1, 0, none⟩) := by rw [← Array.getD_eq_getD_getElem?]; exact fa56
        clear hK keep hget hdep e2 e3 e56; go_simp
      exact event_step rfl hrun (hK.out _ _ hJ (fun j _ hj => hj) (upd_at _ _ _))
    · injection hoi with hoi; subst hoi
      have d12 : ThenR g base W A1 c1 l1 A2 c2 l2 A3 c3 l3 A4 c4 l4 X1 X2 XA Y1 Y2 YT x 12 w' := hdep { on := 12, ground := Ground.data } (by simp [thenOps]) rfl
      have e55 : (putAll a x thenOps.toList 0).tmps.getD 55 undef = x 12 := by have h := hget 12 55 _ (show thenOps.toList[12]? = some _ from rfl) rfl (by decide); rw [Nat.zero_add] at h; exact h
      have d14 : ThenR g base W A1 c1 l1 A2 c2 l2 A3 c3 l3 A4 c4 l4 X1 X2 XA Y1 Y2 YT x 14 w' := hdep { on := 14, ground := Ground.data } (by simp [thenOps]) rfl
      have e57 : (putAll a x thenOps.toList 0).tmps.getD 57 undef = x 14 := by have h := hget 14 57 _ (show thenOps.toList[14]? = some _ from rfl) rfl (by decide); rw [Nat.zero_add] at h; exact h
      generalize putAll a x thenOps.toList 0 = A at *
      refine goes_ Tryz.func107 (by kernel_rfl) rfl #[.slice A2 l2.length c2, .slice A3 l3.length c3, .bool false] rfl rfl rfl (by have q1 : A.eval (.tmp 55) = .slice A2 l2.length c2 := e55.trans d12; have q2 : A.eval (.tmp 57) = .slice A3 l3.length c3 := e57.trans d14; simp only [List.map_toArray, List.map_cons, List.map_nil, q1, q2]; rfl) ((p3 w' r2 r3).mono ?_)
      rintro e w'' ⟨v, rfl, hv, hb⟩
      refine ⟨v, rfl, hK.out _ _ (below_step hJ hb) (fun j _ hj => keep _ hb j hj) ?_⟩
      show Kd.R k25 25 w'' base (fun _ => True) (upd x 15 v 15) Y1
      rw [upd_at]
      exact Kd.R_lower hv (Nat.le_trans hg hJ.size)
    · injection hoi with hoi; subst hoi
      generalize putAll a x thenOps.toList 0 = A at *
      have hrun : (execOp A.eval { dst := some 59, op := Op.fieldAddr 48 (Operand.tmp 3) 1, type := 0, pos := "layer.go:74", after := #[], guard := none }).run Tryz.prog w' = .ok (.value (.pointer (some ⟨g + 1, 1, none⟩))) w' := by
        have fa3 : A.tmps.getD 3 undef = .pointer (some ⟨g + 1, 0, none⟩) := e3
        have fb3 : A.tmps[3]?.getD undef = .pointer (some ⟨g + 1, 0, none⟩) := by rw [← Array.getD_eq_getD_getElem?]; exact fa3
        clear hK keep hget hdep e2 e3; go_simp
      exact event_step rfl hrun (hK.out _ _ hJ (fun j _ hj => hj) (upd_at _ _ _))
    · injection hoi with hoi; subst hoi
      have d16 : ThenR g base W A1 c1 l1 A2 c2 l2 A3 c3 l3 A4 c4 l4 X1 X2 XA Y1 Y2 YT x 16 w' := hdep { on := 16, ground := Ground.data } (by simp [thenOps]) rfl
      have e59 : (putAll a x thenOps.toList 0).tmps.getD 59 undef = x 16 := by have h := hget 16 59 _ (show thenOps.toList[16]? = some _ from rfl) rfl (by decide); rw [Nat.zero_add] at h; exact h
      generalize putAll a x thenOps.toList 0 = A at *
      have hrun : (execOp A.eval { dst := some 60, op := Op.load 26 (Operand.tmp 59), type := 26, pos := "layer.go:74", after := #[{ on := 16, ground := Ground.data }], guard := none }).run Tryz.prog w' = .ok (.value (.slice A4 l4.length c4)) w' := by
        have fa59 : A.tmps.getD 59 undef = .pointer (some ⟨g + 1, 1, none⟩) := e59.trans d16
        have fb59 : A.tmps[59]?.getD undef = .pointer (some ⟨g + 1, 1, none⟩) := by rw [← Array.getD_eq_getD_getElem?]; exact fa59
        clear hK keep hget hdep e2 e3 e59; go_simp
      exact event_step rfl hrun (hK.out _ _ hJ (fun j _ hj => hj) (upd_at _ _ _))
    · injection hoi with hoi; subst hoi
      generalize putAll a x thenOps.toList 0 = A at *
      have hrun : (execOp A.eval { dst := some 61, op := Op.fieldAddr 48 (Operand.tmp 2) 0, type := 0, pos := "layer.go:74", after := #[], guard := none }).run Tryz.prog w' = .ok (.value (.pointer (some ⟨g, 0, none⟩))) w' := by
        have fa2 : A.tmps.getD 2 undef = .pointer (some ⟨g, 0, none⟩) := e2
        have fb2 : A.tmps[2]?.getD undef = .pointer (some ⟨g, 0, none⟩) := by rw [← Array.getD_eq_getD_getElem?]; exact fa2
        clear hK keep hget hdep e2 e3; go_simp
      exact event_step rfl hrun (hK.out _ _ hJ (fun j _ hj => hj) (upd_at _ _ _))
    · injection hoi with hoi; subst hoi
      have d18 : ThenR g base W A1 c1 l1 A2 c2 l2 A3 c3 l3 A4 c4 l4 X1 X2 XA Y1 Y2 YT x 18 w' := hdep { on := 18, ground := Ground.data } (by simp [thenOps]) rfl
      have e61 : (putAll a x thenOps.toList 0).tmps.getD 61 undef = x 18 := by have h := hget 18 61 _ (show thenOps.toList[18]? = some _ from rfl) rfl (by decide); rw [Nat.zero_add] at h; exact h
      generalize putAll a x thenOps.toList 0 = A at *
      have hrun : (execOp A.eval { dst := some 62, op := Op.load 26 (Operand.tmp 61), type := 26, pos := "layer.go:74", after := #[{ on := 18, ground := Ground.data }], guard := none }).run Tryz.prog w' = .ok (.value (.slice A1 l1.length c1)) w' := by
        have fa61 : A.tmps.getD 61 undef = .pointer (some ⟨g, 0, none⟩) := e61.trans d18
        have fb61 : A.tmps[61]?.getD undef = .pointer (some ⟨g, 0, none⟩) := by rw [← Array.getD_eq_getD_getElem?]; exact fa61
        clear hK keep hget hdep e2 e3 e61; go_simp
      exact event_step rfl hrun (hK.out _ _ hJ (fun j _ hj => hj) (upd_at _ _ _))
    · injection hoi with hoi; subst hoi
      have d17 : ThenR g base W A1 c1 l1 A2 c2 l2 A3 c3 l3 A4 c4 l4 X1 X2 XA Y1 Y2 YT x 17 w' := hdep { on := 17, ground := Ground.data } (by simp [thenOps]) rfl
      have e60 : (putAll a x thenOps.toList 0).tmps.getD 60 undef = x 17 := by have h := hget 17 60 _ (show thenOps.toList[17]? = some _ from rfl) rfl (by decide); rw [Nat.zero_add] at h; exact h
      have d19 : ThenR g base W A1 c1 l1 A2 c2 l2 A3 c3 l3 A4 c4 l4 X1 X2 XA Y1 Y2 YT x 19 w' := hdep { on := 19, ground := Ground.data } (by simp [thenOps]) rfl
      have e62 : (putAll a x thenOps.toList 0).tmps.getD 62 undef = x 19 := by have h := hget 19 62 _ (show thenOps.toList[19]? = some _ from rfl) rfl (by decide); rw [Nat.zero_add] at h; exact h
      generalize putAll a x thenOps.toList 0 = A at *
      refine goes_ Tryz.func107 (by kernel_rfl) rfl #[.slice A4 l4.length c4, .slice A1 l1.length c1, .bool false] rfl rfl rfl (by have q1 : A.eval (.tmp 60) = .slice A4 l4.length c4 := e60.trans d17; have q2 : A.eval (.tmp 62) = .slice A1 l1.length c1 := e62.trans d19; simp only [List.map_toArray, List.map_cons, List.map_nil, q1, q2]; rfl) ((p4 w' r4 r1).mono ?_)
      rintro e w'' ⟨v, rfl, hv, hb⟩
      refine ⟨v, rfl, hK.out _ _ (below_step hJ hb) (fun j _ hj => keep _ hb j hj) ?_⟩
      show Kd.R k25 25 w'' base (fun _ => True) (upd x 20 v 20) Y2
      rw [upd_at]
      exact Kd.R_lower hv (Nat.le_trans hg hJ.size)
    · injection hoi with hoi; subst hoi
      have d15 : ThenR g base W A1 c1 l1 A2 c2 l2 A3 c3 l3 A4 c4 l4 X1 X2 XA Y1 Y2 YT x 15 w' := hdep { on := 15, ground := Ground.data } (by simp [thenOps]) rfl
      have e58 : (putAll a x thenOps.toList 0).tmps.getD 58 undef = x 15 := by have h := hget 15 58 _ (show thenOps.toList[15]? = some _ from rfl) rfl (by decide); rw [Nat.zero_add] at h; exact h
      have d20 : ThenR g base W A1 c1 l1 A2 c2 l2 A3 c3 l3 A4 c4 l4 X1 X2 XA Y1 Y2 YT x 20 w' := hdep { on := 20, ground := Ground.data } (by simp [thenOps]) rfl
      have e63 : (putAll a x thenOps.toList 0).tmps.getD 63 undef = x 20 := by have h := hget 20 63 _ (show thenOps.toList[20]? = some _ from rfl) rfl (by decide); rw [Nat.zero_add] at h; exact h
      generalize putAll a x thenOps.toList 0 = A at *
      obtain ⟨B1, b1, ex1, C1, n1⟩ := R_row d15
      obtain ⟨B2, b2, ex2, C2, n2⟩ := R_row d20
      refine goes_ Tryz.func108 (by kernel_rfl) rfl #[.slice B1 Y1.length b1, .slice B2 Y2.length b2] rfl rfl rfl (by have q1 : A.eval (.tmp 58) = .slice B1 Y1.length b1 := e58.trans ex1; have q2 : A.eval (.tmp 63) = .slice B2 Y2.length b2 := e63.trans ex2; simp only [List.map_toArray, List.map_cons, List.map_nil, q1, q2]) ((u2 w' B1 b1 B2 b2 C1 n1 C2 n2).mono ?_)
      rintro e w'' ⟨v, rfl, hv, hb⟩
      refine ⟨v, rfl, hK.out _ _ (below_step hJ hb) (fun j _ hj => keep _ hb j hj) ?_⟩
      show Kd.R k25 25 w'' base (fun _ => True) (upd x 21 v 21) YT
      rw [upd_at]
      exact Kd.R_lower hv (Nat.le_trans hg hJ.size)
    · injection hoi with hoi; subst hoi
      have d10 : ThenR g base W A1 c1 l1 A2 c2 l2 A3 c3 l3 A4 c4 l4 X1 X2 XA Y1 Y2 YT x 10 w' := hdep { on := 10, ground := Ground.data } (by simp [thenOps]) rfl
      have e53 : (putAll a x thenOps.toList 0).tmps.getD 53 undef = x 10 := by have h := hget 10 53 _ (show thenOps.toList[10]? = some _ from rfl) rfl (by decide); rw [Nat.zero_add] at h; exact h
      have d21 : ThenR g base W A1 c1 l1 A2 c2 l2 A3 c3 l3 A4 c4 l4 X1 X2 XA Y1 Y2 YT x 21 w' := hdep { on := 21, ground := Ground.data } (by simp [thenOps]) rfl
      have e64 : (putAll a x thenOps.toList 0).tmps.getD 64 undef = x 21 := by have h := hget 21 64 _ (show thenOps.toList[21]? = some _ from rfl) rfl (by decide); rw [Nat.zero_add] at h; exact h
      generalize putAll a x thenOps.toList 0 = A at *
      obtain ⟨Au, cu, eu⟩ := Kd.R_slice d10; obtain ⟨Av, cv, ev⟩ := Kd.R_slice d21
      have hrun : (execOp A.eval { dst := some 65, op := Op.build 48 #[(0, Operand.tmp 53), (1, Operand.tmp 64)], type := 48, pos := "layer.go:74", after := #[{ on := 10, ground := Ground.data }, { on := 21, ground := Ground.data }], guard := none }).run Tryz.prog w' = .ok (.value (.agg #[x 10, x 21])) w' := by
        have fa53 : A.tmps.getD 53 undef = .slice Au XA.length cu := e53.trans eu
        have fb53 : A.tmps[53]?.getD undef = .slice Au XA.length cu := by rw [← Array.getD_eq_getD_getElem?]; exact fa53
        have fa64 : A.tmps.getD 64 undef = .slice Av YT.length cv := e64.trans ev
        have fb64 : A.tmps[64]?.getD undef = .slice Av YT.length cv := by rw [← Array.getD_eq_getD_getElem?]; exact fa64
        rw [eu, ev]
        clear hK keep hget hdep e2 e3 e53 e64 eu ev; go_simp
      refine event_step rfl hrun (hK.out _ _ hJ (fun j _ hj => hj) ?_)
      show upd x 22 _ 22 = .agg #[upd x 22 _ 10, upd x 22 _ 21]
      rw [upd_at, upd_ne x _ (show (10 : Nat) ≠ 22 by decide), upd_ne x _ (show (21 : Nat) ≠ 22 by decide)]
    · injection hoi with hoi; subst hoi
      generalize putAll a x thenOps.toList 0 = A at *
      have hrun : (execOp A.eval { dst := some 9, op := Op.alloc 48, type := 0, pos := "layer.go:74", after := #[], guard := none }).run Tryz.prog w' = .ok (.value (.pointer (some ⟨w'.heap.size, 0, none⟩))) (w'.alloc (.cells #[.slice none 0 0, .slice none 0 0] 48 (0, 0))) := by
        clear hK keep hget hdep; go_simp
      refine event_step rfl hrun (hK.out _ _ (below_alloc hJ _) (fun j _ hj => keep _ (below_alloc (Below.refl _ _) _) j hj) ?_)
      exact ⟨w'.heap.size, _, upd_at _ _ _, hJ.size, rfl, blk_new _ _⟩
    · injection hoi with hoi; subst hoi
      have d23 : ThenR g base W A1 c1 l1 A2 c2 l2 A3 c3 l3 A4 c4 l4 X1 X2 XA Y1 Y2 YT x 23 w' := hdep { on := 23, ground := Ground.data } (by simp [thenOps]) rfl
      have e9 : (putAll a x thenOps.toList 0).tmps.getD 9 undef = x 23 := by have h := hget 23 9 _ (show thenOps.toList[23]? = some _ from rfl) rfl (by decide); rw [Nat.zero_add] at h; exact h
      have d22 : ThenR g base W A1 c1 l1 A2 c2 l2 A3 c3 l3 A4 c4 l4 X1 X2 XA Y1 Y2 YT x 22 w' := hdep { on := 22, ground := Ground.data } (by simp [thenOps]) rfl
      have e65 : (putAll a x thenOps.toList 0).tmps.getD 65 undef = x 22 := by have h := hget 22 65 _ (show thenOps.toList[22]? = some _ from rfl) rfl (by decide); rw [Nat.zero_add] at h; exact h
      generalize putAll a x thenOps.toList 0 = A at *
      obtain ⟨b, cs, x23, hWb, hcs, hbk⟩ := d23
      have x22 : x 22 = .agg #[x 10, x 21] := d22
      have D10 : ThenR g base W A1 c1 l1 A2 c2 l2 A3 c3 l3 A4 c4 l4 X1 X2 XA Y1 Y2 YT x 10 w' := hdep { on := 10, ground := Ground.phase } (by simp [thenOps]) rfl
      have D21 : ThenR g base W A1 c1 l1 A2 c2 l2 A3 c3 l3 A4 c4 l4 X1 X2 XA Y1 Y2 YT x 21 w' := hdep { on := 21, ground := Ground.phase } (by simp [thenOps]) rfl
      obtain ⟨Au, cu, eu⟩ := Kd.R_slice D10; obtain ⟨Av, cv, ev⟩ := Kd.R_slice D21
      obtain ⟨y0, y1, rfl⟩ : ∃ y0 y1, cs = #[y0, y1] := by
        obtain ⟨cs⟩ := cs
        match cs, hcs with
        | [y0, y1], _ => exact ⟨y0, y1, rfl⟩
      have k0 : w'.cell? ⟨b, 0, none⟩ = some y0 := (blk_cell hbk 0).trans rfl; have k1' : w'.cell? ⟨b, 1, none⟩ = some y1 := (blk_cell hbk 1).trans rfl; have f0 : w'.frozen? ⟨b, 0, none⟩ = false := blk_frozen hbk 0; have f1 : w'.frozen? ⟨b, 1, none⟩ = false := blk_frozen hbk 1
      have hrun : (execOp A.eval { dst := none, op := Op.store 48 (Operand.tmp 9) (Operand.tmp 65), type := 0, pos := "layer.go:74", after := #[{ on := 23, ground := Ground.data }, { on := 22, ground := Ground.data }, { on := 21, ground := Ground.chain }, { on := 0, ground := Ground.phase }, { on := 1, ground := Ground.phase }, { on := 2, ground := Ground.phase }, { on := 3, ground := Ground.phase }, { on := 4, ground := Ground.phase }, { on := 5, ground := Ground.phase }, { on := 6, ground := Ground.phase }, { on := 7, ground := Ground.phase }, { on := 8, ground := Ground.phase }, { on := 9, ground := Ground.phase }, { on := 10, ground := Ground.phase }, { on := 11, ground := Ground.phase }, { on := 12, ground := Ground.phase }, { on := 13, ground := Ground.phase }, { on := 14, ground := Ground.phase }, { on := 15, ground := Ground.phase }, { on := 16, ground := Ground.phase }, { on := 17, ground := Ground.phase }, { on := 18, ground := Ground.phase }, { on := 19, ground := Ground.phase }, { on := 20, ground := Ground.phase }, { on := 21, ground := Ground.phase }, { on := 22, ground := Ground.phase }, { on := 23, ground := Ground.phase }], guard := none }).run Tryz.prog w' = .ok .skip ((w'.setCell ⟨b, 0, none⟩ (x 10)).setCell ⟨b, 1, none⟩ (x 21)) := by
        have fa9 : A.tmps.getD 9 undef = .pointer (some ⟨b, 0, none⟩) := e9.trans x23
        have fb9 : A.tmps[9]?.getD undef = .pointer (some ⟨b, 0, none⟩) := by rw [← Array.getD_eq_getD_getElem?]; exact fa9
        have fa65 : A.tmps.getD 65 undef = .agg #[.slice Au XA.length cu, .slice Av YT.length cv] := (by rw [← eu, ← ev]; exact e65.trans x22)
        have fb65 : A.tmps[65]?.getD undef = .agg #[.slice Au XA.length cu, .slice Av YT.length cv] := by rw [← Array.getD_eq_getD_getElem?]; exact fa65
        rw [eu, ev]
        clear hK keep hget hdep m1 m2 m3 m4 e2 e3 e9 e65 eu ev x22 x23; go_simp
      refine skip_step rfl hrun (hK.out _ _ (below_set (below_set hJ hWb) hWb) (fun j hj24 hj => ?_) ?_)
      · rcases j with _ | _ | _ | _ | _ | _ | _ | _ | _ | _ | _ | _ | _ | _ | _ | _ | _ | _ | _ | _ | _ | _ | _ | _ | _ | j
        · exact hj
        · exact hj
        · exact hj
        · exact hj
        · exact Kd.R_set (Kd.R_set hj hbk (by decide) 0 _) (blk_put hbk 0 _ rfl) (by decide) 1 _
        · exact hj
        · exact hj
        · exact hj
        · exact hj
        · exact Kd.R_set (Kd.R_set hj hbk (by decide) 0 _) (blk_put hbk 0 _ rfl) (by decide) 1 _
        · exact Kd.R_set (Kd.R_set hj hbk (by decide) 0 _) (blk_put hbk 0 _ rfl) (by decide) 1 _
        · exact hj
        · exact hj
        · exact hj
        · exact hj
        · exact Kd.R_set (Kd.R_set hj hbk (by decide) 0 _) (blk_put hbk 0 _ rfl) (by decide) 1 _
        · exact hj
        · exact hj
        · exact hj
        · exact hj
        · exact Kd.R_set (Kd.R_set hj hbk (by decide) 0 _) (blk_put hbk 0 _ rfl) (by decide) 1 _
        · exact Kd.R_set (Kd.R_set hj hbk (by decide) 0 _) (blk_put hbk 0 _ rfl) (by decide) 1 _
        · exact hj
        · exact ⟨b, _, x23, hWb, rfl, blk_put (blk_put hbk 0 _ rfl) 1 _ rfl⟩
        · exact absurd rfl hj24
        · exact trivial
      · refine ⟨b, ?_, ?_, hWb, ?_⟩
        · rw [upd_ne x _ (show (23 : Nat) ≠ 24 by decide)]; exact x23
        · rw [upd_ne x _ (show (22 : Nat) ≠ 24 by decide), upd_ne x _ (show (10 : Nat) ≠ 24 by decide), upd_ne x _ (show (21 : Nat) ≠ 24 by decide)]; exact x22
        · rw [upd_ne x _ (show (10 : Nat) ≠ 24 by decide), upd_ne x _ (show (21 : Nat) ≠ 24 by decide)]; exact blk_put (blk_put hbk 0 _ rfl) 1 _ rfl
    · cases hoi
  · intro x w' hJ hall
    have d10 : Kd.R k25 25 w' base (fun _ => True) (x 10) XA := hall 10 (by decide +kernel)
    have d21 : Kd.R k25 25 w' base (fun _ => True) (x 21) YT := hall 21 (by decide +kernel)
    obtain ⟨b, x23, x22, hWb, hbk⟩ := hall 24 (by decide +kernel)
    obtain ⟨Au, cu, eu⟩ := Kd.R_slice d10; obtain ⟨Av, cv, ev⟩ := Kd.R_slice d21
    exact hend x w' b Au cu Av cv hJ rfl eu ev d10 d21 x23 hWb hbk
end Go.Proofs.YtdjamphmndbmjaaGreatDoor.M

/- Package layer: Then (printed by wip/gen_lay5.py). -/
namespace Go.Proofs.YtdjamphmndbmjaaGreatDoor.M
open Go.RowKit Go.Proofs.YtdjamphmndbmjaaGreatDoorW.PrintWords Go.Proofs.YtdjamphmndbmjaaGreatDoorW.PrintLast Go.Proofs.YtdjamphmndbmjaaGreatDoorW.PrintMore
set_option linter.unusedVariables false
set_option linter.unusedSimpArgs false

set_option maxHeartbeats 16000000 in
set_option maxRecDepth 100000 in
theorem then_calls (A1 : Option Addr) (c1 : Nat) (l1 : List S25) (A2 : Option Addr) (c2 : Nat) (l2 : List S25) (A3 : Option Addr) (c3 : Nat) (l3 : List S25) (A4 : Option Addr) (c4 : Nat) (l4 : List S25) (w : World) (hr1 : Kd.C k25 w A1 l1.length l1) (hc1 : l1.length ≤ c1) (hr2 : Kd.C k25 w A2 l2.length l2) (hc2 : l2.length ≤ c2) (hr3 : Kd.C k25 w A3 l3.length l3) (hc3 : l3.length ≤ c3) (hr4 : Kd.C k25 w A4 l4.length l4) (hc4 : l4.length ≤ c4) :
    Calls Tryz.prog 52 #[.agg #[.slice A1 l1.length c1, .slice A2 l2.length c2], .agg #[.slice A3 l3.length c3, .slice A4 l4.length c4]] w fun e w' => ∃ v, e = .returned (.tuple #[v, errW (thenR l1 l2 l3 l4).2]) ∧ LRow w' w.heap.size v (thenR l1 l2 l3 l4).1.1 (thenR l1 l2 l3 l4).1.2 ∧ Below w.heap.size w w' := by
  obtain ⟨W0, hW0⟩ : ∃ W0, W0 = ((((w.alloc (.cells #[.slice A1 l1.length c1, .slice A2 l2.length c2] 48)).alloc (.cells #[.slice A3 l3.length c3, .slice A4 l4.length c4] 48)).alloc (.cells #[.slice none 0 0, .slice none 0 0] 48 (0, 0))).alloc (.cells #[.slice A1 l1.length c1, .slice A2 l2.length c2, .slice A3 l3.length c3, .slice A4 l4.length c4] 48)) := ⟨_, rfl⟩
  have HR1 : Aside0 (Kd.C k25 W0 A1 l1.length l1) := ⟨by rw [hW0]; exact Kd.C_alloc (Kd.C_alloc (Kd.C_alloc (Kd.C_alloc hr1 _) _) _) _⟩
  have HR2 : Aside0 (Kd.C k25 W0 A2 l2.length l2) := ⟨by rw [hW0]; exact Kd.C_alloc (Kd.C_alloc (Kd.C_alloc (Kd.C_alloc hr2 _) _) _) _⟩
  have HR3 : Aside0 (Kd.C k25 W0 A3 l3.length l3) := ⟨by rw [hW0]; exact Kd.C_alloc (Kd.C_alloc (Kd.C_alloc (Kd.C_alloc hr3 _) _) _) _⟩
  have HR4 : Aside0 (Kd.C k25 W0 A4 l4.length l4) := ⟨by rw [hW0]; exact Kd.C_alloc (Kd.C_alloc (Kd.C_alloc (Kd.C_alloc hr4 _) _) _) _⟩
  have HB0 : Aside0 (Below w.heap.size w W0) := ⟨by rw [hW0]; exact below_alloc (below_alloc (below_alloc (below_alloc (Below.refl _ _) _) _) _) _⟩
  have BA : Aside0 (Box W0 w.heap.size #[.slice A1 l1.length c1, .slice A2 l2.length c2]) := ⟨by rw [hW0]; exact fun c v h => cell?_alloc_old' (cell?_alloc_old' (cell?_alloc_old' (Box.new w _ _ c v h) _) _) _⟩
  have BB : Aside0 (Box W0 (w.heap.size + 1) #[.slice A3 l3.length c3, .slice A4 l4.length c4]) := ⟨by rw [hW0]; exact fun c v h => cell?_alloc_old' (cell?_alloc_old' (by have q := Box.new (w.alloc (.cells #[.slice A1 l1.length c1, .slice A2 l2.length c2] 48)) #[.slice A3 l3.length c3, .slice A4 l4.length c4] 48 c v h; rw [alloc_size1] at q; exact q) _) _⟩
  have HK : Aside0 (W0.heap[w.heap.size + 1 + 1]? = some (.cells #[.slice none 0 0, .slice none 0 0] 48 (0, 0))) := ⟨by rw [hW0]; exact blk_alloc (by have q := blk_new ((w.alloc (.cells #[.slice A1 l1.length c1, .slice A2 l2.length c2] 48)).alloc (.cells #[.slice A3 l3.length c3, .slice A4 l4.length c4] 48)) (.cells #[.slice none 0 0, .slice none 0 0] 48 (0, 0)); rw [alloc_size1, alloc_size1] at q; exact q) _⟩
  have BS : Aside0 (Box W0 (w.heap.size + 1 + 1 + 1) #[.slice A1 l1.length c1, .slice A2 l2.length c2, .slice A3 l3.length c3, .slice A4 l4.length c4]) := ⟨by rw [hW0]; exact fun c v h => (by have q := Box.new (((w.alloc (.cells #[.slice A1 l1.length c1, .slice A2 l2.length c2] 48)).alloc (.cells #[.slice A3 l3.length c3, .slice A4 l4.length c4] 48)).alloc (.cells #[.slice none 0 0, .slice none 0 0] 48 (0, 0))) #[.slice A1 l1.length c1, .slice A2 l2.length c2, .slice A3 l3.length c3, .slice A4 l4.length c4] 48 c v h; rw [alloc_size1, alloc_size1, alloc_size1] at q; exact q)⟩
  have hz : W0.heap.size = w.heap.size + 1 + 1 + 1 + 1 := by rw [hW0, alloc_size1, alloc_size1, alloc_size1, alloc_size1]
  have HG : Aside0 (w.heap.size ≤ W0.heap.size) := ⟨by omega⟩
  have HZ := Aside0.mk hz; have HW0 := Aside0.mk hW0; clear hz
  have hc12 := fun W h1 h2 => lcheck_calls A1 c1 l1 A2 c2 l2 W h1 hc1 h2 hc2
  have hc34 := fun W h3 h4 => lcheck_calls A3 c3 l3 A4 c4 l4 W h3 hc3 h4 hc4
  have HC12 := Aside0.mk hc12; have HC34 := Aside0.mk hc34; clear hr1 hr2 hr3 hr4 hc12 hc34
  have HN1 := Aside0.mk hc1
  have HN2 := Aside0.mk hc2
  have HN3 := Aside0.mk hc3
  have HN4 := Aside0.mk hc4
  clear hc1 hc2 hc3 hc4
  go_enter Tryz.func52, Tryz.ntmps52
  go_wp2
  have HS0 : Aside0 (Below W0.heap.size W0 ((((w.alloc (.cells #[.slice A1 l1.length c1, .slice A2 l2.length c2] 48)).alloc (.cells #[.slice A3 l3.length c3, .slice A4 l4.length c4] 48)).alloc (.cells #[.slice none 0 0, .slice none 0 0] 48 (0, 0))).alloc (.cells #[.slice A1 l1.length c1, .slice A2 l2.length c2, .slice A3 l3.length c3, .slice A4 l4.length c4] 48))) := ⟨by rw [HW0.out]; exact Below.refl _ _⟩
  clear hW0
  go_loopg [7, 8, 14] 2 (fun gg _ _ s14 wr => Aside0 (Below W0.heap.size W0 wr) ∧ ((s14 = .int .i64 0 ∧ gg = 2) ∨ (s14 = .int .i64 1 ∧ gg = 1 ∧ Aside0 (layErr l1 l2 = none)) ∨ (s14 = .int .i64 2 ∧ gg = 0 ∧ Aside0 (layErr l1 l2 = none ∧ layErr l3 l4 = none))))
  case atStart => exact ⟨HS0, .inl ⟨rfl, rfl⟩⟩
  case round =>
    obtain ⟨HL, hrel⟩ := hrel
    rcases hrel with ⟨rfl, rfl⟩ | ⟨rfl, rfl, HN⟩ | ⟨rfl, rfl, HN⟩
    · have z0 := (Box.keep (Below.refl _ _) HL.out BS.out) 0 (.slice A1 l1.length c1) rfl; have z1 := (Box.keep (Below.refl _ _) HL.out BS.out) 1 (.slice A2 l2.length c2) rfl
      go_wp2_with (first | (go_at_call 44; refine stop_ ?_) | (go_at_call 107; refine stop_ ?_))
      refine ⟨?_⟩
      clear z0 z1
      refine Calls.mono (HC12.out _ (Kd.C_below HR1.out (by repeat (first | exact HL.out | refine below_alloc ?_ _ | refine pw_below_drewN ?_ _ | refine below_drew1 ?_ | refine below_set ?_ HG2.out))) (Kd.C_below HR2.out (by repeat (first | exact HL.out | refine below_alloc ?_ _ | refine pw_below_drewN ?_ _ | refine below_drew1 ?_ | refine below_set ?_ HG2.out)))) ?_
      rintro e w' ⟨he, hb⟩
      have HLn := Aside0.mk (below_step (show Below W0.heap.size W0 _ from (by repeat (first | exact HL.out | refine below_alloc ?_ _ | refine pw_below_drewN ?_ _ | refine below_drew1 ?_ | refine below_set ?_ HG2.out))) hb); clear HL hb; have HL := HLn; clear HLn
      cases hq : layErr l1 l2 with
      | none =>
        rw [hq, errW_none] at he; subst he; have HQ := Aside0.mk hq; clear hq
        go_wp2
        go_roundg 1
        case measure => omega
        case rel => exact ⟨HL, .inr (.inl ⟨by go_num, rfl, HQ⟩)⟩
      | some n =>
        rw [hq, errW_some] at he; subst he; have HQ := Aside0.mk hq; clear hq
        have hk := blk_below HK.out HL.out; have r0 := (blk_cell hk 0).trans (show _ = some (Value.slice none 0 0) from rfl); have r1 := (blk_cell hk 1).trans (show _ = some (Value.slice none 0 0) from rfl); have f0 := blk_frozen hk 0; have f1 := blk_frozen hk 1; have HKW := Aside0.mk hk; clear hk
        go_wp2
        clear r0 r1 f0 f1
        have hz := HZ.out
        refine bodyPost_ret (results_ct rfl _ _ (w.heap.size + 1 + 1) 48 #[.slice none 0 0, .slice none 0 0] (0, 0) _ rfl (blk_put (cs := #[.slice none 0 0, .slice none 0 0]) (blk_put (cs := #[.slice none 0 0, .slice none 0 0]) HKW.out 0 _ rfl) 1 _ rfl) Tryz.underlying48 rfl (by kernel_rfl)) rfl ?_
        rw [show thenR l1 l2 l3 l4 = (([], []), some n) by unfold thenR; rw [HQ.out]]
        exact ⟨_, rfl, ⟨_, _, rfl, Kd.R_nil _ _ _ _ _, Kd.R_nil _ _ _ _ _⟩, (by have h := HB0.out.trans (HL.out.mono HG.out); exact below_set (below_set h (by omega)) (by omega))⟩
    · have z0 := (Box.keep (Below.refl _ _) HL.out BS.out) 2 (.slice A3 l3.length c3) rfl; have z1 := (Box.keep (Below.refl _ _) HL.out BS.out) 3 (.slice A4 l4.length c4) rfl
      go_wp2_with (first | (go_at_call 44; refine stop_ ?_) | (go_at_call 107; refine stop_ ?_))
      refine ⟨?_⟩
      clear z0 z1
      refine Calls.mono (HC34.out _ (Kd.C_below HR3.out (by repeat (first | exact HL.out | refine below_alloc ?_ _ | refine pw_below_drewN ?_ _ | refine below_drew1 ?_ | refine below_set ?_ HG2.out))) (Kd.C_below HR4.out (by repeat (first | exact HL.out | refine below_alloc ?_ _ | refine pw_below_drewN ?_ _ | refine below_drew1 ?_ | refine below_set ?_ HG2.out)))) ?_
      rintro e w' ⟨he, hb⟩
      have HLn := Aside0.mk (below_step (show Below W0.heap.size W0 _ from (by repeat (first | exact HL.out | refine below_alloc ?_ _ | refine pw_below_drewN ?_ _ | refine below_drew1 ?_ | refine below_set ?_ HG2.out))) hb); clear HL hb; have HL := HLn; clear HLn
      cases hq : layErr l3 l4 with
      | none =>
        rw [hq, errW_none] at he; subst he; have HQ := Aside0.mk hq; clear hq
        go_wp2
        go_roundg 0
        case measure => omega
        case rel => exact ⟨HL, .inr (.inr ⟨by go_num, rfl, ⟨HN.out, HQ.out⟩⟩)⟩
      | some n =>
        rw [hq, errW_some] at he; subst he; have HQ := Aside0.mk hq; clear hq
        have hk := blk_below HK.out HL.out; have r0 := (blk_cell hk 0).trans (show _ = some (Value.slice none 0 0) from rfl); have r1 := (blk_cell hk 1).trans (show _ = some (Value.slice none 0 0) from rfl); have f0 := blk_frozen hk 0; have f1 := blk_frozen hk 1; have HKW := Aside0.mk hk; clear hk
        go_wp2
        clear r0 r1 f0 f1
        have hz := HZ.out
        refine bodyPost_ret (results_ct rfl _ _ (w.heap.size + 1 + 1) 48 #[.slice none 0 0, .slice none 0 0] (0, 0) _ rfl (blk_put (cs := #[.slice none 0 0, .slice none 0 0]) (blk_put (cs := #[.slice none 0 0, .slice none 0 0]) HKW.out 0 _ rfl) 1 _ rfl) Tryz.underlying48 rfl (by kernel_rfl)) rfl ?_
        rw [show thenR l1 l2 l3 l4 = (([], []), some n) by unfold thenR; rw [HN.out, HQ.out]]
        exact ⟨_, rfl, ⟨_, _, rfl, Kd.R_nil _ _ _ _ _, Kd.R_nil _ _ _ _ _⟩, (by have h := HB0.out.trans (HL.out.mono HG.out); exact below_set (below_set h (by omega)) (by omega))⟩
    · obtain ⟨q1, q2⟩ := HN.out
      clear HN
      obtain ⟨s1, s2, _⟩ := lay_none q1; obtain ⟨s3, s4, _⟩ := lay_none q2
      have n1 := sortedR_len s1
      have n2 := sortedR_len s2
      have n3 := sortedR_len s3
      have n4 := sortedR_len s4
      have pa := fun W hi hj => part_R A1 c1 l1 A3 c3 l3 true W hi HN1.out hj HN3.out (by omega) s3
      have pb := fun W hi hj => part_R A2 c2 l2 A4 c4 l4 true W hi HN2.out hj HN4.out (by omega) s4
      have p1 := fun W hi hj => part_R A1 c1 l1 A4 c4 l4 false W hi HN1.out hj HN4.out (by omega) s4
      have p2 := fun W hi hj => part_R A3 c3 l3 A2 c2 l2 false W hi HN3.out hj HN2.out (by omega) s2
      have p3 := fun W hi hj => part_R A2 c2 l2 A3 c3 l3 false W hi HN2.out hj HN3.out (by omega) s3
      have p4 := fun W hi hj => part_R A4 c4 l4 A1 c1 l1 false W hi HN4.out hj HN1.out (by omega) s1
      have m14 : (partR l1 l4 false).length ≤ l1.length := List.length_filter_le _ _
      have m32 : (partR l3 l2 false).length ≤ l3.length := List.length_filter_le _ _
      have m23 : (partR l2 l3 false).length ≤ l2.length := List.length_filter_le _ _
      have m41 : (partR l4 l1 false).length ≤ l4.length := List.length_filter_le _ _
      have u1 := fun W A c A' c' h1 h2 h3 h4 => union_R A c (partR l1 l4 false) A' c' (partR l3 l2 false) W h1 h2 h3 h4 (by omega)
      have u2 := fun W A c A' c' h1 h2 h3 h4 => union_R A c (partR l2 l3 false) A' c' (partR l4 l1 false) W h1 h2 h3 h4 (by omega)
      have hth : thenR l1 l2 l3 l4 = if (partR l1 l3 true).length > 0 ∨ (partR l2 l4 true).length > 0 then (([], []), some 7) else if (unionR (partR l1 l4 false) (partR l3 l2 false)).length > 200 ∨ (unionR (partR l2 l3 false) (partR l4 l1 false)).length > 200 then (([], []), some 4) else ((unionR (partR l1 l4 false) (partR l3 l2 false), unionR (partR l2 l3 false) (partR l4 l1 false)), none) := by unfold thenR; rw [q1, q2]
      clear q1 q2 s1 s2 s3 s4 n1 n2 n3 n4 m14 m32 m23 m41
      generalize partR l1 l3 true = P1 at pa hth
      generalize partR l2 l4 true = P2 at pb hth
      generalize partR l1 l4 false = X1 at p1 u1 hth
      generalize partR l3 l2 false = X2 at p2 u1 hth
      generalize partR l2 l3 false = Y1 at p3 u2 hth
      generalize partR l4 l1 false = Y2 at p4 u2 hth
      generalize unionR X1 X2 = XA at u1 hth; generalize unionR Y1 Y2 = YT at u2 hth; have HTH := Aside0.mk hth; clear hth
      have HPA := Aside0.mk pa; have HPB := Aside0.mk pb; have HP1 := Aside0.mk p1; have HP2 := Aside0.mk p2; have HP3 := Aside0.mk p3; have HP4 := Aside0.mk p4; have HU1 := Aside0.mk u1; have HU2 := Aside0.mk u2
      clear pa pb p1 p2 p3 p4 u1 u2
      have k1 := (Box.keep (Below.refl _ _) HL.out BA.out) 0 (.slice A1 l1.length c1) rfl
      have k2 := (Box.keep (Below.refl _ _) HL.out BA.out) 1 (.slice A2 l2.length c2) rfl
      have k3 := (Box.keep (Below.refl _ _) HL.out BB.out) 0 (.slice A3 l3.length c3) rfl
      have k4 := (Box.keep (Below.refl _ _) HL.out BB.out) 1 (.slice A4 l4.length c4) rfl
      go_wp2_with (first | (go_at_call 44; refine stop_ ?_) | (go_at_call 107; refine stop_ ?_))
      clear k1 k2 k3 k4
      refine ⟨?_⟩
      refine Calls.mono (HPA.out _ (Kd.C_below HR1.out (by repeat (first | exact HL.out | refine below_alloc ?_ _ | refine pw_below_drewN ?_ _ | refine below_drew1 ?_ | refine below_set ?_ HG2.out))) (Kd.C_below HR3.out (by repeat (first | exact HL.out | refine below_alloc ?_ _ | refine pw_below_drewN ?_ _ | refine below_drew1 ?_ | refine below_set ?_ HG2.out)))) ?_
      rintro e w' ⟨v, rfl, hv, hb⟩
      have HLn := Aside0.mk (below_step (show Below W0.heap.size W0 _ from (by repeat (first | exact HL.out | refine below_alloc ?_ _ | refine pw_below_drewN ?_ _ | refine below_drew1 ?_ | refine below_set ?_ HG2.out))) hb); clear HL hb; have HL := HLn; clear HLn
      obtain ⟨Ap, cp, ep⟩ := Kd.R_slice hv
      subst ep
      clear hv
      by_cases hp : P1.length > 0
      · have HC := Aside0.mk hp
        have hpz : (P1.length : Int) > 0 := by omega
        have hpy : 0 < P1.length := hp
        clear hp
        have hk := blk_below HK.out HL.out; have r0 := (blk_cell hk 0).trans (show _ = some (Value.slice none 0 0) from rfl); have r1 := (blk_cell hk 1).trans (show _ = some (Value.slice none 0 0) from rfl); have f0 := blk_frozen hk 0; have f1 := blk_frozen hk 1; have HKW := Aside0.mk hk; clear hk
        go_wp2_with (first | (go_at_call 44; refine stop_ ?_) | (go_at_call 107; refine stop_ ?_))
        clear r0 r1 f0 f1
        have hz := HZ.out
        refine bodyPost_ret (results_ct rfl _ _ (w.heap.size + 1 + 1) 48 #[.slice none 0 0, .slice none 0 0] (0, 0) _ rfl (blk_put (cs := #[.slice none 0 0, .slice none 0 0]) (blk_put (cs := #[.slice none 0 0, .slice none 0 0]) HKW.out 0 _ rfl) 1 _ rfl) Tryz.underlying48 rfl (by kernel_rfl)) rfl ?_
        rw [HTH.out, if_pos (.inl HC.out)]
        exact ⟨_, rfl, ⟨_, _, rfl, Kd.R_nil _ _ _ _ _, Kd.R_nil _ _ _ _ _⟩, (by have h := HB0.out.trans (HL.out.mono HG.out); exact below_set (below_set h (by omega)) (by omega))⟩
      · obtain rfl : P1 = [] := List.eq_nil_of_length_eq_zero (by omega)
        clear hp
        have k1 := (Box.keep (Below.refl _ _) HL.out BA.out) 0 (.slice A1 l1.length c1) rfl
        have k2 := (Box.keep (Below.refl _ _) HL.out BA.out) 1 (.slice A2 l2.length c2) rfl
        have k3 := (Box.keep (Below.refl _ _) HL.out BB.out) 0 (.slice A3 l3.length c3) rfl
        have k4 := (Box.keep (Below.refl _ _) HL.out BB.out) 1 (.slice A4 l4.length c4) rfl
        go_wp2_with (first | (go_at_call 44; refine stop_ ?_) | (go_at_call 107; refine stop_ ?_))
        clear k1 k2 k3 k4
        refine ⟨?_⟩
        refine Calls.mono (HPB.out _ (Kd.C_below HR2.out (by repeat (first | exact HL.out | refine below_alloc ?_ _ | refine pw_below_drewN ?_ _ | refine below_drew1 ?_ | refine below_set ?_ HG2.out))) (Kd.C_below HR4.out (by repeat (first | exact HL.out | refine below_alloc ?_ _ | refine pw_below_drewN ?_ _ | refine below_drew1 ?_ | refine below_set ?_ HG2.out)))) ?_
        rintro e w' ⟨v, rfl, hv, hb⟩
        have HLn := Aside0.mk (below_step (show Below W0.heap.size W0 _ from (by repeat (first | exact HL.out | refine below_alloc ?_ _ | refine pw_below_drewN ?_ _ | refine below_drew1 ?_ | refine below_set ?_ HG2.out))) hb); clear HL hb; have HL := HLn; clear HLn
        obtain ⟨Aq, cq, eq_⟩ := Kd.R_slice hv
        subst eq_
        clear hv
        by_cases hq : P2.length > 0
        · have HC := Aside0.mk hq
          have hqz : (P2.length : Int) > 0 := by omega
          have hqy : 0 < P2.length := hq
          clear hq
          have hk := blk_below HK.out HL.out; have r0 := (blk_cell hk 0).trans (show _ = some (Value.slice none 0 0) from rfl); have r1 := (blk_cell hk 1).trans (show _ = some (Value.slice none 0 0) from rfl); have f0 := blk_frozen hk 0; have f1 := blk_frozen hk 1; have HKW := Aside0.mk hk; clear hk
          go_wp2_with (first | (go_at_call 44; refine stop_ ?_) | (go_at_call 107; refine stop_ ?_))
          clear r0 r1 f0 f1
          have hz := HZ.out
          refine bodyPost_ret (results_ct rfl _ _ (w.heap.size + 1 + 1) 48 #[.slice none 0 0, .slice none 0 0] (0, 0) _ rfl (blk_put (cs := #[.slice none 0 0, .slice none 0 0]) (blk_put (cs := #[.slice none 0 0, .slice none 0 0]) HKW.out 0 _ rfl) 1 _ rfl) Tryz.underlying48 rfl (by kernel_rfl)) rfl ?_
          rw [HTH.out, if_pos (.inr HC.out)]
          exact ⟨_, rfl, ⟨_, _, rfl, Kd.R_nil _ _ _ _ _, Kd.R_nil _ _ _ _ _⟩, (by have h := HB0.out.trans (HL.out.mono HG.out); exact below_set (below_set h (by omega)) (by omega))⟩
        · obtain rfl : P2 = [] := List.eq_nil_of_length_eq_zero (by omega)
          clear hq
          have hth := HTH.out; rw [if_neg (by simp)] at hth; clear HTH; have HTH := Aside0.mk hth; clear hth
          go_wp2_with (first | (go_at_call 44; refine stop_ ?_) | (go_at_call 107; refine stop_ ?_))
          have k1 := (Box.keep (Below.refl _ _) HL.out BA.out) 0 (.slice A1 l1.length c1) rfl
          have k2 := (Box.keep (Below.refl _ _) HL.out BA.out) 1 (.slice A2 l2.length c2) rfl
          have k3 := (Box.keep (Below.refl _ _) HL.out BB.out) 0 (.slice A3 l3.length c3) rfl
          have k4 := (Box.keep (Below.refl _ _) HL.out BB.out) 1 (.slice A4 l4.length c4) rfl
          refine then_region _ _ w w.heap.size w.heap.size A1 c1 l1 A2 c2 l2 A3 c3 l3 A4 c4 l4 X1 X2 XA Y1 Y2 YT _ rfl rfl rfl (by have h := HB0.out.size; have h2 := HL.out.size; omega) (Kd.C_below HR1.out HL.out) HN1.out (Kd.C_below HR2.out HL.out) HN2.out (Kd.C_below HR3.out HL.out) HN3.out (Kd.C_below HR4.out HL.out) HN4.out k1 k2 k3 k4 (fun W h1 h2 => HP1.out W h1 h2) (fun W h1 h2 => HP2.out W h1 h2) (fun W A c A' c' h1 h2 h3 h4 => HU1.out W A c A' c' h1 h2 h3 h4) (fun W h1 h2 => HP3.out W h1 h2) (fun W h1 h2 => HP4.out W h1 h2) (fun W A c A' c' h1 h2 h3 h4 => HU2.out W A c A' c' h1 h2 h3 h4) ?_
          clear k1 k2 k3 k4
          intro x w9 b Au cu Av cv hJ _ e10 e21 d10 d21 x23 hWb hbk
          have HLn := Aside0.mk (below_step HL.out hJ); have HGB := Aside0.mk (Nat.le_trans HL.out.size hWb); clear HL hJ hWb; have HL := HLn; clear HLn
          have c0 := (blk_cell hbk 0).trans (show _ = some (x 10) from rfl); have c1' := (blk_cell hbk 1).trans (show _ = some (x 21) from rfl)
          rw [e10] at c0 d10; rw [e21] at c1' d21; rw [e10, e21] at hbk
          have HD10 := Aside0.mk d10; have HD21 := Aside0.mk d21; have HBK := Aside0.mk hbk; clear d10 d21 hbk
          simp only [thenOps, putAll, e10, e21, x23]
          clear e10 e21 x23
          by_cases hA : XA.length > 200
          · have HC := Aside0.mk hA
            have hAz : (XA.length : Int) > 200 := by omega
            clear hA
            have hk := blk_below HK.out HL.out; have r0 := (blk_cell hk 0).trans (show _ = some (Value.slice none 0 0) from rfl); have r1 := (blk_cell hk 1).trans (show _ = some (Value.slice none 0 0) from rfl); have f0 := blk_frozen hk 0; have f1 := blk_frozen hk 1; have HKW := Aside0.mk hk; clear hk
            go_wp2
            clear r0 r1 f0 f1
            have hz := HZ.out
            refine bodyPost_ret (results_ct rfl _ _ (w.heap.size + 1 + 1) 48 #[.slice none 0 0, .slice none 0 0] (0, 0) _ rfl (blk_put (cs := #[.slice none 0 0, .slice none 0 0]) (blk_put (cs := #[.slice none 0 0, .slice none 0 0]) HKW.out 0 _ rfl) 1 _ rfl) Tryz.underlying48 rfl (by kernel_rfl)) rfl ?_
            rw [HTH.out, if_pos (.inl HC.out)]
            exact ⟨_, rfl, ⟨_, _, rfl, Kd.R_nil _ _ _ _ _, Kd.R_nil _ _ _ _ _⟩, (by have h := HB0.out.trans (HL.out.mono HG.out); exact below_set (below_set h (by omega)) (by omega))⟩
          · by_cases hT : YT.length > 200
            · have HC := Aside0.mk hT
              have hAz : ¬ (XA.length : Int) > 200 := by omega
              have hTz : (YT.length : Int) > 200 := by omega
              clear hA hT
              have hk := blk_below HK.out HL.out; have r0 := (blk_cell hk 0).trans (show _ = some (Value.slice none 0 0) from rfl); have r1 := (blk_cell hk 1).trans (show _ = some (Value.slice none 0 0) from rfl); have f0 := blk_frozen hk 0; have f1 := blk_frozen hk 1; have HKW := Aside0.mk hk; clear hk
              go_wp2
              clear r0 r1 f0 f1
              have hz := HZ.out
              refine bodyPost_ret (results_ct rfl _ _ (w.heap.size + 1 + 1) 48 #[.slice none 0 0, .slice none 0 0] (0, 0) _ rfl (blk_put (cs := #[.slice none 0 0, .slice none 0 0]) (blk_put (cs := #[.slice none 0 0, .slice none 0 0]) HKW.out 0 _ rfl) 1 _ rfl) Tryz.underlying48 rfl (by kernel_rfl)) rfl ?_
              rw [HTH.out, if_pos (.inr HC.out)]
              exact ⟨_, rfl, ⟨_, _, rfl, Kd.R_nil _ _ _ _ _, Kd.R_nil _ _ _ _ _⟩, (by have h := HB0.out.trans (HL.out.mono HG.out); exact below_set (below_set h (by omega)) (by omega))⟩
            · have hth := HTH.out; rw [if_neg (by omega)] at hth; clear HTH; have HTH := Aside0.mk hth; clear hth
              have hAz : ¬ (XA.length : Int) > 200 := by omega
              have hTz : ¬ (YT.length : Int) > 200 := by omega
              clear hA hT
              have hk := blk_below HK.out HL.out; have r0 := (blk_cell hk 0).trans (show _ = some (Value.slice none 0 0) from rfl); have r1 := (blk_cell hk 1).trans (show _ = some (Value.slice none 0 0) from rfl); have f0 := blk_frozen hk 0; have f1 := blk_frozen hk 1; have HKW := Aside0.mk hk; clear hk
              go_wp2
              clear r0 r1 f0 f1
              have hz := HZ.out
              refine bodyPost_ret (results_ct rfl _ _ (w.heap.size + 1 + 1) 48 #[.slice Au XA.length cu, .slice Av YT.length cv] (0, 0) _ rfl (blk_put (cs := #[.slice Au XA.length cu, .slice none 0 0]) (blk_put (cs := #[.slice none 0 0, .slice none 0 0]) HKW.out 0 _ rfl) 1 _ rfl) Tryz.underlying48 rfl (by kernel_rfl)) rfl ?_
              rw [HTH.out]
              exact ⟨_, rfl, ⟨_, _, rfl, Kd.R_set (Kd.R_set HD10.out HKW.out (by decide) 0 _) (blk_put HKW.out 0 _ rfl) (by decide) 1 _, Kd.R_set (Kd.R_set HD21.out HKW.out (by decide) 0 _) (blk_put HKW.out 0 _ rfl) (by decide) 1 _⟩, (by have h := HB0.out.trans (HL.out.mono HG.out); exact below_set (below_set h (by omega)) (by omega))⟩
end Go.Proofs.YtdjamphmndbmjaaGreatDoor.M

/- stratasame.Layer, and the contracts of package layer by outcome (printed by wip/gen_lay6.py). -/
namespace Go.Proofs.YtdjamphmndbmjaaGreatDoor.M
open Go.RowKit Go.Proofs.YtdjamphmndbmjaaGreatDoorW.PrintWords Go.Proofs.YtdjamphmndbmjaaGreatDoorW.PrintLast Go.Proofs.YtdjamphmndbmjaaGreatDoorW.PrintMore
set_option linter.unusedVariables false
set_option linter.unusedSimpArgs false

theorem post_below {x : Bool} {W : World} (e : Ending) (w' : World) (h : e = .returned (.bool x) ∧ ∃ q, w' = W.drewN q) : e = .returned (.bool x) ∧ Below W.heap.size W w' := by
  obtain ⟨he, q, hq⟩ := h
  exact ⟨he, by rw [hq]; exact pw_below_drewN (Below.refl _ _) q⟩
set_option maxHeartbeats 4000000 in
set_option maxRecDepth 100000 in
theorem sameL_calls (A1 : Option Addr) (c1 : Nat) (l1 : List S25) (A2 : Option Addr) (c2 : Nat) (l2 : List S25) (A3 : Option Addr) (c3 : Nat) (l3 : List S25) (A4 : Option Addr) (c4 : Nat) (l4 : List S25) (w : World) (hr1 : Kd.C k25 w A1 l1.length l1) (hr2 : Kd.C k25 w A2 l2.length l2) (hr3 : Kd.C k25 w A3 l3.length l3) (hr4 : Kd.C k25 w A4 l4.length l4) :
    Calls Tryz.prog 36 #[.agg #[.slice A1 l1.length c1, .slice A2 l2.length c2], .agg #[.slice A3 l3.length c3, .slice A4 l4.length c4]] w fun e w' => e = .returned (.bool (decide (l1 = l3) && decide (l2 = l4))) ∧ Below w.heap.size w w' := by
  obtain ⟨W0, hW0⟩ : ∃ W0, W0 = ((w.alloc (.cells #[.slice A1 l1.length c1, .slice A2 l2.length c2] 48)).alloc (.cells #[.slice A3 l3.length c3, .slice A4 l4.length c4] 48)) := ⟨_, rfl⟩
  have HR1 : Aside0 (Kd.C k25 W0 A1 l1.length l1) := ⟨by rw [hW0]; exact Kd.C_alloc (Kd.C_alloc hr1 _) _⟩
  have HR2 : Aside0 (Kd.C k25 W0 A2 l2.length l2) := ⟨by rw [hW0]; exact Kd.C_alloc (Kd.C_alloc hr2 _) _⟩
  have HR3 : Aside0 (Kd.C k25 W0 A3 l3.length l3) := ⟨by rw [hW0]; exact Kd.C_alloc (Kd.C_alloc hr3 _) _⟩
  have HR4 : Aside0 (Kd.C k25 W0 A4 l4.length l4) := ⟨by rw [hW0]; exact Kd.C_alloc (Kd.C_alloc hr4 _) _⟩
  have HB0 : Aside0 (Below w.heap.size w W0) := ⟨by rw [hW0]; exact below_alloc (below_alloc (Below.refl _ _) _) _⟩
  have BA : Aside0 (Box W0 w.heap.size #[.slice A1 l1.length c1, .slice A2 l2.length c2]) := ⟨by rw [hW0]; exact fun c v h => cell?_alloc_old' (Box.new w _ _ c v h) _⟩
  have BB : Aside0 (Box W0 (w.heap.size + 1) #[.slice A3 l3.length c3, .slice A4 l4.length c4]) := ⟨by rw [hW0]; exact fun c v h => (by have q := Box.new (w.alloc (.cells #[.slice A1 l1.length c1, .slice A2 l2.length c2] 48)) #[.slice A3 l3.length c3, .slice A4 l4.length c4] 48 c v h; rw [alloc_size1] at q; exact q)⟩
  have hx := fun W (h1 : Kd.C k25 W A1 l1.length l1) (h3 : Kd.C k25 W A3 l3.length l3) => (same_calls A1 A3 c1 c3 l1 l3 W h1 h3).mono (post_below (x := decide (l1 = l3)))
  have hy := fun W (h2 : Kd.C k25 W A2 l2.length l2) (h4 : Kd.C k25 W A4 l4.length l4) => (same_calls A2 A4 c2 c4 l2 l4 W h2 h4).mono (post_below (x := decide (l2 = l4)))
  generalize decide (l1 = l3) = p at hx ⊢; generalize decide (l2 = l4) = q at hy ⊢
  have HX := Aside0.mk hx; have HY := Aside0.mk hy; have HW0 := Aside0.mk hW0; clear hx hy hr1 hr2 hr3 hr4
  have hs0 : Below W0.heap.size W0 ((w.alloc (.cells #[.slice A1 l1.length c1, .slice A2 l2.length c2] 48)).alloc (.cells #[.slice A3 l3.length c3, .slice A4 l4.length c4] 48)) := by rw [hW0]; exact Below.refl _ _
  have HL := Aside0.mk hs0; clear hs0 hW0
  cases p <;> cases q <;>
  · go_enter Tryz.func36, Tryz.ntmps36
    go_wp2_with (go_at_call 20; refine stop_ ?_)
    refine ⟨?_⟩
    refine Calls.mono (HX.out _ (Kd.C_below HR1.out HL.out) (Kd.C_below HR3.out HL.out)) ?_
    rintro e w' ⟨rfl, hb⟩
    have HLn := Aside0.mk (below_step HL.out hb); clear HL hb; have HL := HLn; clear HLn
    have k2 := (Box.keep (Below.refl _ _) HL.out BA.out) 1 (.slice A2 l2.length c2) rfl; have k4 := (Box.keep (Below.refl _ _) HL.out BB.out) 1 (.slice A4 l4.length c4) rfl
    go_wp2_with (go_at_call 20; refine stop_ ?_)
    clear k2 k4
    refine ⟨?_⟩
    refine Calls.mono (HY.out _ (Kd.C_below HR2.out HL.out) (Kd.C_below HR4.out HL.out)) ?_
    rintro e w' ⟨rfl, hb⟩
    have HLn := Aside0.mk (below_step HL.out hb); clear HL hb; have HL := HLn; clear HLn
    go_wp2_with (go_at_call 20; refine stop_ ?_)
    go_ret
    exact ⟨rfl, HB0.out.trans (HL.out.mono HB0.out.size)⟩
theorem sameL_true {l1 : List S25} {l2 : List S25} {l3 : List S25} {l4 : List S25} (h : l1 = l3) (h' : l2 = l4) (A1 : Option Addr) (c1 : Nat) (A2 : Option Addr) (c2 : Nat) (A3 : Option Addr) (c3 : Nat) (A4 : Option Addr) (c4 : Nat) (w : World) (hr1 : Kd.C k25 w A1 l1.length l1) (hr2 : Kd.C k25 w A2 l2.length l2) (hr3 : Kd.C k25 w A3 l3.length l3) (hr4 : Kd.C k25 w A4 l4.length l4) :
    Calls Tryz.prog 36 #[.agg #[.slice A1 l1.length c1, .slice A2 l2.length c2], .agg #[.slice A3 l3.length c3, .slice A4 l4.length c4]] w fun e w' => e = .returned (.bool true) ∧ Below w.heap.size w w' := by
  have hc := sameL_calls A1 c1 l1 A2 c2 l2 A3 c3 l3 A4 c4 l4 w hr1 hr2 hr3 hr4
  rw [decide_eq_true h, decide_eq_true h'] at hc
  exact hc
theorem LRow.rows {w : World} {base : Nat} {v : Value} {a t : List S25} (h : LRow w base v a t) : ∃ A c A' c', v = .agg #[.slice A a.length c, .slice A' t.length c'] ∧ Kd.C k25 w A a.length a ∧ a.length ≤ c ∧ Kd.C k25 w A' t.length t ∧ t.length ≤ c' := by
  obtain ⟨v1, v2, e, h1, h2⟩ := h
  obtain ⟨A, c, e1, C1, L1⟩ := Row.of_R h1
  obtain ⟨A', c', e2, C2, L2⟩ := Row.of_R h2
  exact ⟨A, c, A', c', by rw [e, e1, e2], C1, L1, C2, L2⟩
end Go.Proofs.YtdjamphmndbmjaaGreatDoor.M

/- errors.As at an api.Errno, plain.Told, stratasame.Error: the number of an error (printed by wip/gen_as.py; errors.As after the kit's worked example). -/
namespace Go.Proofs.YtdjamphmndbmjaaGreatDoor.M
open Go.RowKit Go.Proofs.YtdjamphmndbmjaaGreatDoorW.PrintWords Go.Proofs.YtdjamphmndbmjaaGreatDoorW.PrintLast Go.Proofs.YtdjamphmndbmjaaGreatDoorW.PrintMore
set_option linter.unusedVariables false
set_option linter.unusedSimpArgs false

open Go.Extern.Stop Go.Stop Go.Extern
/-- The one variable of package errors that is read. -/
def Glob (w : World) : Prop := w.cell? ⟨0, 0, none⟩ = some (.iface 253 (.agg #[.pointer (some ⟨2, 30, none⟩)]))
theorem Glob.below {w w' : World} (h : Glob w) (hb : Below w.heap.size w w') : Glob w' := (hb.cell (World.block_lt_of_cell? _ _ h)).trans h
theorem as_valueOfP (t : Addr) (w : World) : (ReflectliteValue.unpack (.iface 167 (.pointer (some t)))).run Tryz.prog w
    = .ok (.agg #[.pointer (some ⟨2, 167, none⟩), .pointer (some ⟨w.heap.size, 0, none⟩), .int .u64 150]) (w.alloc (.cells #[.pointer (some t)] 167)) := by kernel_rfl
theorem as_typeP (a : Addr) (w : World) : (ReflectliteValue.methodAny (ReflectliteValue.valueError "reflectlite.Value.Type" 0) (fun t _ _ _ => ReflectliteType.toType t) #[.agg #[.pointer (some ⟨2, 167, none⟩), .pointer (some a), .int .u64 150]]).run Tryz.prog w
    = .ok (.iface 253 (.agg #[.pointer (some ⟨2, 167, none⟩)])) w := by kernel_rfl
theorem as_methodKind (h : Value) (w : World) : (Go.method 473 253 (.agg #[h]) "Kind").run Tryz.prog w = .ok (256, h) w := by kernel_rfl
theorem as_kindP (w : World) : ((ReflectliteType.abiMethod fun t => (fun a : Nat => Value.int IntKind.u8 (a : Int)) <$> Rtype.kind t) #[.pointer (some ⟨2, 167, none⟩)]).run Tryz.prog w = .ok (.int .u8 22) w := by kernel_rfl
theorem as_kindE (w : World) : ((ReflectliteType.abiMethod fun t => (fun a : Nat => Value.int IntKind.u8 (a : Int)) <$> Rtype.kind t) #[.pointer (some ⟨2, 116, none⟩)]).run Tryz.prog w = .ok (.int .u8 2) w := by kernel_rfl
theorem as_rlm (z : Sem Value) (f : TypeId → Addr → Nat → Nat → Sem Value) (v : Value) :
    ReflectliteValue.method z f #[v] = (do match ← ReflectliteValue.parts v with | none => z | some (t, a, fl) => f t a fl (fl % 32)) := rfl
theorem as_partsP (a : Addr) (w : World) : (ReflectliteValue.parts (.agg #[.pointer (some ⟨2, 167, none⟩), .pointer (some a), .int .u64 150])).run Tryz.prog w = .ok (some (167, a, 150)) w := by kernel_rfl
theorem as_isNilP (a p : Addr) (W : World) (ha : W.cell? a = some (.pointer (some p))) :
    (ReflectliteValue.method (ReflectliteValue.valueError "reflectlite.Value.IsNil" 0) ReflectliteValue.isNil #[.agg #[.pointer (some ⟨2, 167, none⟩), .pointer (some a), .int .u64 150]]).run Tryz.prog W = .ok (.bool false) W := by
  rw [as_rlm]
  simp only [Sem.run_bind, as_partsP, Result.andThen]
  simp [ReflectliteValue.isNil, loadVar, isAgg, underlying, Tryz.underlying167, ha, Result.andThen]
theorem as_methodElem (h : Value) (w : World) : (Go.method 473 253 (.agg #[h]) "Elem").run Tryz.prog w = .ok (267, .agg #[h]) w := by kernel_rfl
theorem as_methodImplements (h : Value) (w : World) : (Go.method 473 253 (.agg #[h]) "Implements").run Tryz.prog w = .ok (268, .agg #[h]) w := by kernel_rfl
theorem as_methodAssignableTo (h : Value) (w : World) : (Go.method 473 253 (.agg #[h]) "AssignableTo").run Tryz.prog w = .ok (265, .agg #[h]) w := by kernel_rfl
theorem as_elemP (w : World) : (ReflectliteType.method ReflectliteType.elem #[.agg #[.pointer (some ⟨2, 167, none⟩)]]).run Tryz.prog w = .ok (.iface 253 (.agg #[.pointer (some ⟨2, 116, none⟩)])) w := by kernel_rfl
theorem as_implementsE (w : World) : (ReflectliteType.relation "Implements" ReflectliteType.implements_ #[.agg #[.pointer (some ⟨2, 116, none⟩)], .iface 253 (.agg #[.pointer (some ⟨2, 30, none⟩)])]).run Tryz.prog w = .ok (.bool true) w := by kernel_rfl
theorem as_typeOfE (v : Value) (w : World) : (ReflectliteType.typeOf #[.iface 116 v]).run Tryz.prog w = .ok (.iface 253 (.agg #[.pointer (some ⟨2, 116, none⟩)])) w := by kernel_rfl
theorem as_assignableE (w : World) : (ReflectliteType.relation "AssignableTo" ReflectliteType.assignableTo #[.agg #[.pointer (some ⟨2, 116, none⟩)], .iface 253 (.agg #[.pointer (some ⟨2, 116, none⟩)])]).run Tryz.prog w = .ok (.bool true) w := by kernel_rfl
theorem as_valueOfE (n : Int) (w : World) : (ReflectliteValue.unpack (.iface 116 (.int .i64 n))).run Tryz.prog w
    = .ok (.agg #[.pointer (some ⟨2, 116, none⟩), .pointer (some ⟨w.heap.size, 0, none⟩), .int .u64 130]) (w.alloc (.cells #[.int .i64 n] 116)) := by kernel_rfl
theorem as_elemOfP (w : World) : (Rtype.elem? 167).run Tryz.prog w = .ok (some 116) w := by kernel_rfl
theorem as_mkE (p : Addr) (w : World) : (ReflectliteValue.mk 116 p ReflectliteValue.flagAddr).run Tryz.prog w = .ok (.agg #[.pointer (some ⟨2, 116, none⟩), .pointer (some p), .int .u64 386]) w := by kernel_rfl
theorem as_elemVP (a p : Addr) (W : World) (ha : W.cell? a = some (.pointer (some p))) :
    (ReflectliteValue.method (ReflectliteValue.valueError "reflectlite.Value.Elem" 0) ReflectliteValue.elem #[.agg #[.pointer (some ⟨2, 167, none⟩), .pointer (some a), .int .u64 150]]).run Tryz.prog W
      = .ok (.agg #[.pointer (some ⟨2, 116, none⟩), .pointer (some p), .int .u64 386]) W := by
  rw [as_rlm]
  simp only [Sem.run_bind, as_partsP, Result.andThen]
  simp [ReflectliteValue.elem, loadVar, isAgg, underlying, Tryz.underlying167, ha, Result.andThen, as_elemOfP, as_mkE]
theorem as_rls (v x : Value) : ReflectliteValue.set #[v, x] = (do
    let (some (dst, a, fl), some (src, b, _)) := (← ReflectliteValue.parts v, ← ReflectliteValue.parts x)
      | unsupported (.noEntry "extern/(internal/reflectlite.Value).Set.zeroValue")
    if fl / ReflectliteValue.flagAddr % 2 == 0 then unsupported (.noEntry "extern/(internal/reflectlite.Value).Set.unaddressable")
    let val ← loadVar src b
    if ← Rtype.directlyAssignable dst src then storeVar dst a val
    else if ← Rtype.implements dst src then
      if (← Rtype.kind src) == 20 then
        match val with
        | .nilIface => unsupported (.noEntry "extern/reflectlite: a nil value of one interface type handed on as a value of another")
        | _ => storeVar dst a val
      else storeVar dst a (.iface src val)
    else panicString ("reflectlite.Set: value of type " ++ (← Rtype.spelt src) ++ " is not assignable to type " ++ (← Rtype.spelt dst))
    pure (.tuple #[])) := rfl
theorem as_partsEa (a : Addr) (w : World) : (ReflectliteValue.parts (.agg #[.pointer (some ⟨2, 116, none⟩), .pointer (some a), .int .u64 386])).run Tryz.prog w = .ok (some (116, a, 386)) w := by kernel_rfl
theorem as_partsE (a : Addr) (w : World) : (ReflectliteValue.parts (.agg #[.pointer (some ⟨2, 116, none⟩), .pointer (some a), .int .u64 130])).run Tryz.prog w = .ok (some (116, a, 130)) w := by kernel_rfl
theorem as_directE (w : World) : (Rtype.directlyAssignable 116 116).run Tryz.prog w = .ok true w := by kernel_rfl
theorem as_setE (ta b : Addr) (n : Int) (old : Value) (W : World) (hb : W.cell? b = some (.int .i64 n)) (ht : W.cell? ta = some old) (hf : W.frozen? ta = false) :
    (ReflectliteValue.set #[.agg #[.pointer (some ⟨2, 116, none⟩), .pointer (some ta), .int .u64 386], .agg #[.pointer (some ⟨2, 116, none⟩), .pointer (some b), .int .u64 130]]).run Tryz.prog W
      = .ok (.tuple #[]) (W.setCell ta (.int .i64 n)) := by
  rw [as_rls]
  simp only [Sem.run_bind, as_partsEa, as_partsE, Result.andThen]
  simp [ReflectliteValue.flagAddr, loadVar, isAgg, underlying, Tryz.underlying116, hb, Result.andThen, as_directE, storeVar, Value.cells, storeCells, Addr.add]
  rw [run_store Tryz.prog W ta _ _ (by rfl)]
  simp [ht, hf]
set_option maxHeartbeats 4000000 in
theorem as_hit (n : Int) (t : Addr) (old : Value) (w : World) (hg : Glob w) (ht0 : w.cell? t = some old) (hf0 : w.frozen? t = false) :
    Calls Tryz.prog 120 #[.iface 116 (.int .i64 n), .iface 167 (.pointer (some t))] w fun ev w' => ev = .returned (.bool true) ∧ w' = ((((w.alloc (.cells #[.pointer (some t)] 167)).alloc (.cells #[.pointer (some ⟨2, 167, none⟩), .pointer (some ⟨w.heap.size, 0, none⟩), .int .u64 150] 221)).alloc (.cells #[.pointer (some ⟨2, 167, none⟩), .pointer (some ⟨w.heap.size, 0, none⟩), .int .u64 150] 221)).alloc (.cells #[.int .i64 n] 116)).setCell t (.int .i64 n) := by
  unfold Glob at hg
  have h6 := @run_callFunc_extern Tryz.prog 156 _ (fun args => ReflectliteValue.unpack (args.getD 0 (.tuple #[]))) Tryz.func156 (by kernel_rfl) (by kernel_rfl) (by kernel_rfl) (by kernel_rfl)
  have h7 := @run_callFunc_extern Tryz.prog 157 _ (ReflectliteValue.methodAny (ReflectliteValue.valueError "reflectlite.Value.Type" 0) (fun t _ _ _ => ReflectliteType.toType t)) Tryz.func157 (by kernel_rfl) (by kernel_rfl) (by kernel_rfl) (by kernel_rfl)
  have h8 := @run_callFunc_extern Tryz.prog 158 _ (ReflectliteValue.method (ReflectliteValue.valueError "reflectlite.Value.IsNil" 0) ReflectliteValue.isNil) Tryz.func158 (by kernel_rfl) (by kernel_rfl) (by kernel_rfl) (by kernel_rfl)
  have h27 := @run_callFunc_extern Tryz.prog 256 _ (ReflectliteType.abiMethod fun t => do pure (.int .u8 (← Rtype.kind t))) Tryz.func256 (by kernel_rfl) (by kernel_rfl) (by kernel_rfl) (by kernel_rfl)
  have h37 := @run_callFunc_extern Tryz.prog 267 _ (ReflectliteType.method ReflectliteType.elem) Tryz.func267 (by kernel_rfl) (by kernel_rfl) (by kernel_rfl) (by kernel_rfl)
  have h38 := @run_callFunc_extern Tryz.prog 268 _ (ReflectliteType.relation "Implements" ReflectliteType.implements_) Tryz.func268 (by kernel_rfl) (by kernel_rfl) (by kernel_rfl) (by kernel_rfl)
  have h10 := @run_callFunc_extern Tryz.prog 186 _ ReflectliteType.typeOf Tryz.func186 (by kernel_rfl) (by kernel_rfl) (by kernel_rfl) (by kernel_rfl)
  have h35 := @run_callFunc_extern Tryz.prog 265 _ (ReflectliteType.relation "AssignableTo" ReflectliteType.assignableTo) Tryz.func265 (by kernel_rfl) (by kernel_rfl) (by kernel_rfl) (by kernel_rfl)
  have h11 := @run_callFunc_extern Tryz.prog 187 _ (ReflectliteValue.method (ReflectliteValue.valueError "reflectlite.Value.Elem" 0) ReflectliteValue.elem) Tryz.func187 (by kernel_rfl) (by kernel_rfl) (by kernel_rfl) (by kernel_rfl)
  have h12 := @run_callFunc_extern Tryz.prog 188 _ ReflectliteValue.set Tryz.func188 (by kernel_rfl) (by kernel_rfl) (by kernel_rfl) (by kernel_rfl)
  have tO := as_typeOfE
  have mA := as_methodAssignableTo
  have a25 := as_assignableE
  have v25 := as_valueOfE
  have f6 := as_valueOfP
  have f7 := as_typeP
  have mK := as_methodKind
  have mE := as_methodElem
  have mI := as_methodImplements
  have k27 := as_kindP
  have k25 := as_kindE
  have e27 := as_elemP
  have i25 := as_implementsE
  have n8 := as_isNilP ⟨w.heap.size, 0, none⟩ t ((w.alloc (.cells #[.pointer (some t)] 167)).alloc (.cells #[.pointer (some ⟨2, 167, none⟩), .pointer (some ⟨w.heap.size, 0, none⟩), .int .u64 150] 221)) (by simp)
  have hlt : 0 < w.heap.size := by
    rcases Nat.eq_zero_or_pos w.heap.size with h0 | h
    · simp [World.cell?, h0] at hg
    · exact h
  have hg2 : ((w.alloc (.cells #[.pointer (some t)] 167)).alloc (.cells #[.pointer (some ⟨2, 167, none⟩), .pointer (some ⟨w.heap.size, 0, none⟩), .int .u64 150] 221)).cell? ⟨0, 0, none⟩ = some (.iface 253 (.agg #[.pointer (some ⟨2, 30, none⟩)])) := by
    rw [World.cell?_alloc_lt _ _ ⟨0, 0, none⟩ (by simp), World.cell?_alloc_lt _ _ ⟨0, 0, none⟩ hlt]; exact hg
  have htl : t.block < w.heap.size := by
    rcases Nat.lt_or_ge t.block w.heap.size with h | h
    · exact h
    · simp [World.cell?, Array.getElem?_eq_none h] at ht0
  have el := as_elemVP ⟨w.heap.size, 0, none⟩ t (((w.alloc (.cells #[.pointer (some t)] 167)).alloc (.cells #[.pointer (some ⟨2, 167, none⟩), .pointer (some ⟨w.heap.size, 0, none⟩), .int .u64 150] 221)).alloc (.cells #[.pointer (some ⟨2, 167, none⟩), .pointer (some ⟨w.heap.size, 0, none⟩), .int .u64 150] 221)) (by rw [World.cell?_alloc_lt _ _ ⟨w.heap.size, 0, none⟩ (by simp; omega)]; simp)
  have st := as_setE t ⟨w.heap.size + 1 + 1 + 1, 0, none⟩ n old ((((w.alloc (.cells #[.pointer (some t)] 167)).alloc (.cells #[.pointer (some ⟨2, 167, none⟩), .pointer (some ⟨w.heap.size, 0, none⟩), .int .u64 150] 221)).alloc (.cells #[.pointer (some ⟨2, 167, none⟩), .pointer (some ⟨w.heap.size, 0, none⟩), .int .u64 150] 221)).alloc (.cells #[.int .i64 n] 116))
    (by rw [World.cell?_alloc_at _ _ _ _ (by simp)]; rfl)
    (by rw [World.cell?_alloc_lt _ _ t (by simp; omega), World.cell?_alloc_lt _ _ t (by simp; omega), World.cell?_alloc_lt _ _ t (by simp; omega), World.cell?_alloc_lt _ _ t htl]; exact ht0)
    (by rw [World.frozen?_alloc_old _ _ t (by simp; omega), World.frozen?_alloc_old _ _ t (by simp; omega), World.frozen?_alloc_old _ _ t (by simp; omega), World.frozen?_alloc_old _ _ t (Nat.ne_of_lt htl)]; exact hf0)
  go_enter Tryz.func120, Tryz.ntmps120
  go_wp2
  refine wp_loop_rounds 1 ?_
  rw [rounds_succ]
  go_wp2
  go_ret
  exact ⟨rfl, rfl⟩
theorem told_nil (w : World) : Calls Tryz.prog 73 #[.nilIface] w fun e w' => e = .returned (.int .i64 0) ∧ w' = w := by
  go_enter Tryz.func73, Tryz.ntmps73
  go_wp2
  go_ret
  exact ⟨rfl, rfl⟩
set_option maxHeartbeats 4000000 in
theorem told_errno (n : Int) (w : World) (hg : Glob w) : Calls Tryz.prog 73 #[.iface 116 (.int .i64 n)] w fun e w' => e = .returned (.int .i64 n) ∧ Below w.heap.size w w' := by
  have hg1 : Glob (w.alloc (.cells #[.int .i64 0] 116)) := hg.below (below_alloc (Below.refl _ _) _)
  have ht : (w.alloc (.cells #[.int .i64 0] 116)).cell? ⟨w.heap.size, 0, none⟩ = some (.int .i64 0) := by simp
  have hf : (w.alloc (.cells #[.int .i64 0] 116)).frozen? ⟨w.heap.size, 0, none⟩ = false := by simp
  have ha := as_hit n ⟨w.heap.size, 0, none⟩ (.int .i64 0) (w.alloc (.cells #[.int .i64 0] 116)) hg1 ht hf
  have HA := Aside0.mk ha
  clear ha hg1 ht hf
  go_enter Tryz.func73, Tryz.ntmps73
  go_wp2_with (go_at_call 120; refine stop_ ?_)
  refine ⟨?_⟩
  refine HA.out.mono ?_
  rintro e w' ⟨rfl, rfl⟩
  go_wp2
  go_ret
  exact ⟨rfl, by repeat (first | exact Below.refl _ _ | refine below_alloc ?_ _ | refine below_set ?_ (Nat.le_refl _))⟩
set_option maxHeartbeats 4000000 in
/-- Is an error the one told? -/
theorem error_calls (r : Option Int) (e : Int) (w : World) (hg : Glob w) : Calls Tryz.prog 10 #[errW r, .int .i64 e] w fun ev w' => ev = .returned (.bool (codeE r == e)) ∧ Below w.heap.size w w' := by
  cases r with
  | none =>
    rw [errW_none]
    go_enter Tryz.func10, Tryz.ntmps10
    go_wp2_with (go_at_call 73; refine (told_nil _).mono ?_; rintro e w' ⟨rfl, rfl⟩)
    go_ret
    exact ⟨rfl, Below.refl _ _⟩
  | some n =>
    rw [errW_some]
    have ht := told_errno n w hg
    have HT := Aside0.mk ht
    clear ht
    go_enter Tryz.func10, Tryz.ntmps10
    go_wp2_with (go_at_call 73; refine stop_ ?_)
    refine ⟨?_⟩
    refine HT.out.mono ?_
    rintro e w' ⟨rfl, hb⟩
    have HB := Aside0.mk hb
    clear hb
    go_wp2
    go_ret
    exact ⟨rfl, HB.out⟩
theorem error_true {r : Option Int} {e : Int} (he : codeE r = e) (w : World) (hg : Glob w) : Calls Tryz.prog 10 #[errW r, .int .i64 e] w fun ev w' => ev = .returned (.bool true) ∧ Below w.heap.size w w' := by
  have h := error_calls r e w hg
  rw [show (codeE r == e) = true by simpa using he] at h
  exact h
end Go.Proofs.YtdjamphmndbmjaaGreatDoor.M
