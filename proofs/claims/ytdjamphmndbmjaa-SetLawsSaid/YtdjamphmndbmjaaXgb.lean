/- 'Below' with one word more: no answer of the tape is given back. So what is behind is the old world, so many draws on, with new blocks. -/
import Derived.Test.YtdjamphmndbmjaaMx0
import Derived.Sort.Grow
import Derived.Sort.Row
namespace Go.Proofs.Ytdjamphmndbmjaa.M
open Go.RowKit Go.Proofs.YtdjamphmndbmjaaW.PrintWords Go.Proofs.YtdjamphmndbmjaaW.PrintLast Go.Proofs.YtdjamphmndbmjaaW.PrintMore
set_option linter.unusedVariables false
set_option linter.unusedSimpArgs false

structure GBelow (B : Nat) (w w' : World) : Prop where
  bel : Below B w w'
  drawn : w.drawn ≤ w'.drawn
theorem GBelow.refl (B : Nat) (w : World) : GBelow B w w := ⟨Below.refl B w, Nat.le_refl _⟩
theorem GBelow.size {B : Nat} {w w' : World} (h : GBelow B w w') : w.heap.size ≤ w'.heap.size := h.bel.size
theorem gbelow_alloc {w W : World} (h : GBelow w.heap.size w W) (o : Obj) : GBelow w.heap.size w (W.alloc o) := ⟨below_alloc h.bel o, h.drawn⟩
theorem pw_gbelow_drewN {B : Nat} {w W : World} (h : GBelow B w W) (n : Nat) : GBelow B w (W.drewN n) := ⟨pw_below_drewN h.bel n, Nat.le_trans h.drawn (Nat.le_add_right _ _)⟩
theorem gbelow_drew1 {B : Nat} {w W : World} (h : GBelow B w W) : GBelow B w W.drew := ⟨below_drew1 h.bel, Nat.le_trans h.drawn (Nat.le_add_right _ _)⟩
theorem gbelow_set {w W : World} {g j : Nat} {v : Value} (h : GBelow w.heap.size w W) (hg : w.heap.size ≤ g) : GBelow w.heap.size w (W.setCell ⟨g, j, none⟩ v) := ⟨below_set h.bel hg, h.drawn⟩
theorem gbelow_size {w W : World} (h : GBelow w.heap.size w W) : w.heap.size ≤ W.heap.size := h.bel.size
theorem gbelow_step {w W w2 : World} (h : GBelow w.heap.size w W) (k : GBelow W.heap.size W w2) : GBelow w.heap.size w w2 := ⟨below_step h.bel k.bel, Nat.le_trans h.drawn k.drawn⟩
theorem gblk_below {w w1 : World} {g : Nat} {o : Obj} (h : w.heap[g]? = some o) (hb : GBelow w.heap.size w w1) : w1.heap[g]? = some o := blk_below h hb.bel
theorem GBelow.grown {w w' : World} (h : GBelow w.heap.size w w') : ∃ q os, w' = Sort.grow (w.drewN q) os := by
  refine ⟨w'.drawn - w.drawn, w'.heap.extract w.heap.size w'.heap.size, ?_⟩
  obtain ⟨⟨h1, h2, h3, h4, h5⟩, h6⟩ := h
  have hh : w'.heap = w.heap ++ w'.heap.extract w.heap.size w'.heap.size := by
    apply Array.ext_getElem?
    intro i
    by_cases hi : i < w.heap.size
    · rw [Array.getElem?_append_left hi]; exact h5 i hi
    · rw [Array.getElem?_append_right (by omega), Array.getElem?_extract]
      by_cases hj : i < w'.heap.size
      · rw [if_pos (by omega)]; congr 1; omega
      · rw [if_neg (by omega), Array.getElem?_eq_none (by omega)]
  obtain ⟨H1, T1, D1, O1, U1⟩ := w'
  obtain ⟨H0, T0, D0, O0, U0⟩ := w
  simp only at h1 h2 h3 h6 hh
  subst h1 h2 h3
  show World.mk H1 _ D1 _ _ = World.mk (H0 ++ H1.extract H0.size H1.size) _ (D0 + (D1 - D0)) _ _
  rw [show D0 + (D1 - D0) = D1 by omega, ← hh]
  rfl
section
variable {P : Program} {ops : Array Oper} {rest : List Oper} {o : Oper} {a : Act} {Q : Exit → Act → World → Prop} {Kc : Act → World → Prop} {α : Type}
theorem gbox_event {W : World} (hgd : o.guard = none) {N : Tmp} (hd : o.dst = some N) {cs : Array Value} {t : TypeId}
    (hrun : (execOp a.eval o).run P W = .ok (.value (.pointer (some ⟨W.heap.size, 0, none⟩))) (W.alloc (.cells cs t (0, 0))))
    (h : ∀ g, g = W.heap.size → ∀ w1, w1.heap[g]? = some (.cells cs t (0, 0)) → GBelow W.heap.size W w1 → wpList P ops Q rest (a.put o.dst (.pointer (some ⟨g, 0, none⟩))) w1) : wpList P ops Q (o :: rest) a W :=
  Kd.event_run hgd hrun (h _ rfl _ (blk_new W _) (gbelow_alloc (GBelow.refl _ _) _))
theorem R_lit_stepG (d : Kd α) {W : World} (base e : Nat) (hw : Region.wanted o (yielded ops a.tmps) = true) {N : Tmp} (_hd : o.dst = some N) {xs : List α} {inner : List Value} {ok okp : Nat → Prop}
    (hrun : (execOp a.eval o).run P W = .ok (.value (.slice (some ⟨W.heap.size, 0, none⟩) xs.length xs.length)) (W.alloc (.cells inner.toArray e)))
    (hrep : Reps (d.M W base okp) d.sz xs inner) (hok : ∀ k, okp k → ok k) (hfresh : ok W.heap.size) (HB : GBelow base W W) (hbase : base ≤ W.heap.size) (hm : xs.length ≤ 9223372036854775807)
    (h : ∀ v1 w1, d.R e w1 base ok v1 xs → GBelow base W w1 → W.grownBy w1 none → (∃ b, v1.ownBlock = some b ∧ W.heap.size ≤ b) → Kc (a.put o.dst v1) w1) : if Region.wanted o (yielded ops a.tmps) = true then Oper.wp P o a W Kc Q else Kc (a.put o.dst undef) W := by
  refine event_step hw hrun (h _ _ ⟨fun k hk => ?_, inner, ?_, ?_⟩ ⟨HB.bel.alloc hbase _, Nat.le_refl _⟩ (World.grownBy_alloc W _ none) ⟨W.heap.size, by simp [Value.ownBlock], Nat.le_refl _⟩)
  · have : W.heap.size = k := by simpa [Value.ownBlock] using hk
    subst this
    exact hfresh
  · have h2 := World.ownsRow_lit (base := base) (e := e) (size := d.sz) W inner.toArray xs.length hbase (by simpa [maxLen] using hm) (by simpa using hrep.1)
    simpa using h2
  · refine hrep.imp_ (fun x cs hx => ?_)
    refine d.M_mono (fun k hk => ?_) (d.M_move (w1 := W.alloc (.cells inner.toArray e)) (fun k hk => ?_) (d.M_bound hx))
    · refine ⟨hok k hk.1, fun he => ?_⟩
      have : k = W.heap.size := by simpa [Value.ownBlock] using he
      have := hk.2.2.1
      omega
    · exact (below_alloc (Below.refl W.heap.size W) _).block k hk.2.2.1
end
end Go.Proofs.Ytdjamphmndbmjaa.M
