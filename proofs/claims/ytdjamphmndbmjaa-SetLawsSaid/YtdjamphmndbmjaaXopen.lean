/- What a law is handed, in plain words: a term, a triple, a row of triples. -/
import Derived.Test.YtdjamphmndbmjaaMx0
import Derived.Deep.Slices
import Derived.Deep.Strs
import Derived.ChangeArms
import Derived.Carry
import Derived.OpenShut
namespace Go.Proofs.Ytdjamphmndbmjaa.M
open Go.RowKit Go.Proofs.YtdjamphmndbmjaaW.PrintWords Go.Proofs.YtdjamphmndbmjaaW.PrintLast Go.Proofs.YtdjamphmndbmjaaW.PrintMore
set_option linter.unusedVariables false
set_option linter.unusedSimpArgs false

set_option maxRecDepth 100000
open Go.Deep
section
variable {H : Type} {enc : TypeId × Value → H} {w : World} {base : Nat} {spare : Nat → Bool} {held : Bool}
theorem cells_int : Try.prog.cellsOf 3 = 1 := by kernel_rfl
theorem cells_str : Try.prog.cellsOf 9 = 1 := by kernel_rfl
theorem cells_TM : Try.prog.cellsOf 35 = 3 := by kernel_rfl
theorem cells_TR : Try.prog.cellsOf 41 = 9 := by kernel_rfl
theorem open_TM {fuel : Nat} {cs : List Value} {x : DataW H × List MemPlace} (h : DataW.trod enc Try.prog w base spare held fuel 35 cs = some x) :
    ∃ s : S35, cs = [.int .i64 s.f0, .string s.f1, .string s.f2] := by
  obtain ⟨y0, y1, y2, n, _, hl, h0, h1, h2⟩ := trod_struct3 Try.underlying35 h
  rw [cells_TM] at hl
  match cs, hl with
  | [a, b, c], _ =>
    simp only [cells_int, cells_str] at h0 h1 h2
    obtain ⟨i, e0, _, _⟩ := DataW.trod_int Try.underlying3 h0
    obtain ⟨s1, e1, _, _⟩ := DataW.trod_string Try.underlying9 h1
    obtain ⟨s2, e2, _, _⟩ := DataW.trod_string Try.underlying9 h2
    simp at e0 e1 e2
    exact ⟨⟨i, s1, s2⟩, by rw [e0, e1, e2]⟩
theorem open_TR {fuel : Nat} {cs : List Value} {x : DataW H × List MemPlace} (h : DataW.trod enc Try.prog w base spare held fuel 41 cs = some x) :
    ∃ s : S41, cs = [.int .i64 s.f0.f0, .string s.f0.f1, .string s.f0.f2, .int .i64 s.f1.f0, .string s.f1.f1, .string s.f1.f2, .int .i64 s.f2.f0, .string s.f2.f1, .string s.f2.f2] := by
  obtain ⟨y0, y1, y2, n, _, hl, h0, h1, h2⟩ := trod_struct3 Try.underlying41 h
  rw [cells_TR] at hl
  match cs, hl with
  | [a0, a1, a2, a3, a4, a5, a6, a7, a8], _ =>
    simp only [cells_TM] at h0 h1 h2
    obtain ⟨s0, e0⟩ := open_TM h0
    obtain ⟨s1, e1⟩ := open_TM h1
    obtain ⟨s2, e2⟩ := open_TM h2
    simp at e0 e1 e2
    obtain ⟨rfl, rfl, rfl⟩ := e0
    obtain ⟨rfl, rfl, rfl⟩ := e1
    obtain ⟨rfl, rfl, rfl⟩ := e2
    exact ⟨⟨s0, s1, s2⟩, rfl⟩
theorem open_row {A : Option Addr} {len cap : Nat} {d : DataW H} {ps : List MemPlace} (h : DataW.Trod enc Try.prog w base spare held 26 (.slice A len cap) d ps) :
    ∃ l : List S41, l.length = len ∧ Kd.C k41 w A l.length l ∧ l.length ≤ cap := by
  obtain ⟨fuel, hf⟩ := h
  rcases open_slice Try.underlying26 hf with ⟨hcs, _⟩ | ⟨a, l, c, m, n, D, Pl, hcs, _, hl, hm, hmm, _, hx⟩
  · simp [Value.cells] at hcs
    obtain ⟨rfl, rfl, rfl⟩ := hcs
    exact ⟨[], rfl, ⟨rfl, by simp, fun h => absurd h (Nat.lt_irrefl 0)⟩, Nat.le_refl _⟩
  · simp [Value.cells] at hcs
    obtain ⟨rfl, rfl, rfl⟩ := hcs
    haveI : Inhabited S41 := ⟨z41⟩
    have hlm : len ≤ m := by rw [hmm]; split <;> omega
    rw [cells_TR] at hx
    obtain ⟨V, hV⟩ := choose_lt (α := S41) (n := len) (p := fun i s => ∀ q u, [Value.int .i64 s.f0.f0, .string s.f0.f1, .string s.f0.f2, .int .i64 s.f1.f0, .string s.f1.f1, .string s.f1.f2, .int .i64 s.f2.f0, .string s.f2.f1, .string s.f2.f2][q]? = some u → w.cell? (a.add (i * 9 + q)) = some u) (fun i hi => by
      obtain ⟨cs', h1, h2⟩ := hx i (by omega)
      obtain ⟨s, rfl⟩ := open_TR h2
      obtain ⟨_, hlen, hc⟩ := World.cells?_some h1
      refine ⟨s, fun q u hq => ?_⟩
      have hq9 : q < 9 := by
        rcases Nat.lt_or_ge q 9 with h | h
        · exact h
        · rw [List.getElem?_eq_none (by simpa using h)] at hq; cases hq
      rw [← Go.Deep.add_add, hc q hq9]
      exact hq)
    refine ⟨(List.range len).map V, by simp, ?_, by simpa using hl⟩
    refine ⟨rfl, by simp [maxLen] at hm ⊢; omega, fun hp => ⟨a, rfl, fun j p hj => ?_⟩⟩
    have hjl : j < len := by
      rcases Nat.lt_or_ge j len with h | h
      · exact h
      · rw [List.getElem?_eq_none (by simpa using h)] at hj; cases hj
    have hpj : V j = p := by simpa [hjl] using hj
    subst hpj
    exact ⟨_, rfl, k41_mk w (V j), fun i u hu => hV j hjl i u hu⟩
theorem open_triple {v : Value} {r : Reach} {b0 : Nat} {d : DataW H} {ps : List MemPlace} (hval : Value.okWide Try.prog w r b0 41 v) (h : DataW.Trod enc Try.prog w base spare held 41 v d ps) :
    ∃ s : S41, v = .agg #[.int .i64 s.f0.f0, .string s.f0.f1, .string s.f0.f2, .int .i64 s.f1.f0, .string s.f1.f1, .string s.f1.f2, .int .i64 s.f2.f0, .string s.f2.f1, .string s.f2.f2] := by
  obtain ⟨cs, rfl, _⟩ := Go.WideShapes.okWide_struct Try.underlying41 hval
  obtain ⟨fuel, hf⟩ := h
  obtain ⟨s, hs⟩ := open_TR hf
  refine ⟨s, ?_⟩
  have : cs = (cs.toList).toArray := by simp
  have e : cs.toList = _ := hs
  rw [this, e]
end
end Go.Proofs.Ytdjamphmndbmjaa.M
