/- What the walks of several laws share: the triple of the facts, the rows it lies in. -/
import Derived.Test.YtdjamphmndbmjaaXset3
import Derived.Test.YtdjamphmndbmjaaXsame
import Derived.Test.YtdjamphmndbmjaaXalg
namespace Go.Proofs.Ytdjamphmndbmjaa.M
open Go.RowKit Go.Proofs.YtdjamphmndbmjaaW.PrintWords Go.Proofs.YtdjamphmndbmjaaW.PrintLast Go.Proofs.YtdjamphmndbmjaaW.PrintMore
set_option linter.unusedVariables false
set_option linter.unusedSimpArgs false

/-- The triple of the laws' facts. -/
def xabc : S41 := ⟨⟨1, ⟨#[97]⟩, ⟨#[]⟩⟩, ⟨1, ⟨#[98]⟩, ⟨#[]⟩⟩, ⟨1, ⟨#[99]⟩, ⟨#[]⟩⟩⟩
theorem chk_xabc : chkR xabc = none := by decide +kernel
theorem sorted_one {x : S41} (h : chkR x = none) : sortedR [x] = none := sortedR_iff.2 ⟨by simp, fun y hy => by rw [List.mem_singleton.1 hy]; exact h, List.pairwise_singleton _ _⟩
theorem sorted_nil : sortedR ([] : List S41) = none := rfl
theorem row_one (w : World) (x : S41) : Kd.C k41 (w.alloc (.cells (celR x) 41)) (some ⟨w.heap.size, 0, none⟩) 1 [x] := by
  refine ⟨rfl, by simp, fun _ => ⟨_, rfl, fun j p hj => ?_⟩⟩
  have hj0 : j = 0 := by
    rcases j with _ | j
    · rfl
    · simp at hj
  subst hj0
  obtain rfl : x = p := by simpa using hj
  refine ⟨(celR x).toList, rfl, k41_mk _ x, fun i u hi => ?_⟩
  have ha : Addr.add ⟨w.heap.size, 0, none⟩ (0 * 9 + i) = ⟨w.heap.size, i, none⟩ := by simp [Addr.add]; intro h; exact h.symm
  have e9 : k41.sz = 9 := rfl
  rw [e9, ha]
  exact (blk_cell (blk_new w _) i).trans (by rw [← hi]; simp)
theorem row_three (w : World) (o1 o2 : Obj) : Kd.C k41 (((w.alloc o1).alloc o2).alloc (.cells (celR xabc) 41)) (some ⟨w.heap.size + 1 + 1, 0, none⟩) 1 [xabc] := by
  have h := row_one ((w.alloc o1).alloc o2) xabc
  rw [alloc_size1, alloc_size1] at h
  exact h
theorem C_none (w : World) : Kd.C k41 w none 0 ([] : List S41) := ⟨rfl, by simp, fun h => absurd h (Nat.lt_irrefl 0)⟩
theorem cell_keep {W0 W W' : World} {p : Addr} {v : Value} (h : Below W0.heap.size W0 W) (hb : Below W.heap.size W W') (hc : W0.cell? p = some v) : W'.cell? p = some v := by
  have h1 : W.cell? p = some v := (h.cell (World.block_lt_of_cell? W0 _ hc)).trans hc
  exact (hb.cell (World.block_lt_of_cell? W _ h1)).trans h1
theorem one_cells {w : World} {A : Option Addr} {x : S41} (h : Kd.C k41 w A 1 [x]) : ∃ ad, A = some ad ∧ w.cell? ad = some (.int .i64 x.f0.f0) ∧ w.cell? ⟨ad.block, ad.off + 1, none⟩ = some (.string x.f0.f1) ∧ w.cell? ⟨ad.block, ad.off + 2, none⟩ = some (.string x.f0.f2) ∧ w.cell? ⟨ad.block, ad.off + 3, none⟩ = some (.int .i64 x.f1.f0) ∧ w.cell? ⟨ad.block, ad.off + 4, none⟩ = some (.string x.f1.f1) ∧ w.cell? ⟨ad.block, ad.off + 5, none⟩ = some (.string x.f1.f2) ∧ w.cell? ⟨ad.block, ad.off + 6, none⟩ = some (.int .i64 x.f2.f0) ∧ w.cell? ⟨ad.block, ad.off + 7, none⟩ = some (.string x.f2.f1) ∧ w.cell? ⟨ad.block, ad.off + 8, none⟩ = some (.string x.f2.f2) := by
  obtain ⟨ad, e, hc⟩ := at_T41 h 0 (by omega) (by omega)
  have ea : ad.add ((0 : Int).toNat * 9) = ad := by simp [Addr.add]
  rw [ea] at hc
  exact ⟨ad, e, hc⟩
theorem right2_turn {a b : List S41} {n : Int} (h : right2 a b = some n) : ∃ n', right2 b a = some n' := by
  cases h' : right2 b a with
  | some n' => exact ⟨n', rfl⟩
  | none => rw [right2_none.2 (And.symm (right2_none.1 h'))] at h; cases h
theorem strict_one (x : S41) : Strict [x] := List.pairwise_singleton _ _
theorem join_xabc : joinR [xabc] [] = ([xabc], none) := by
  have hr : right2 [xabc] [] = none := right2_none.2 ⟨sorted_one chk_xabc, sorted_nil⟩
  have hu : unionR [xabc] [] = [xabc] := strict_ext (strict_unionR _ _) (strict_one _) fun x => by rw [mem_unionR]; simp
  unfold joinR
  rw [hr]
  simp only [hu]
  rfl
theorem join_ok {u l0 l1 : List S41} (h : joinR l0 l1 = (u, none)) (A0 A1 : Option Addr) (c0 c1 : Nat) (w : World) (hr0 : Kd.C k41 w A0 l0.length l0) (hc0 : l0.length ≤ c0) (hr1 : Kd.C k41 w A1 l1.length l1) (hc1 : l1.length ≤ c1) :
    Calls Try.prog 28 #[.slice A0 l0.length c0, .slice A1 l1.length c1] w fun e w' => ∃ v, e = .returned (.tuple #[v, .nilIface]) ∧ Row w' v u ∧ Below w.heap.size w w' := by
  have hc := join_calls A0 A1 c0 c1 l0 l1 w hr0 hc0 hr1 hc1
  rw [h] at hc
  exact hc
theorem join_err {u l0 l1 : List S41} {n : Int} (h : joinR l0 l1 = (u, some n)) (A0 A1 : Option Addr) (c0 c1 : Nat) (w : World) (hr0 : Kd.C k41 w A0 l0.length l0) (hc0 : l0.length ≤ c0) (hr1 : Kd.C k41 w A1 l1.length l1) (hc1 : l1.length ≤ c1) :
    Calls Try.prog 28 #[.slice A0 l0.length c0, .slice A1 l1.length c1] w fun e w' => ∃ v, e = .returned (.tuple #[v, .iface 23 (.int .i64 n)]) ∧ Row w' v u ∧ Below w.heap.size w w' := by
  have hc := join_calls A0 A1 c0 c1 l0 l1 w hr0 hc0 hr1 hc1
  rw [h] at hc
  exact hc
theorem less_ok {u l0 l1 : List S41} (h : bothR l0 l1 false = (u, none)) (A0 A1 : Option Addr) (c0 c1 : Nat) (w : World) (hr0 : Kd.C k41 w A0 l0.length l0) (hc0 : l0.length ≤ c0) (hr1 : Kd.C k41 w A1 l1.length l1) (hc1 : l1.length ≤ c1) :
    Calls Try.prog 29 #[.slice A0 l0.length c0, .slice A1 l1.length c1] w fun e w' => ∃ v, e = .returned (.tuple #[v, .nilIface]) ∧ Row w' v u ∧ Below w.heap.size w w' := by
  have hc := less_calls A0 A1 c0 c1 l0 l1 w hr0 hc0 hr1 hc1
  rw [h] at hc
  exact hc
theorem less_err {u l0 l1 : List S41} {n : Int} (h : bothR l0 l1 false = (u, some n)) (A0 A1 : Option Addr) (c0 c1 : Nat) (w : World) (hr0 : Kd.C k41 w A0 l0.length l0) (hc0 : l0.length ≤ c0) (hr1 : Kd.C k41 w A1 l1.length l1) (hc1 : l1.length ≤ c1) :
    Calls Try.prog 29 #[.slice A0 l0.length c0, .slice A1 l1.length c1] w fun e w' => ∃ v, e = .returned (.tuple #[v, .iface 23 (.int .i64 n)]) ∧ Row w' v u ∧ Below w.heap.size w w' := by
  have hc := less_calls A0 A1 c0 c1 l0 l1 w hr0 hc0 hr1 hc1
  rw [h] at hc
  exact hc
theorem both_ok {u l0 l1 : List S41} (h : bothR l0 l1 true = (u, none)) (A0 A1 : Option Addr) (c0 c1 : Nat) (w : World) (hr0 : Kd.C k41 w A0 l0.length l0) (hc0 : l0.length ≤ c0) (hr1 : Kd.C k41 w A1 l1.length l1) (hc1 : l1.length ≤ c1) :
    Calls Try.prog 23 #[.slice A0 l0.length c0, .slice A1 l1.length c1] w fun e w' => ∃ v, e = .returned (.tuple #[v, .nilIface]) ∧ Row w' v u ∧ Below w.heap.size w w' := by
  have hc := both_calls A0 A1 c0 c1 l0 l1 w hr0 hc0 hr1 hc1
  rw [h] at hc
  exact hc
theorem both_err {u l0 l1 : List S41} {n : Int} (h : bothR l0 l1 true = (u, some n)) (A0 A1 : Option Addr) (c0 c1 : Nat) (w : World) (hr0 : Kd.C k41 w A0 l0.length l0) (hc0 : l0.length ≤ c0) (hr1 : Kd.C k41 w A1 l1.length l1) (hc1 : l1.length ≤ c1) :
    Calls Try.prog 23 #[.slice A0 l0.length c0, .slice A1 l1.length c1] w fun e w' => ∃ v, e = .returned (.tuple #[v, .iface 23 (.int .i64 n)]) ∧ Row w' v u ∧ Below w.heap.size w w' := by
  have hc := both_calls A0 A1 c0 c1 l0 l1 w hr0 hc0 hr1 hc1
  rw [h] at hc
  exact hc
theorem has_ok {x : S41} {l0 : List S41} {b : Bool} (h : hasR l0 x = (b, none)) (A0 : Option Addr) (c0 : Nat) (w : World) (hr0 : Kd.C k41 w A0 l0.length l0) (hc0 : l0.length ≤ c0) :
    Calls Try.prog 22 #[.slice A0 l0.length c0, .agg #[.int .i64 x.f0.f0, .string x.f0.f1, .string x.f0.f2, .int .i64 x.f1.f0, .string x.f1.f1, .string x.f1.f2, .int .i64 x.f2.f0, .string x.f2.f1, .string x.f2.f2]] w fun e w' => e = .returned (.tuple #[.bool b, .nilIface]) ∧ Below w.heap.size w w' := by
  have hc := has_calls A0 c0 l0 x w hr0 hc0
  rw [h] at hc
  exact hc
theorem has_err {x : S41} {l0 : List S41} {b : Bool} {n : Int} (h : hasR l0 x = (b, some n)) (A0 : Option Addr) (c0 : Nat) (w : World) (hr0 : Kd.C k41 w A0 l0.length l0) (hc0 : l0.length ≤ c0) :
    Calls Try.prog 22 #[.slice A0 l0.length c0, .agg #[.int .i64 x.f0.f0, .string x.f0.f1, .string x.f0.f2, .int .i64 x.f1.f0, .string x.f1.f1, .string x.f1.f2, .int .i64 x.f2.f0, .string x.f2.f1, .string x.f2.f2]] w fun e w' => e = .returned (.tuple #[.bool b, .iface 23 (.int .i64 n)]) ∧ Below w.heap.size w w' := by
  have hc := has_calls A0 c0 l0 x w hr0 hc0
  rw [h] at hc
  exact hc
theorem same_true {l0 l1 : List S41} (h : l0 = l1) (A0 A1 : Option Addr) (c0 c1 : Nat) (w : World) (hr0 : Kd.C k41 w A0 l0.length l0) (hr1 : Kd.C k41 w A1 l1.length l1) :
    Calls Try.prog 20 #[.slice A0 l0.length c0, .slice A1 l1.length c1] w fun e w' => e = .returned (.bool true) ∧ Below w.heap.size w w' := by
  have hc := same_calls A0 A1 c0 c1 l0 l1 w hr0 hr1
  rw [decide_eq_true h] at hc
  exact hc.mono fun _ _ ⟨he, q, hq⟩ => ⟨he, by rw [hq]; exact pw_below_drewN (Below.refl _ _) q⟩
theorem same_false {l0 l1 : List S41} (h : ¬ l0 = l1) (A0 A1 : Option Addr) (c0 c1 : Nat) (w : World) (hr0 : Kd.C k41 w A0 l0.length l0) (hr1 : Kd.C k41 w A1 l1.length l1) :
    Calls Try.prog 20 #[.slice A0 l0.length c0, .slice A1 l1.length c1] w fun e w' => e = .returned (.bool false) ∧ Below w.heap.size w w' := by
  have hc := same_calls A0 A1 c0 c1 l0 l1 w hr0 hr1
  rw [decide_eq_false h] at hc
  exact hc.mono fun _ _ ⟨he, q, hq⟩ => ⟨he, by rw [hq]; exact pw_below_drewN (Below.refl _ _) q⟩
end Go.Proofs.Ytdjamphmndbmjaa.M
