/- slices.BinarySearchFunc at []api.Triple under triple.Compare, over a set that is sorted. By hand. -/
import Derived.Test.YtdjamphmndbmjaaXord
import Derived.Shelf.SlSortCmp.QuietGrown
import Derived.Shelf.Abstract
namespace Go.Proofs.Ytdjamphmndbmjaa.M
open Go.RowKit Go.Proofs.YtdjamphmndbmjaaW.PrintWords Go.Proofs.YtdjamphmndbmjaaW.PrintLast Go.Proofs.YtdjamphmndbmjaaW.PrintMore
set_option linter.unusedVariables false
set_option linter.unusedSimpArgs false

open Go.Sort

/-- What a set owes: at most 200, each right, each above the one ahead. -/
theorem sortedFrom_cons {p : Option S41} {t : S41} {l : List S41} (h : sortedFrom p (t :: l) = none) : chkR t = none ∧ (∀ q, p = some q → cmpR q t < 0) ∧ sortedFrom (some t) l = none := by
  unfold sortedFrom at h
  cases hc : chkR t with
  | some e => rw [hc] at h; cases h
  | none =>
    rw [hc] at h
    cases p with
    | none =>
      simp only [Bool.false_eq_true, if_false] at h
      exact ⟨rfl, fun q hq => (by cases hq), h⟩
    | some q =>
      by_cases hq : 0 ≤ cmpR q t
      · simp only [hq, decide_true, if_true] at h
        cases h
      · simp only [hq, decide_false, Bool.false_eq_true, if_false] at h
        refine ⟨rfl, fun q' hq' => ?_, h⟩
        injection hq' with hq'
        subst hq'
        omega
theorem sortedFrom_none : ∀ (l : List S41) (p : Option S41), sortedFrom p l = none → (∀ q, p = some q → ∀ x ∈ l, cmpR q x < 0) ∧ (∀ x ∈ l, chkR x = none) ∧ l.Pairwise (fun a b => cmpR a b < 0)
  | [], p => fun _ => ⟨fun _ _ _ hx => (by cases hx), fun _ hx => (by cases hx), List.Pairwise.nil⟩
  | t :: l, p => fun h => by
    obtain ⟨hc, hp, h⟩ := sortedFrom_cons h
    obtain ⟨h1, h2, h3⟩ := sortedFrom_none l (some t) h
    refine ⟨fun q hq x hx => ?_, fun x hx => ?_, List.Pairwise.cons (fun x hx => h1 t rfl x hx) h3⟩
    · have hqt := hp q hq
      rcases List.mem_cons.1 hx with rfl | hx
      · exact hqt
      · exact lawR.trans q t x hqt (h1 t rfl x hx)
    · rcases List.mem_cons.1 hx with rfl | hx
      · exact hc
      · exact h2 x hx
theorem sortedR_none {l : List S41} (h : sortedR l = none) : l.length ≤ 200 ∧ (∀ x ∈ l, chkR x = none) ∧ l.Pairwise (fun a b => cmpR a b < 0) := by
  unfold sortedR at h
  split at h
  · cases h
  · obtain ⟨_, h2, h3⟩ := sortedFrom_none l none h
    exact ⟨by omega, h2, h3⟩

/-- The cells of a triple. -/
def encR (x : S41) : List Value := [.int .i64 x.f0.f0, .string x.f0.f1, .string x.f0.f2, .int .i64 x.f1.f0, .string x.f1.f1, .string x.f1.f2, .int .i64 x.f2.f0, .string x.f2.f1, .string x.f2.f2]

theorem grown_cell {w : World} {a : Addr} {v : Value} (h : w.cell? a = some v) (n : Nat) (os : Array Obj) : (grow (w.drewN n) os).cell? a = some v := cell_grown (World.block_lt_of_cell? w a h) h n os
/-- A box that was laid at the end of the world w. -/
theorem box_grown {w wr : World} {cs : List Value} {T : Nat} (h : ∃ q os, wr = grow ((w.alloc (.cells cs.toArray T)).drewN q) os) (c : Nat) (v : Value) (hc : cs[c]? = some v) (n : Nat) (os : Array Obj) : (grow (wr.drewN n) os).cell? ⟨w.heap.size, c, none⟩ = some v := by
  obtain ⟨q, os', rfl⟩ := h
  refine grown_cell (grown_cell ?_ q os') n os
  exact (blk_cell (blk_new w (.cells cs.toArray T)) c).trans (by simpa using hc)
theorem grow_below (w : World) (n : Nat) (os : Array Obj) : Below w.heap.size w (grow (w.drewN n) os) :=
  ⟨rfl, rfl, rfl, by show w.heap.size ≤ (w.heap ++ os).size; rw [Array.size_append]; omega, fun k hk => by show (w.heap ++ os)[k]? = w.heap[k]?; rw [Array.getElem?_append_left hk]⟩
theorem grown_again {w wr : World} {T : Nat} {cs : Array Value} (h : ∃ q os, wr = grow ((w.alloc (.cells cs T)).drewN q) os) (n : Nat) (os : Array Obj) : ∃ q os', grow (wr.drewN n) os = grow ((w.alloc (.cells cs T)).drewN q) os' := by
  obtain ⟨q, os', rfl⟩ := h
  refine ⟨q + n, os' ++ os, ?_⟩
  show grow (grow (((w.alloc (.cells cs T)).drewN q).drewN n) os') os = _
  rw [grow_grow, World.drewN_drewN]
/-- A block that was laid ahead is one of the new ones. -/
theorem alloc_grown {w w' : World} {o : Obj} (h : ∃ q os, w' = grow ((w.alloc o).drewN q) os) : ∃ q os, w' = grow (w.drewN q) os := by
  obtain ⟨q, os, rfl⟩ := h
  refine ⟨q, #[o] ++ os, ?_⟩
  have e : (w.heap.push o) ++ os = w.heap ++ (#[o] ++ os) := by rw [← Array.append_assoc]; rfl
  show World.mk ((w.heap.push o) ++ os) _ _ _ _ = World.mk (w.heap ++ (#[o] ++ os)) _ _ _ _
  rw [e]
  rfl
theorem grown_below {w w' : World} (h : ∃ q os, w' = grow (w.drewN q) os) : Below w.heap.size w w' := by
  obtain ⟨q, os, rfl⟩ := h
  exact grow_below w q os
theorem below_all {l : List S41} {t : S41} (hs : l.Pairwise (fun a b => cmpR a b < 0)) (m : Nat) (hm : m < l.length) (h : cmpR l[m] t < 0) (k : Nat) (hk : k < l.length) (hkm : k ≤ m) : cmpR l[k] t < 0 := by
  rcases Nat.lt_or_ge k m with h' | h'
  · exact lawR.trans _ _ _ (List.pairwise_iff_getElem.1 hs k m hk hm h') h
  · obtain rfl : k = m := by omega
    exact h
theorem above_all {l : List S41} {t : S41} (hs : l.Pairwise (fun a b => cmpR a b < 0)) (m : Nat) (hm : m < l.length) (h : 0 ≤ cmpR l[m] t) (k : Nat) (hk : k < l.length) (hkm : m ≤ k) : 0 ≤ cmpR l[k] t := by
  rcases Nat.lt_or_ge m k with h' | h'
  · have h1 := List.pairwise_iff_getElem.1 hs m k hm hk h'
    rcases Int.lt_or_le (cmpR l[k] t) 0 with h2 | h2
    · have := lawR.trans _ _ _ h1 h2
      omega
    · exact h2
  · obtain rfl : k = m := by omega
    exact h
def BsPost (l : List S41) (t : S41) (e : Ending) : Prop := ∃ i : Nat, i ≤ l.length ∧ (∀ k (h : k < l.length), k < i → cmpR l[k] t < 0) ∧ (∀ k (h : k < l.length), i ≤ k → 0 ≤ cmpR l[k] t) ∧ e = .returned (.tuple #[.int .i64 i, .bool (decide (∃ h : i < l.length, cmpR l[i] t = 0))])

set_option maxHeartbeats 8000000 in
set_option maxRecDepth 100000 in
theorem bs_calls (A : Option Addr) (cap : Nat) (l : List S41) (t : S41) (w : World) (hr : Kd.C k41 w A l.length l) (hn : l.length ≤ 200) (hs : l.Pairwise (fun a b => cmpR a b < 0)) :
    Calls Try.prog 73 #[.slice A l.length cap, .agg #[.int .i64 t.f0.f0, .string t.f0.f1, .string t.f0.f2, .int .i64 t.f1.f0, .string t.f1.f1, .string t.f1.f2, .int .i64 t.f2.f0, .string t.f2.f1, .string t.f2.f2], .func (.func 46) #[] #[]] w
      fun e w' => BsPost l t e ∧ ∃ q os, w' = grow (w.drewN q) os := by
  have HR := Aside0.mk hr
  have HS := Aside0.mk hs
  clear hr hs
  have mixed : Try.prog.follows .mixedOrders = true := by kernel_rfl
  have eg : ∀ args w, (callFunc 46 args).run Try.prog w = .ok (.enter 46 args) w := enters_of Try.func46 (by kernel_rfl) rfl
  go_enter Try.func73, Try.ntmps73
  go_wp2
  go_loopg [9, 10, 11] l.length (fun gg s9 s10 _ wr => ∃ i j : Nat, i ≤ j ∧ j ≤ l.length ∧ j - i ≤ gg ∧ s9 = .int .i64 i ∧ s10 = .int .i64 j ∧ Aside0 (∃ q os, wr = grow ((w.alloc (.cells (encR t).toArray 41)).drewN q) os) ∧ Aside0 (∀ k (h : k < l.length), k < i → cmpR l[k] t < 0) ∧ Aside0 (∀ k (h : k < l.length), j ≤ k → 0 ≤ cmpR l[k] t))
  case atStart => exact ⟨0, l.length, by omega, by omega, by omega, rfl, rfl, ⟨0, #[], by simp; rfl⟩, ⟨fun k h hk => absurd hk (Nat.not_lt_zero _)⟩, ⟨fun k h hk => by omega⟩⟩
  case round =>
    obtain ⟨i, j, hij, hjn, hgg, rfl, rfl, HW, HA, HB⟩ := hrel
    have hbw : Below w.heap.size w wr := by
      obtain ⟨q, os, rfl⟩ := HW.out
      exact below_step (below_alloc (Below.refl _ _) _) (grow_below _ q os)
    have hbox := fun (c : Nat) (v : Value) (h : (encR t)[c]? = some v) (n : Nat) (os : Array Obj) => box_grown HW.out c v h n os
    have b0 := hbox 0 _ rfl; have b1 := hbox 1 _ rfl; have b2 := hbox 2 _ rfl; have b3 := hbox 3 _ rfl; have b4 := hbox 4 _ rfl; have b5 := hbox 5 _ rfl; have b6 := hbox 6 _ rfl; have b7 := hbox 7 _ rfl; have b8 := hbox 8 _ rfl
    have HBW := Aside0.mk hbw
    clear hbw hbox
    by_cases hlt : i < j
    · have hltz : (i : Int) < (j : Int) := by omega
      obtain ⟨ad, e0, h0, h1, h2, h3, h4, h5, h6, h7, h8⟩ := at_T41 (Kd.C_below HR.out HBW.out) (((i : Int) + (j : Int)) / 2) (by omega) (by omega)
      subst e0
      have hrd : rd_T41 l (((i : Int) + (j : Int)) / 2) = l[(i + j) / 2] := by
        rw [show ((i : Int) + (j : Int)) / 2 = (((i + j) / 2 : Nat) : Int) by omega]; exact rd_T41_at l ((i + j) / 2) (by omega)
      rw [hrd] at h0 h1 h2 h3 h4 h5 h6 h7 h8
      clear hrd
      have g0 := grown_cell h0; have g1 := grown_cell h1; have g2 := grown_cell h2; have g3 := grown_cell h3; have g4 := grown_cell h4; have g5 := grown_cell h5; have g6 := grown_cell h6; have g7 := grown_cell h7; have g8 := grown_cell h8
      clear h0 h1 h2 h3 h4 h5 h6 h7 h8
      have hm1 : (0 : Int) ≤ ((i : Int) + j) / 2 := by omega
      have hm2 : ((i : Int) + j) / 2 < l.length := by omega
      have hlow := fun (h : cmpR l[(i + j) / 2] t < 0) => below_all HS.out ((i + j) / 2) (by omega) h
      have hhigh := fun (h : 0 ≤ cmpR l[(i + j) / 2] t) => above_all HS.out ((i + j) / 2) (by omega) h
      generalize hx : l[(i + j) / 2] = x at g0 g1 g2 g3 g4 g5 g6 g7 g8 hlow hhigh
      have HLOW := Aside0.mk hlow
      have HHIGH := Aside0.mk hhigh
      clear hx hlow hhigh
      have hcmp := fun W => compareR_grown x t W
      by_cases hc : cmpR x t < 0
      · have HC := Aside0.mk hc
        generalize cmpR x t = cx at hcmp hc
        have hcb : decide (cx < 0) = true := decide_eq_true hc
        clear hc
        go_wp2
        go_quiet_grown ((go_at_fn 46; exact Calls.grown_of (hcmp _)))
        go_wp2
        go_roundg (j - ((i + j) / 2 + 1))
        case measure => omega
        case rel => exact ⟨(i + j) / 2 + 1, j, by omega, by omega, Nat.le_refl _, by go_num, rfl, ⟨grown_again HW.out _ _⟩, ⟨fun k hk hlt' => HLOW.out HC.out k hk (by omega)⟩, HB⟩
      · have HC := Aside0.mk (show 0 ≤ cmpR x t by omega)
        generalize cmpR x t = cx at hcmp hc
        have hcb : decide (cx < 0) = false := decide_eq_false hc
        clear hc
        go_wp2
        go_quiet_grown ((go_at_fn 46; exact Calls.grown_of (hcmp _)))
        go_wp2
        go_roundg ((i + j) / 2 - i)
        case measure => omega
        case rel => exact ⟨i, (i + j) / 2, by omega, by omega, Nat.le_refl _, rfl, by go_num, ⟨grown_again HW.out _ _⟩, HA, ⟨fun k hk hle => HHIGH.out HC.out k hk hle⟩⟩
    · have hltz : ¬ (i : Int) < (j : Int) := by omega
      obtain rfl : i = j := by omega
      by_cases hin : i < l.length
      · have hinz : (i : Int) < (l.length : Int) := by omega
        obtain ⟨ad, e0, h0, h1, h2, h3, h4, h5, h6, h7, h8⟩ := at_T41 (Kd.C_below HR.out HBW.out) (i : Int) (by omega) (by omega)
        subst e0
        rw [rd_T41_at l i hin] at h0 h1 h2 h3 h4 h5 h6 h7 h8
        rw [Int.toNat_natCast] at h0 h1 h2 h3 h4 h5 h6 h7 h8
        have g0 := grown_cell h0; have g1 := grown_cell h1; have g2 := grown_cell h2; have g3 := grown_cell h3; have g4 := grown_cell h4; have g5 := grown_cell h5; have g6 := grown_cell h6; have g7 := grown_cell h7; have g8 := grown_cell h8
        clear h0 h1 h2 h3 h4 h5 h6 h7 h8
        have HI : Aside0 (∀ c, c = cmpR l[i] t → (∃ h : i < l.length, cmpR l[i] t = 0) = (c = 0)) := ⟨fun c hc => by subst hc; exact propext ⟨fun h => h.2, fun h => ⟨hin, h⟩⟩⟩
        have hcmp := fun W => compareR_grown l[i] t W
        have HX := Aside0.mk (rfl : cmpR l[i] t = cmpR l[i] t)
        generalize hcx : cmpR l[i] t = cx at hcmp
        have HCX := Aside0.mk hcx
        clear hcx
        generalize l[i] = x at g0 g1 g2 g3 g4 g5 g6 g7 g8 hcmp
        go_wp2
        go_quiet_grown ((go_at_fn 46; exact Calls.grown_of (hcmp _)))
        go_wp2
        go_ret2
        refine ⟨⟨i, hjn, HA.out, HB.out, ?_⟩, alloc_grown (grown_again HW.out _ _)⟩
        have := HI.out cx HCX.out.symm
        simp only [this]
        rfl
      · have hinb : decide ((i : Int) < (l.length : Int)) = false := decide_eq_false (by omega)
        have hinb2 : decide (i < l.length) = false := decide_eq_false hin
        go_wp2
        go_quiet_grown (fail)
        go_wp2
        go_ret2
        refine ⟨⟨i, hjn, HA.out, HB.out, ?_⟩, alloc_grown (grown_again HW.out _ _)⟩
        have : decide (∃ h : i < l.length, cmpR l[i] t = 0) = false := decide_eq_false (fun h => hin h.1)
        rw [this]
        rfl
end Go.Proofs.Ytdjamphmndbmjaa.M
